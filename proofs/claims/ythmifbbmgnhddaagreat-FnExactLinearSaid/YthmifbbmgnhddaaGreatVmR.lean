/- A part. -/
import Derived.Test.YthmifbbmgnhddaaGreatVmPa
import Derived.Lib.AppendStr
import Derived.Orders
set_option linter.unusedSimpArgs false
set_option linter.unusedVariables false
namespace Go.Vm
open Go.RowKit
variable {P:Program} {w0:Bs} {St0 St:Nat→Nat→Prop} {β:Nat→Option Nat} {s:MS} {a:Act} {w:World}
def J4 (st:List Ob) (l i off:Nat) (ob:Ob) (row:List Cl) (ty:TypeId) (sz:Nat) (xs:List (List Cl)):List Ob:=
 st.set l ⟨ob.ty,ob.sz,ob.xs.set i (row.set off (.ref st.length)),ob.wr,ob.live⟩ ++ [⟨ty,sz,xs,true,true⟩]
def ACs (P:Program) (s:MS) (T:TypeId) (x:AV):Option (AV×List Ob):=match BX P T,x with
 | some false,.lp l i off=>match EH s.st l with
  | some ob=>if ob.wr=true then match ob.xs[i]? with
   | some row=>match row[off]? with
    | some (.ow ty sz xs)=>some (.c (.ref s.st.length),J4 s.st l i off ob row ty sz xs)
    | _=>none
   | none=>none
   else none
  | none=>none
 | _,_=>none
theorem yX {xs:List (List Cl)} {sz i off:Nat} {row:List Cl} {c:Cl} (hl:∀ x∈xs,x.length=sz) (hi:xs[i]?=some row) (ho:off<row.length) :
  ∀ (k:Nat) (d:Cl),(xs.set i (row.set off c)).flatten[k]?=some d→(k=i*sz+off∧d=c)∨(k≠i*sz+off∧xs.flatten[k]?=some d):=by
 intro k d hk
 have hrl:row.length=sz:=hl row (bI hi)
 have e:xs.set i (row.set off c)=xs.set i (row.take off++([c]++row.drop (off+1))):=by
  congr 1
  rw[List.set_eq_take_append_cons_drop,bG ho]
  rfl
 have hle:off+1≤row.length:=ho
 have hFl:xs.flatten.length=xs.length*sz:=EZ hl
 have hil:i<xs.length:=(aP.1 hi).1
 have hpos:i*sz+(off+1)≤xs.flatten.length:=by
  rw[hFl]
  have:(i+1)*sz≤xs.length*sz:=aaG _ hil
  rw[sD] at this; omega
 rw[e,TE hl hi hle] at hk
 have l1:(xs.flatten.take (i*sz+off)).length=i*sz+off:=by rw[bJ]; omega
 rcases bZ k (i*sz+off) with h1 | h1
 ·grind
 ·rw[bf AQ2,l1] at hk
  rcases bZ (k-(i*sz+off)) 1 with h2 | h2
  ·grind
  ·rw[bf AQ2,abb] at hk
   grind
theorem Core.openCell (h:Core w0 St0 St β s a w) {l i off:Nat} {ob:Ob} {row:List Cl} {ty:TypeId} {sz:Nat} {xs:List (List Cl)} (hob:EH s.st l=some ob) (hwr:ob.wr=true) (hrow:ob.xs[i]?=some row) (hcell:row[off]?=some (.ow ty sz xs)) :
  ∃ b u β',β l=some b∧w.cell? ⟨b,i*ob.sz+off,none⟩=some u∧Core w0 St0 St β' ⟨s.n,s.env,J4 s.st l i off ob row ty sz xs⟩ a w∧RdC w St (J4 s.st l i off ob row ty sz xs) β' (.ref s.st.length) u:=by
 obtain⟨hl,hlive⟩:=Ci hob
 obtain⟨φ,f1,f2,f3⟩:=h.own
 have hll:l<s.st.length:=(aP.1 hl).1
 cases hβ:β l with
 | none =>
  have:=h.nil l ob hl hlive hβ
  grind
 | some b =>
  obtain⟨hmay,hlt,cs0,g1,g2,g3⟩:=h.obs l ob b hl hlive hβ
  have hoff:off<row.length:=(aP.1 hcell).1
  have hk0:ob.xs.flatten[i*ob.sz+off]?=some (.ow ty sz xs):=G8 g2 i off row _ hrow hcell
  obtain⟨u,hu,hr⟩:=f1 l ob b _ _ hl hlive hβ hk0 rfl
  have hu1:u.oneCell'=true:=(RdO.toB (st:=s.st) (β:=β) hr).one
  have hnew:∃ (nb:Option Nat) (G:Nat→Nat→Prop),(∀ k x,G k x→φ l (i*ob.sz+off) x∧nb≠some x)∧(∀ k k' x,G k x→G k' x→k=k')∧(nb=none→∀ k x,¬ G k x)∧(nb=none→u = .slice none 0 0∧xs = []) ∧
    ∀ b',nb=some b'→φ l (i*ob.sz+off) b'∧∃ (cap:Nat) (cs:Array Value),u = .slice (some ⟨b',0,none⟩) xs.length cap∧xs.length≤cap∧cap≤maxLen∧w.heap[b']?=some (.cells cs ty (0,0))∧cs.size=cap*sz∧(∀ x∈xs,x.length=sz) ∧
     ∀ (k:Nat) (c:Cl),xs.flatten[k]?=some c→∃ y,cs[k]?=some y∧RdO w St c y (G k):=by
   simp only[RdO] at hr
   rcases hr with ⟨e1,e2⟩ | ⟨b',cap,cs,G,e1,e2,e3,e4,e5,e6,e7,e8,e9,e10⟩
   ·exact⟨none,fun _ _=>False,fun _ _ h=>h.elim,fun _ _ _ h=>h.elim,fun _ _ _ h=>h,fun _=>⟨e1,e2⟩,(fun b' h=>AR0)⟩
   ·refine⟨some b',G,fun k x hx=>⟨(e8 k x hx).1,fun e=>(e8 k x hx).2 (yH e).symm⟩,e9,(fun h=>AR0),(fun h=>AR0),fun b'' hb=>?_⟩
    cases hb
    exact⟨e7,cap,cs,e1,e2,e3,e4,e5,e6,fun k c hk=>by simpa using e10.at hk⟩
  obtain⟨nb,G,n1,n2,n5,n3,n4⟩:=hnew
  have hset:∀ (l':Nat),(J4 s.st l i off ob row ty sz xs)[l']?=if l'=s.st.length then some ⟨ty,sz,xs,true,true⟩ else if l'=l then some ⟨ob.ty,ob.sz,ob.xs.set i (row.set off (.ref s.st.length)),ob.wr,ob.live⟩ else s.st[l']?:=by
   intro l'
   unfold J4
   by_cases e:l'=s.st.length
   ·grind
   ·grind
  have hl2:∀ (l':Nat) (o2:Ob),(J4 s.st l i off ob row ty sz xs)[l']?=some o2→(l'=s.st.length∧o2=⟨ty,sz,xs,true,true⟩)∨(l'=l∧l'<s.st.length∧o2=⟨ob.ty,ob.sz,ob.xs.set i (row.set off (.ref s.st.length)),ob.wr,ob.live⟩)∨(l'≠l∧l'<s.st.length∧s.st[l']?=some o2):=by
   intro l' o2 h2
   rw[hset l'] at h2
   by_cases e:l'=s.st.length
   ·grind
   ·grind
  have hold:∀ (l':Nat) (o2:Ob),s.st[l']?=some o2→∃ o3,(J4 s.st l i off ob row ty sz xs)[l']?=some o3∧o3.live=o2.live∧o3.sz=o2.sz∧o3.ty=o2.ty∧o3.xs.length=o2.xs.length∧o3.wr=o2.wr:=by
   intro l' o2 h2
   have hl':l'<s.st.length:=(aP.1 h2).1
   rw[hset l']
   have e:¬ l'=s.st.length:=AQ2
   by_cases e2:l'=l
   ·grind
   ·grind
  have hr':∀ (l':Nat) (v:Value),BZ w s.st β l' v→BZ w (J4 s.st l i off ob row ty sz xs) (fun m=>if m=s.st.length then nb else β m) l' v:=by
   intro l' v hv
   have hd:=sK hv
   unfold BZ at hv ⊢
   exact AOl
  have hp':∀ (l' i' off':Nat) (v:Value),AVR w St s.st β (.lp l' i' off') v→AVR w St (J4 s.st l i off ob row ty sz xs) (fun m=>if m=s.st.length then nb else β m) (.lp l' i' off') v:=by
   intro l' i' off' v hv
   have hd:=ABV hv
   simp only[AVR] at hv ⊢
   exact AOl
  have hBB:∀ (c:Cl) (v:Value),RdB w St s.st β c v→RdB w St (J4 s.st l i off ob row ty sz xs) (fun m=>if m=s.st.length then nb else β m) c v:=fun c v hv=>RdB.mono (fun _ _ h=>h) (fun _ _ _=>rfl) hr' c v hv
  have href:RdC w St (J4 s.st l i off ob row ty sz xs) (fun m=>if m=s.st.length then nb else β m) (.ref s.st.length) u:=by
   simp only[RdC,BZ,hset s.st.length,bH]
   refine⟨hu1,fun _=>?_⟩
   cases hnb:nb with
   | none=>exact n3 hnb
   | some b' =>
    grind
  have hfree:∀ x,φ l (i*ob.sz+off) x→QE w0 (fun _=>False) w St s.st β x:=fun x hx=>(f2 l _ x hx).2
  refine⟨b,u,_,rfl,hu, ?_,href⟩
  exact {
   defers:=h.defers
   size:=h.size
   lim:=h.lim
   env:=fun k=>AVR.mono (fun _ _ h=>h) (fun _ _ _=>rfl) hr' hp' _ _ (h.env k)
   below:=h.below,st0:=h.st0,stOld:=h.stOld,stIn:=h.stIn
   obs:=fun l' o2 b2 h2 hlv hb=>by
    rcases hl2 l' o2 h2 with ⟨rfl,rfl⟩ | ⟨rfl,hl',rfl⟩ | ⟨hne,hl',h3⟩
    ·simp only[bH] at hb
     obtain⟨q1,cap,cs,e1,e2,e3,e4,e5,e6,e7⟩:=n4 b2 hb
     have hf:=hfree b2 q1
     refine⟨hf.1,hf.2.2.1,cs,e4,e6,fun k c hk=>?_⟩
     obtain⟨y,hy,hro⟩:=e7 k c hk
     exact⟨y,hy,hro.toB⟩
    ·have e:¬ l'=s.st.length:=by omega
     simp only[e,aY] at hb
     rw[hβ] at hb
     cases hb
     refine⟨hmay,hlt,cs0,g1,fun x hx=>?_,fun k c hk=>?_⟩
     ·grind
     ·rcases yX g2 hrow hoff k c hk with ⟨rfl,rfl⟩ | ⟨_,hk'⟩
      ·refine⟨u,by simpa [World.cell?,g1] using hu,href.toB⟩
      grind
    ·have e:¬ l'=s.st.length:=by omega
     simp only[e,aY] at hb
     obtain⟨q1,q2,cs,p1,p2,p3⟩:=h.obs l' o2 b2 h3 hlv hb
     refine⟨q1,q2,cs,p1,p2,fun k c hk=>?_⟩
     grind
   nil:=fun l' o2 h2 hlv hb=>by
    rcases hl2 l' o2 h2 with ⟨rfl,rfl⟩ | ⟨rfl,hl',rfl⟩ | ⟨hne,hl',h3⟩
    ·grind
    ·grind
    ·have e:¬ l'=s.st.length:=by omega
     simp only[e,aY] at hb
     exact h.nil l' o2 h3 hlv hb
   inj:=fun l1 l2 o1 o2 b' h1 h2 h3 h4 h5 h6=>by
    have key:∀ (m:Nat) (o:Ob),(J4 s.st l i off ob row ty sz xs)[m]?=some o→o.live=true→m≠s.st.length→∃ o',s.st[m]?=some o'∧o'.live=true:=by
     intro m o hm hlv hne
     rcases hl2 m o hm with ⟨e,_⟩ | ⟨rfl,hl',rfl⟩ | ⟨_,hl',h3⟩
     ·omega
     ·grind
     ·grind
    by_cases e1:l1=s.st.length<;>by_cases e2:l2=s.st.length
    ·omega
    ·simp only[e1,e2,bH,aY] at h5 h6
     obtain⟨o',p1,p2⟩:=key l2 o2 h2 h4 e2
     exact absurd h6 ((hfree b' (n4 b' h5).1).2.2.2.2 l2 o' p1 p2)
    ·simp only[e1,e2,bH,aY] at h5 h6
     obtain⟨o',p1,p2⟩:=key l1 o1 h1 h3 e1
     exact absurd h5 ((hfree b' (n4 b' h6).1).2.2.2.2 l1 o' p1 p2)
    ·simp only[e1,e2,aY] at h5 h6
     obtain⟨o',p1,p2⟩:=key l1 o1 h1 h3 e1
     obtain⟨o'',q1,q2⟩:=key l2 o2 h2 h4 e2
     exact h.inj l1 l2 o' o'' b' p1 q1 p2 q2 h5 h6
   sep:=fun l' o2 b2 o h2 hlv hb hbo=>by
    rcases hl2 l' o2 h2 with ⟨rfl,rfl⟩ | ⟨rfl,hl',rfl⟩ | ⟨hne,hl',h3⟩
    ·simp only[bH] at hb
     exact absurd hbo ((hfree b2 (n4 b2 hb).1).2.2.2.1 o)
    ·have e:¬ l'=s.st.length:=by omega
     simp only[e,aY] at hb
     have:=h.sep l' ob b2 o hl hlive hb hbo
     grind
    ·have e:¬ l'=s.st.length:=by omega
     simp only[e,aY] at hb
     exact h.sep l' o2 b2 o h3 hlv hb hbo
   own:=by
    refine⟨fun m k x=>(m=s.st.length∧G k x)∨(m<s.st.length∧¬ (m=l∧k=i*ob.sz+off)∧φ m k x), ?_, ?_, ?_⟩
    ·intro m o2 b2 k c h2 hlv hb hk hc
     rcases hl2 m o2 h2 with ⟨rfl,rfl⟩ | ⟨rfl,hl',rfl⟩ | ⟨hne,hl',h3⟩
     ·simp only[bH] at hb
      obtain⟨q1,cap,cs,e1,e2,e3,e4,e5,e6,e7⟩:=n4 b2 hb
      obtain⟨y,hy,hro⟩:=e7 k c hk
      exact⟨y,by simp[World.cell?,e4,hy],RdO.mono (fun _ _ h=>h) (fun _ _ _=>rfl) c y _ _ (fun x hx=>.inl ⟨rfl,hx⟩) (fun _ _=>rfl) hro⟩
     ·have e:¬ m=s.st.length:=by omega
      simp only[e,aY] at hb
      rcases yX g2 hrow hoff k c hk with ⟨rfl,rfl⟩ | ⟨hne,hk'⟩
      ·simp[G7] at hc
      ·obtain⟨v,hv,hro⟩:=f1 m ob b2 k c hl hlive hb hk' hc
       exact⟨v,hv,RdO.mono (fun _ _ h=>h) (fun _ _ _=>rfl) c v _ _ (fun x hx=>.inr ⟨hl',fun hh=>hne hh.2,hx⟩) (fun _ _=>rfl) hro⟩
     ·have e:¬ m=s.st.length:=by omega
      simp only[e,aY] at hb
      obtain⟨v,hv,hro⟩:=f1 m o2 b2 k c h3 hlv hb hk hc
      exact⟨v,hv,RdO.mono (fun _ _ h=>h) (fun _ _ _=>rfl) c v _ _ (fun x hx=>.inr ⟨hl',fun hh=>hne hh.1,hx⟩) (fun _ _=>rfl) hro⟩
    ·have hfr2:∀ x,QE w0 (fun _=>False) w St s.st β x→nb≠some x→QE w0 (fun _=>False) w St (J4 s.st l i off ob row ty sz xs) (fun m=>if m=s.st.length then nb else β m) x:=by
      intro x hx hnb
      refine⟨hx.1,fun h=>h,hx.2.2.1,hx.2.2.2.1,fun m o2 h2 hlv=>?_⟩
      rcases hl2 m o2 h2 with ⟨rfl,rfl⟩ | ⟨rfl,hl',rfl⟩ | ⟨hne,hl',h3⟩
      ·grind
      ·have e:¬ m=s.st.length:=by omega
       simp only[e,aY]
       exact hx.2.2.2.2 m ob hl hlive
      ·have e:¬ m=s.st.length:=by omega
       simp only[e,aY]
       exact hx.2.2.2.2 m o2 h3 hlv
     rintro m k x (⟨rfl,hx⟩ | ⟨hm,hne,hx⟩)
     ·obtain⟨q1,q2⟩:=n1 k x hx
      cases hnb:nb with
      | none =>
       grind
      | some b' =>
       refine⟨⟨⟨ty,sz,xs,true,true⟩,b',AQ6,rfl,by simp[hnb]⟩, ?_⟩
       have:=hfr2 x (hfree x q1) q2
       rwa [hnb] at this
     grind
    grind }
open Go.Lib
theorem sZ {P:Program} (w:World) (t u ty e:TypeId) (i:TypeInfo) (ht:P.underlying t=some (.slice e)) (hu:P.underlying u=some .string) (hi:P.info? e=some i) {n:Nat} (hsz:i.size=n) (hn:n=1)
  (g sLen sCap:Nat) (cur:Array Value) (hg:w.heap[g]?=some (.cells cur e (0,0))) (s:ByteArray) (m:Nat) (hm:m=s.size) (hroom:sLen+m≤sCap) (hfit:sLen*n+(strCells s).length≤cur.size) :
  (Builtin.append_ #[t,u] ty #[.slice (some ⟨g,0,none⟩) sLen sCap,.string s]).run P w =
   .ok (.slice (some ⟨g,0,none⟩) (sLen+m) sCap) (w.setRow g (cur.toList.take (sLen*n)++strCells s++cur.toList.drop (sLen*n+(strCells s).length)).toArray):=by
 grind [strCells_length,run_append_room_string]
theorem su {P:Program} (w:World) (t u ty e:TypeId) (i:TypeInfo) (z:Value) (ht:P.underlying t=some (.slice e)) (hu:P.underlying u=some .string) (hi:P.info? e=some i) (hz:i.zero=some z)
  (b:Addr) (sLen sCap:Nat) (olds:List Value) (hlo:olds.length=sLen*i.size) (holds:∀ j v,olds[j]?=some v→w.cell? (b.add j)=some v) (s:ByteArray) (m:Nat) (hm:m=s.size)
  (hg:sCap<sLen+m) (h63:((sLen+m:Nat):Int)≤9223372036854775807) (hfit:Builtin.nextslicecap (sLen+m) sCap*i.bytes≤281474976710656) :
  (Builtin.append_ #[t,u] ty #[.slice (some b) sLen sCap,.string s]).run P w =
   .ok (.slice (some ⟨w.heap.size,0,none⟩) (sLen+m) (grownCap w (sLen+m) sCap e))
    (w.drew.alloc (.cells (olds.toArray++(strCells s).toArray++Builtin.zeroCells z.cells (grownCap w (sLen+m) sCap e-(sLen+m))) e)):=by
 grind [run_append_grow_string]
def PN (b:ByteArray):List (List Cl):=b.data.toList.map fun x=>[.v (.int .u8 x.toNat)]
theorem yY (b:ByteArray):(PN b).length=b.size:=by simp only[PN,ae]; rfl
theorem tC (b:ByteArray):(PN b).flatten=b.data.toList.map fun x=>.v (.int .u8 x.toNat):=by
 unfold PN
 induction b.data.toList with
 | nil=>rfl
 | cons x l ih=>grind
def ABZ (P:Program) (s:MS) (T T':TypeId) (x y:AV):Option (AV×List Ob):=match EO P T,P.underlying T' with
 | some e,some .string=>match Ac P e,VZ P e,FK P e with
  | some n,some zs,some by'=>if(zs.length=n∧n=1)∧by'≤65536 then match x,y with
    | .c (.ref l),.c (.v (.string b))=>match EH s.st l with
     | some ob=>if ob.ty=e∧ob.sz=n∧0<ob.xs.length∧ob.xs.length+b.size≤2147483648 then some (.c (.ref s.st.length),Ak s.st l ++ [⟨e,n,ob.xs++PN b,ob.wr,true⟩]) else none
     | none=>none
    | _,_=>none
   else none
  | _,_,_=>none
 | _,_=>none
theorem AH_ (h:Core w0 St0 St β s a w) (o:Oper) (T T':TypeId) (c:Call) (x y:Operand) (ho:o.op = .call c) (hcl:c.callee = .builtin .append) (hca:c.args.toList = [x,y]) (hct:c.argTypes.toList = [T,T']) (hc:BD x=true) (hc2:BD y=true)
  {z:AV} {st':List Ob} (hy:ABZ P s T T' (FC s x) (FC s y)=some (z,st')):Does P a w w0 St0 s o z st':=by
 have hx:=CX h x hc
 have hyy:=CX h y hc2
 have ha1:c.argTypes = #[T,T']:=ARn
 have ha2:c.args = #[x,y]:=ARo
 have hexec:∀ v w',(Builtin.append_ #[T,T'] o.type #[a.eval x,a.eval y]).run P w = .ok v w'→(execOp a.eval o).run P w = .ok (.value v) w':=by
  exact APG
 unfold ABZ at hy
 split at hy
 ·rename_i e hte hu
  have ht:=OE hte
  split at hy
  ·rename_i n cs0 by' hs hz0 hb
   obtain⟨zs,hz,_,rfl⟩:=TC hz0
   split at hy
   ·rename_i hcond
    obtain⟨⟨hzl0,hn1⟩,hby⟩:=hcond
    have hn:0<n:=AQ2
    have hzl:zs.length=n:=ASV
    split at hy
    ·rename_i l bs hevx hevy
     rw[hevy] at hyy
     obtain⟨hvy,_⟩:=QF hyy
     have hxx:AVR w St s.st β (FC s x) (a.eval x):=hx
     generalize hysd:PN bs=ys at hy
     generalize hnews:strCells bs=news
     have hys:ys.length=bs.size:=by rw[← hysd]; exact yY bs
     have hyfl0:ys.flatten=bs.data.toList.map fun x=>.v (.int .u8 x.toNat):=by rw[← hysd]; exact tC bs
     have hyl:∀ r∈ys,r.length=n:=fun r hr=>by
      rw[← hysd] at hr
      obtain⟨x,_,rfl⟩:=UT.1 hr
      simp[hn1]
     have hysno:∀ (k:Nat) (c:Cl),ys.flatten[k]?=some c→G7 c=false:=fun k c hk=>by
      rw[hyfl0,lg,aax] at hk
      obtain⟨x,_,rfl⟩:=hk
      rfl
     have hyfl:ys.flatten.length=ys.length*n:=EZ hyl
     have n1:news.length=ys.length*n:=by rw[← hnews,strCells_length,hys,hn1,Nat.mul_one]
     have n3:∀ (k:Nat) (c:Cl),ys.flatten[k]?=some c→∃ u,news[k]?=some u∧RdC w St s.st β c u:=fun k c hk=>by
      rw[hyfl0,lg,aax] at hk
      obtain⟨x,hx,rfl⟩:=hk
      refine⟨.int .u8 x.toNat,by rw[← hnews,strCells,lg,hx]; rfl, ?_⟩
      simp only[RdC,RdD,abV]
      have:=x.toNat_lt
      simp only[Rz,Lit.wf,az,bC]
      simp[IntKind.min,IntKind.max,IntKind.bits,IntKind.signed]
      omega
     have n4:∀ u∈news,u.oneCell'=true:=by rw[← hnews]; exact strCells_oneCell bs
     have htab:∃ i z',P.info? e=some i∧i.zero=some z'∧i.size=n∧i.bytes=by'∧z'.cells.size=n:=by
      exact AL5
     obtain⟨i,z',hi,hiz,hsz,hbs,hzs⟩:=htab
     split at hy
     ·rename_i ob hob
      split at hy
      ·rename_i hoc
       obtain⟨hty,hosz,hxpos,hle⟩:=hoc
       rw[← hys] at hle
       simp only[ai,bU] at hy
       obtain⟨rfl,rfl⟩:=hy
       rw[hevx] at hxx
       obtain⟨hl,hlive⟩:=Ci hob
       simp only[AVR,RdC,BZ,hl] at hxx
       have hx2:=hxx.2 hlive
       obtain⟨k1,k2⟩:=h.kill l
       have hkr:∀ c u,RdC w St s.st β c u→RdC w St (Ak s.st l) β c u:=fun c u hc=>by
        exact AO0
       have hkrB:∀ c u,RdB w St s.st β c u→RdB w St (Ak s.st l) β c u:=fun c u hc=>by
        exact AM6
       have hll:l<s.st.length:=(aP.1 hl).1
       have hkl:=JE s.st l
       cases hβ:β l with
       | none =>
        grind
       | some b0 =>
        simp only[hβ] at hx2
        obtain⟨cap,cs,hvx,c1,c2,c3,c4⟩:=hx2
        obtain⟨p1,p2,cs',p3,p4,p5⟩:=h.obs l ob b0 hl hlive hβ
        rw[c3] at p3
        simp only[ai,Obj.cells.injEq,abP] at p3
        subst p3
        have hfree:∀ l' o2,(Ak s.st l)[l']?=some o2→o2.live=true→β l'≠some b0:=fun l' o2 h2 hl2 hb2=>by
         exact APC
        have hkeep:∀ o,St b0 o→ob.wr=false∧o<ob.xs.length*ob.sz:=fun o hbo=>h.sep l ob b0 o hl hlive hβ hbo
        have hxfl:ob.xs.flatten.length=ob.xs.length*n:=by rw[EZ p4,hosz]
        have hlall:∀ r∈ob.xs++ys,r.length=n:=fun r hr=>by
         grind
        have hcap:cs.size=cap*n:=by rw[c4,hosz]
        have hFC:ob.xs.flatten.length≤cs.toList.length:=Nv (R:=fun c u=>RdB w St s.st β c u) (fun k c hk=>AQ6)
        have holdl:(cs.toList.take (ob.xs.length*n)).length=ob.xs.length*n:=by
         rw[bJ,dO AQ2]
        have hold:∀ (k:Nat) (c:Cl),ob.xs.flatten[k]?=some c→∃ u,(cs.toList.take (ob.xs.length*n))[k]?=some u∧RdB w St s.st β c u:=fun k c hk=>by
         grind
        have hboth:∀ (k:Nat) (c:Cl),(ob.xs++ys).flatten[k]?=some c→∃ u,(cs.toList.take (ob.xs.length*n)++news)[k]?=some u∧RdB w St (Ak s.st l) β c u:=fun k c hk=>by
         exact AOX
        by_cases hroom:ob.xs.length+ys.length≤cap
        ·
         have hcsl:cs.toList.length=cs.size:=AQ3
         have hcapm:(ob.xs.length+ys.length)*n≤cap*n:=aaG _ hroom
         have hfit:ob.xs.length*i.size+news.length≤cs.size:=ASI
         have hr:=sZ (P:=P) w T T' o.type e i ht hu hi hsz hn1 b0 ob.xs.length cap cs AQ6 bs ys.length hys hroom AQ6
         rw[← hvx,← hvy,hnews] at hr
         exact AE_
        ·
         have holds:∀ (j:Nat) (v:Value),(cs.toList.take (ob.xs.length*n))[j]?=some v→w.cell? ((⟨b0,0,none⟩:Addr).add j)=some v:=fun j v hj=>by
          exact AO5
         have hr:=su (P:=P) w T T' o.type e i z' ht hu hi hiz ⟨b0,0,none⟩ ob.xs.length cap (cs.toList.take (ob.xs.length*n)) AQ6 holds bs ys.length hys AQ2 AQ2 (by
          exact growslice_fits AQ2 (by rw[hbs]; exact MX (.inl hle) hby (aI _)))
         rw[← hvx,← hvy,hnews] at hr
         exact AF4
      ·cases hy
     ·cases hy
    ·cases hy
   ·cases hy
  ·cases hy
 ·cases hy
def same (st:List Ob):Option AV→Option (AV×List Ob)
 | some y=>some (y,st)
 | none=>none
def tH (st:List Ob):List AV→Option (List (List Cl)×List Ob)
 | []=>some ([],st)
 | .ip row::r=>match tH st r with
  | some (xs,st')=>some (row::xs,st')
  | none=>none
 | .lp l i off::r=>match EH st l with
  | some ob=>if Fv ob.xs=true then match ob.xs[i]? with
   | some row=>match tH (Qu st l) r with
    | some (xs,st')=>some (row.drop off::xs,st')
    | none=>none
   | none=>none
   else none
  | none=>none
 | _::_=>none
theorem KX (h:Core w0 St0 St β s a w):∀ (xs:List Operand),xs.all BD=true→AVRs w St s.st β (xs.map (FC s)) (xs.map a.eval)
 | [],_=>by simp[AVRs]
 | x::xs,hc=>by
  simp only[aW,az] at hc
  simp only[TA,AVRs]
  exact⟨_,_,rfl,CX h x hc.1,KX h xs hc.2⟩
theorem tJ:∀ (cs:List AV) (vs:List Value) (st st':List Ob) (xs:List (List Cl)) (St:Nat→Nat→Prop),Core w0 St0 St β ⟨s.n,s.env,st⟩ a w→AVRs w St st β cs vs→tH st cs=some (xs,st') →
  ∃ St',Core w0 St0 St' β ⟨s.n,s.env,st'⟩ a w∧(∀ b o,St b o→St' b o)∧vs.length=xs.length∧∀ (k:Nat) (c:List Cl),xs[k]?=some c→∃ b off,vs[k]?=some (.pointer (some ⟨b,off,none⟩))∧RdL w St' c b off
 | [],vs,st,st',xs,St,h,hv,hx=>by
  simp only[tH,ai,bU] at hx
  obtain⟨rfl,rfl⟩:=hx
  simp only[AVRs] at hv
  subst hv
  exact⟨St,h,fun _ _ h=>h,rfl,fun k c hk=>ARi⟩
 | c::cs,vs,st,st',xs,St,h,hv,hx=>by
  simp only[AVRs] at hv
  obtain⟨v,vs,rfl,h1,h2⟩:=hv
  cases c with
  | ip row =>
   simp only[tH] at hx
   split at hx
   ·rename_i ys st1 hy
    simp only[ai,bU] at hx
    obtain⟨rfl,rfl⟩:=hx
    obtain⟨St',q1,q2,q3,q4⟩:=tJ cs vs st st1 ys St h h2 hy
    simp only[AVR] at h1
    grind [aX,ai,RdL.mono]
   ·cases hx
  | lp l i off =>
   simp only[tH] at hx
   split at hx
   ·rename_i ob hob
    split at hx
    ·rename_i hp
     split at hx
     ·rename_i row hrow
      split at hx
      ·rename_i ys st1 hy
       simp only[ai,bU] at hx
       obtain⟨rfl,rfl⟩:=hx
       obtain⟨St1,f1,f2,_,f4⟩:=h.freeze l hob hp
       obtain⟨hl,hlive⟩:=Ci hob
       simp only[AVR,hl] at h1
       obtain⟨b,hβ,rfl⟩:=h1 hlive
       have h2':AVRs w St1 (Qu st l) β cs vs:=AVRs.mono f2 (fun _ _ _=>rfl) (fun l' u hu=>(YO l' u).2 hu) (Ve fun l' ob' hl'=>yQ hl') cs vs h2
       obtain⟨St',q1,q2,q3,q4⟩:=tJ cs vs (Qu st l) st1 ys St1 f1 h2' hy
       obtain⟨g1,g2⟩:=f4 b hβ
       have hr:RdL w St1 (row.drop off) b (i*ob.sz+off):=by
        have:=(g2.at ob.sz g1 i row hrow).drop off
        simpa using this
       grind [aX,ai,RdL.mono]
      ·cases hx
     ·cases hx
    ·cases hx
   ·cases hx
  | _=>simp[tH] at hx
def X7 (P:Program) (s:MS) (o:Op):Option (AV×List Ob):=match o with
 | .alloc T=>Qv P s T
 | .box T x=>AGC s T (FC s x)
 | .store T p x=>ig P s T (FC s p) (FC s x)
 | .makeSlice T l c=>yO P s T (FC s l) (FC s c)
 | .buildSlice T len ps=>MW P s T len ps.toList
 | .build T ps=>if D6 P T then Vd P s T ps.toList else none
 | .slice T x lo hi none=>Vf P s T (FC s x) lo hi
 | .load T x=>match JJ P s (.load T x) with
  | some y=>some (y,s.st)
  | none=>ACs P s T (FC s x)
 | .makeFunc (.func f) first caps=>if first.toList.isEmpty=true then match tH s.st (caps.toList.map (FC s)) with
  | some (xs,st')=>some (.clo f xs,st')
  | none=>none
  else none
 | .call c=>match c.callee with
  | .builtin .append=>match c.args.toList,c.argTypes.toList with
   | [x,y],[T,T']=>if T=T' then ABY P s T (FC s x) (FC s y) else ABZ P s T T' (FC s x) (FC s y)
   | _,_=>none
  | _=>same s.st (JJ P s (.call c))
 | op=>same s.st (JJ P s op)
theorem AIA {st st':List Ob} {x:Option AV} {y:AV} (h:same st x=some (y,st')):x=some y∧st'=st:=by
 cases x with
 | none=>simp[same] at h
 | some z=>simp only[same,ai,bU] at h; grind
theorem Pi (h:Core w0 St0 St β s a w) {o:Oper} {y:AV} (hg:Gives P a w St s.st β o y):Does P a w w0 St0 s o y s.st:=by
 obtain⟨v,h1,h2⟩:=hg
 exact⟨_,v,w,St,β,h1,.inl rfl,h,h2⟩
theorem AGQ (h:Core w0 St0 St β s a w) (o:Oper) (T:TypeId) (x:Operand) (ho:o.op = .load T x) (hc:BD x=true) {y:AV} {st':List Ob} (hy:ACs P s T (FC s x)=some (y,st')):Does P a w w0 St0 s o y st':=by
 have he:=CX h x hc
 unfold ACs at hy
 split at hy
 ·rename_i l i off hg hev
  split at hy
  ·rename_i ob hob
   split at hy
   ·rename_i hwr
    split at hy
    ·rename_i row hrow
     split at hy
     ·rename_i ty sz xs hcell
      simp only[ai,bU] at hy
      obtain⟨rfl,rfl⟩:=hy
      obtain⟨b,u,β',hb,hu,hcore,href⟩:=h.openCell hob hwr hrow hcell
      rw[hev] at he
      obtain⟨hl,hlive⟩:=Ci hob
      simp only[AVR,hl] at he
      obtain⟨b2,hb2,hv⟩:=he hlive
      rw[hb] at hb2
      cases hb2
      refine⟨.value u,u,w,St,β', ?_,.inl rfl,hcore,by simpa only[AVR] using href⟩
      simp[execOp,ho,hv,Instr.loadAt,Instr.sureAddr,loadVar,W9 hg,hu]
     ·cases hy
    ·cases hy
   ·cases hy
  ·cases hy
 ·cases hy
theorem ABa (h:Core w0 St0 St β s a w) (o:Oper) (hc:o.op.operands.toList.all BD=true) {y:AV} {st':List Ob} (hy:X7 P s o.op=some (y,st')):Does P a w w0 St0 s o y st':=by
 have hF:∀ {y:AV} {st':List Ob},same s.st (JJ P s o.op)=some (y,st')→Does P a w w0 St0 s o y st':=fun {y st'} hs=>by
  obtain⟨h1,rfl⟩:=AIA hs
  grind [Pi,sJ]
 cases hop:o.op with
 | alloc T=>rw[hop] at hy; exact AGD h o T hop hy
 | load T x =>
  rw[hop] at hy hc
  simp only[X7] at hy
  split at hy
  ·grind [ai,bU,Pi,sJ]
  ·exact AGQ h o T x hop ARO hy
 | box T x =>
  rw[hop] at hy hc
  exact AKK h o T x hop ARO hy
 | makeFunc fn first caps =>
  rw[hop] at hy hc
  cases fn with
  | func f =>
   simp only[X7] at hy
   split at hy
   ·rename_i hfe
    split at hy
    ·rename_i xs st1 hx
     simp only[ai,bU] at hy
     obtain⟨rfl,rfl⟩:=hy
     have hcc:caps.toList.all BD=true:=by
      simp only[Op.operands,aaX,lM,az] at hc
      exact hc.2
     obtain⟨St',q1,q2,q3,q4⟩:=tJ _ _ s.st _ xs St h (KX h caps.toList hcc) hx
     have hf0:first = #[]:=by
      apply abG
      simpa using hfe
     have e:caps.map a.eval=(caps.toList.map a.eval).toArray:=ARq
     refine⟨.value (.func (.func f) #[] (caps.map a.eval)),.func (.func f) #[] (caps.map a.eval),w,St',β,by simp[execOp,hop,hf0,Instr.makeFunc],.inl rfl,q1, ?_⟩
     simp only[AVR]
     grind
    ·cases hy
   ·cases hy
  | _=>simp[X7,JJ,same] at hy
 | store T p x =>
  rw[hop] at hy hc
  simp[Op.operands] at hc
  exact AGF h o T p x hop hc.1 hc.2 hy
 | makeSlice T l c =>
  rw[hop] at hy hc
  simp[Op.operands] at hc
  exact AH1 h o T l c hop hc.1 hc.2 hy
 | buildSlice T len ps =>
  rw[hop] at hy hc
  exact lh h o T len ps hop (by simpa [Op.operands,Function.comp_def] using hc) hy
 | build T ps =>
  rw[hop] at hy hc
  simp only[X7] at hy
  split at hy
  ·rename_i hfo
   exact AGG h o T ps hop hfo (by simpa [Op.operands,Function.comp_def] using hc) hy
  ·cases hy
 | slice T x lo hi mx =>
  cases mx with
  | none =>
   rw[hop] at hy hc
   simp[Op.operands] at hc
   refine AGO h o T x lo hi hop hc.1 ?_ ?_ hy
   ·cases lo with
    | none=>rfl
    | some q=>exact hc.2.1 q rfl
   ·cases hi with
    | none=>rfl
    | some q=>exact hc.2.2 q rfl
  | some m=>rw[hop] at hy; simp[X7,JJ,same] at hy
 | call c =>
  by_cases hap:c.callee = .builtin .append
  ·rw[hop] at hy hc
   simp only[X7,hap] at hy
   split at hy
   ·rename_i x y2 T T' hca hct
    split at hy
    ·rename_i hT
     subst hT
     simp only[Op.operands,Call.operands,aaX,lM,az,hca] at hc
     grind [AH9]
    ·simp only[Op.operands,Call.operands,aaX,lM,az,hca] at hc
     grind [AH_]
   ·cases hy
  ·rw[hop] at hy
   have:X7 P s (.call c)=same s.st (JJ P s (.call c)):=by
    simp only[X7]
   grind
 | _=>exact hF (by rw[hop] at hy ⊢; exact hy)
theorem Oi (o:Oper) (c:Call) (f:FuncId) (ho:o.op = .call c) (hcl:c.callee = .value (.func f)) (hin:CallsIn P f):(execOp a.eval o).run P w = .ok (.enter f (c.args.map a.eval)) w:=by
 have:=hin (c.args.map a.eval) w
 simp[execOp,ho,resolve,hcl,Act.eval,Deferred.ofValue,invoke,this]
theorem ACt (o:Oper) (c:Call) (f:FuncId) (x:Operand) (caps:Array Value) (ho:o.op = .call c) (hcl:c.callee = .value x) (hx:a.eval x = .func (.func f) #[] caps) (hin:CallsIn P f):(execOp a.eval o).run P w = .ok (.enter f (c.args.map a.eval++caps)) w:=by
 have:=hin (c.args.map a.eval++caps) w
 simp[execOp,ho,resolve,hcl,hx,Deferred.ofValue,invoke,this]
theorem UV (h:Core w0 St0 St β s a w) {rs:List Res} {e:Ending} {w':World} {us:List Value} {bs:List (Option Nat)} {St':Nat→Nat→Prop} (hb:Back w St rs e w' us bs St'):Core w0 St0 St' β s a w':=
 h.grow hb.below hb.st hb.stOld hb.stIn
theorem AGR (h:Core w0 St0 St β s a w) {rs:List Res} {e:Ending} {w':World} {us:List Value} {bs:List (Option Nat)} {St':Nat→Nat→Prop} (hb:Back w St rs e w' us bs St'):Own w0 (fun x=>w.heap.size≤x) w' St' s.st β:=
 h.own.grow hb.below hb.st hb.stOld h.stIn (fun l ob b h1 h2 h3=>(h.obs l ob b h1 h2 h3).2.1) (fun x h1 h2=>AQ2)
theorem ResR.blk {w w':World} {St':Nat→Nat→Prop}:∀ (rs:List Res) (us:List Value) (bs:List (Option Nat)) (Φs:List (Nat→Nat→Prop)),ResR w' St' w.heap.size rs us bs Φs→∀ (i b:Nat),bs[i]?=some (some b)→w.heap.size≤b:=by
 intro rs
 induction rs with
 | nil=>intro us bs Φs h i b hi; obtain⟨_,rfl,_⟩:=h; simp at hi
 | cons r rs ih =>
  intro us bs Φs h i b hi
  obtain⟨u,us',b0,bs',Φ,Φs',rfl,rfl,rfl,h1,h2⟩:=h
  cases i with
  | succ i=>grind
  | zero =>
   simp only[aX,ai] at hi
   subst hi
   cases r with
   | val x=>exact absurd h1.2 AQ3
   | own ty sz xs wr=>exact h1.1
   | agg cl=>exact absurd h1.1 AQ3
theorem jC (h:Core w0 St0 St β s a w) {rs:List Res} {e:Ending} {w':World} {us:List Value} {bs:List (Option Nat)} {St':Nat→Nat→Prop} (hb:Back w St rs e w' us bs St') :
  ∃ β',Core w0 St0 St' β' ⟨s.n,s.env,(KG s.st rs).2⟩ a w'∧AVRs w' St' (KG s.st rs).2 β' (KG s.st rs).1 us:=by
 obtain⟨Φs,hr,hf⟩:=hb.res
 have hfr:∀ x,w.heap.size≤x→∀ l o2,s.st[l]?=some o2→o2.live=true→β l≠some x:=fun x hx l o2 hl hlv hβ=>by
  have:=(h.obs l o2 x hl hlv hβ).2.1
  omega
 obtain⟨β',q1,q2,_⟩:=dR w.heap.size rs us bs Φs s.st β (fun x=>w.heap.size≤x) (UV h hb) h.below.size (AGR h hb) hr hf
  (fun i b hi=>⟨ResR.blk rs us bs Φs hr i b hi,hfr b (ResR.blk rs us bs Φs hr i b hi)⟩) (fun i Φ k x hi hx=>⟨(hf.fresh i Φ k x hi hx).1,hfr x (hf.fresh i Φ k x hi hx).1⟩)
 grind
def InlS (P:Program) (f:FuncId) (st:List Ob) (args:List AV) (y:AV) (st':List Ob):Prop:=CallsIn P f∧∀ (w0:Bs) (St0 St:Nat→Nat→Prop) (β:Nat→Option Nat) (s:MS) (a:Act) (w:World) (us:List Value),s.st=st→Core w0 St0 St β s a w→AVRs w St st β args us →
 Calls P f us.toArray w fun e w'=>∃ u,e = .returned u∧∃ St' β',Core w0 St0 St' β' ⟨s.n,s.env,st'⟩ a w'∧AVR w' St' st' β' y u
def Bz (P:Program) (s:MS) (o:Op) (r:AV):Prop:=match o with
 | .call c=>match c.callee with
  | .value (.func f)=>(∃ args rs,(XD s.st (c.args.toList.map (FC s))=some (args,s.st)∨(U4 s.st (c.args.toList.map (FC s))=some args∧rs.all O7=true))∧Ctr P f args rs∧r=retA (YU rs))∨InlS P f s.st (c.args.toList.map (FC s)) r s.st
  | .value (.tmp t)=>match unpin (CV s.env t) with
   | .clo f xs=>∃ args rs,XD s.st (c.args.toList.map (FC s))=some (args,s.st)∧Ctr P f (args++xs.map AV.ip) rs∧r=retA (YU rs)
   | _=>False
  | .builtin .append=>False
  | _=>JJ P s (.call c)=some r
 | .build T ps=>D6 P T=true∧Vd P s T ps.toList=some (r,s.st)
 | .slice T x lo hi none=>Vf P s T (FC s x) lo hi=some (r,s.st)
 | op=>JJ P s op=some r
theorem YV (h:Core w0 St0 St β s a w) (o:Oper) (hc:o.op.operands.toList.all BD=true) {r:AV} (hr:Bz P s o.op r) (Q:Exit→Act→World→Prop) :
  o.wp P a w (fun a' w'=>Sim w0 St0 (s.put o.dst r) a' w') Q:=by
 have hD:∀ {r:AV},Does P a w w0 St0 s o r s.st→o.wp P a w (fun a' w'=>Sim w0 St0 (s.put o.dst r) a' w') Q:=fun {r} hd=>by
  obtain⟨nx,v,w',St',β',h1,h2,h3,h4⟩:=hd
  unfold Oper.wp
  rw[h1]
  rcases h2 with rfl | ⟨rfl,rfl⟩
  ·exact⟨St',β',h3.put o.dst h4⟩
  ·exact⟨St',β',h3.put o.dst h4⟩
 have hF:∀ {r:AV},JJ P s o.op=some r→o.wp P a w (fun a' w'=>Sim w0 St0 (s.put o.dst r) a' w') Q:=fun {r} hs=>hD (Pi h (sJ h o hc hs))
 cases hop:o.op with
 | call c =>
  rw[hop] at hr
  simp only[Bz] at hr
  split at hr
  ·rename_i f hcl
   have hca:c.args.toList.all BD=true:=by
    rw[hop] at hc
    exact AN4
   rcases hr with hr | ⟨hin,hr⟩
   rotate_left
   ·have hcall:=hr w0 St0 St β s a w _ rfl h (KX h c.args.toList hca)
    have ea:(c.args.toList.map a.eval).toArray=c.args.map a.eval:=ARq
    rw[ea] at hcall
    unfold Oper.wp
    rw[Oi o c f hop hcl hin]
    simp only[Oper.upon]
    refine hcall.mono fun e w' hb=>?_
    obtain⟨u,rfl,St',β',h1,h2⟩:=hb
    exact⟨St',β',h1.put o.dst h2⟩
   obtain⟨args,rs,hf,hspec,rfl⟩:=hr
   rcases hf with hf | hf
   ·obtain⟨St1,q1,q2,q3⟩:=XE _ _ _ _ St h hf
    have hargs:=q3 _ (KX h c.args.toList hca)
    unfold Oper.wp
    rw[Oi o c f hop hcl hspec.1]
    simp only[Oper.upon]
    have hcall:=hspec.2 w St1 (c.args.toList.map a.eval) q1.stIn hargs
    have ea:(c.args.toList.map a.eval).toArray=c.args.map a.eval:=ARq
    rw[ea] at hcall
    refine hcall.mono fun e w' hb=>?_
    obtain⟨us,bs,St2,hb⟩:=hb
    obtain⟨bs3,St3,hb3⟩:=XH hb
    have k1:=UV q1 hb3
    exact AIC
   ·obtain⟨φ,hφ⟩:=h.own
    have hargs:=jA h hφ hf.1 (KX h c.args.toList hca)
    unfold Oper.wp
    rw[Oi o c f hop hcl hspec.1]
    simp only[Oper.upon]
    have hcall:=hspec.2 w _ (c.args.toList.map a.eval) (fun b o hb=>AllSt.lt h hφ hb) hargs
    have ea:(c.args.toList.map a.eval).toArray=c.args.map a.eval:=ARq
    rw[ea] at hcall
    refine hcall.mono fun e w' hb=>?_
    obtain⟨us,bs,St2,hb⟩:=hb
    have hb:=hb.clo hf.2 h.stIn
    obtain⟨bs3,St3,hb3⟩:=XH hb
    have k1:=UV h hb3
    exact AIC
  ·rename_i t hcl
   split at hr
   ·rename_i f xs hev
    obtain⟨args,rs,hf,hspec,rfl⟩:=hr
    have hca:c.args.toList.all BD=true:=by
     rw[hop] at hc
     exact AN4
    obtain⟨St1,q1,q2,q3⟩:=XE _ _ _ _ St h hf
    have hargs:=q3 _ (KX h c.args.toList hca)
    have he:AVR w St s.st β (unpin (CV s.env t)) (a.eval (.tmp t)):=CX h (.tmp t) (aS.1 hc _ (by rw[hop]; simp[Op.operands,Call.operands,hcl]))
    rw[hev] at he
    simp only[AVR] at he
    obtain⟨us0,hu0,hul,hur⟩:=he
    have hcap:RdAs w St1 (xs.map AV.ip) us0:=YS hul fun k c hk=>by
     grind [RdL.mono]
    unfold Oper.wp
    rw[ACt o c f (.tmp t) us0.toArray hop hcl hu0 hspec.1]
    simp only[Oper.upon]
    have hcall:=hspec.2 w St1 (c.args.toList.map a.eval++us0) q1.stIn (iw hargs hcap)
    have ea:(c.args.toList.map a.eval++us0).toArray=c.args.map a.eval++us0.toArray:=ARq
    rw[ea] at hcall
    refine hcall.mono fun e w' hb=>?_
    obtain⟨us,bs,St2,hb⟩:=hb
    obtain⟨bs3,St3,hb3⟩:=XH hb
    have k1:=UV q1 hb3
    exact AIC
   grind
  ·exact hr.elim
  grind
 | build T ps =>
  rw[hop] at hr
  refine hD (ABa h o hc ?_)
  rw[hop]
  simp only[Bz] at hr
  simp only[X7,hr.1,bH]
  exact hr.2
 | slice T x lo hi mx =>
  rw[hop] at hr
  cases mx with
  | none =>
   refine hD (ABa h o hc ?_)
   rw[hop]
   exact hr
  | some m=>simp only[Bz,JJ] at hr; cases hr
 | _=>exact hF (by rw[hop] at hr ⊢; exact hr)
theorem oK {s s':MS} {x:Operand} (h:∀ t,x = .tmp t→CV s'.env t=CV s.env t):FC s' x=FC s x:=by
 cases x with
 | tmp t=>exact congrArg unpin (h t rfl)
 | _=>rfl
theorem Qw {s s':MS} (hst:s'.st=s.st) (o:Op) (h:∀ t,.tmp t∈o.operands.toList→CV s'.env t=CV s.env t) (r:AV) (hr:Bz P s o r):Bz P s' o r:=by
 have he:∀ x,x∈o.operands.toList→FC s' x=FC s x:=fun x hx=>oK fun t ht=>h t AQ6
 cases o with
 | call c =>
  have hargs:∀ x∈c.args.toList,FC s' x=FC s x:=fun x hx=>he x (by
   simp only[Op.operands,Call.operands,aaX,lN]
   exact .inr hx)
  have hmap:c.args.toList.map (FC s')=c.args.toList.map (FC s):=aaW hargs
  simp only[Bz] at hr ⊢
  split at hr
  ·grind
  ·rename_i t hcl
   have ht:CV s'.env t=CV s.env t:=h t (by simp[Op.operands,Call.operands,hcl])
   grind
  ·exact hr
  ·simp only[JJ] at hr ⊢
   grind
 | build T ps =>
  have hps:∀ p∈ps.toList,FC s' p.2=FC s p.2:=fun p hp=>he p.2 (by
   simp only[Op.operands]
   grind)
  have key:∀ (l:List (Nat×Operand)),(∀ p∈l,FC s' p.2=FC s p.2)→JC s' l=JC s l:=by
   exact AO7
  simp only[Bz,Vd,key _ hps,hst] at hr ⊢
  exact hr
 | slice T x lo hi mx =>
  cases mx with
  | none =>
   have h1:FC s' x=FC s x:=he x AQ_
   have h2:∀ d,J3 s' lo d=J3 s lo d:=fun d=>by
    cases lo with
    | none=>rfl
    | some q=>simp only[J3]; rw[he q AQ_]
   have h3:∀ d,J3 s' hi d=J3 s hi d:=fun d=>by
    cases hi with
    | none=>rfl
    | some q=>simp only[J3]; rw[he q AQ_]
   simp only[Bz,Vf,h1,h2,h3,hst] at hr ⊢
   exact hr
  | some m=>simp only[Bz,JJ] at hr; cases hr
 | move x=>simp only[Bz,JJ] at hr ⊢; rw[he x AQ_]; exact hr
 | assign x=>simp only[Bz,JJ] at hr ⊢; rw[he x AQ_]; exact hr
 | pick c x y=>simp only[Bz,JJ] at hr ⊢; rw[he c AQ_,he x AQ_,he y AQ_]; exact hr
 | load T x=>simp only[Bz,JJ] at hr ⊢; rw[he x AQ_,hst]; exact hr
 | nilCheck x=>simp only[Bz,JJ] at hr ⊢; rw[he x AQ_,hst]; exact hr
 | binOp op T x y T2=>simp only[Bz,JJ] at hr ⊢; rw[he x AQ_,he y AQ_]; exact hr
 | unOp op T x=>simp only[Bz,JJ] at hr ⊢; rw[he x AQ_]; exact hr
 | convert a b x=>simp only[Bz,JJ] at hr ⊢; rw[he x AQ_,hst]; exact hr
 | fieldAddr T x f=>simp only[Bz,JJ] at hr ⊢; rw[he x AQ_,hst]; exact hr
 | field T x f=>simp only[Bz,JJ] at hr ⊢; rw[he x AQ_]; exact hr
 | indexAddr T x y=>simp only[Bz,JJ] at hr ⊢; rw[he x AQ_,he y AQ_,hst]; exact hr
 | index T x y=>simp only[Bz,JJ] at hr ⊢; rw[he x AQ_,he y AQ_]; exact hr
 | extract x i=>simp only[Bz,JJ] at hr ⊢; rw[he x AQ_]; exact hr
 | _=>simp only[Bz,JJ] at hr; cases hr
def tK (ops:Array Oper) (env:List (Nat×AV)) (g:Option (Nat×Bool)):Option Bool:=match g with
 | none=>some true
 | some (j,want)=>match (ops[j]?).bind (·.dst) with
  | some d=>match (if d<1000000 then CV env d else .un) with
   | .c (.v (.bool t))=>some (t==want)
   | .undef=>some false
   | _=>none
  | none=>some false
theorem tN (h:Core w0 St0 St β s a w) {ops:Array Oper} {o:Oper} {b:Bool} (hg:tK ops s.env o.guard=some b):Region.wanted o (yielded ops a.tmps)=b:=by
 unfold tK at hg
 unfold Region.wanted
 split at hg
 ·grind
 ·rename_i j want hn
  simp only[hn]
  unfold yielded
  split at hg
  ·rename_i d hd
   rw[hd]
   have henv:AVR w St s.st β (if d<1000000 then CV s.env d else .un) (a.tmps.getD d undef):=by
    split
    ·have:=h.env d
     rwa [Wy ‹_›] at this
    ·simp only[AVR]
   split at hg
   ·rename_i t hev
    simp only[ai] at hg
    subst hg
    rw[hev] at henv
    obtain⟨hv,_⟩:=QF henv
    have hlt:d<a.tmps.size:=by
     rcases bZ d a.tmps.size with h' | h'
     ·exact h'
     ·simp[h',undef] at hv
    simp_all
   ·rename_i hev
    simp only[ai] at hg
    subst hg
    rw[hev] at henv
    simp only[AVR] at henv
    simp only[abH]
    cases hq:a.tmps[d]? with
    | none=>simp
    | some v =>
     have:v=undef:=by simpa [hq] using henv
     subst this
     simp[undef]
   ·cases hg
  grind
def CondK (b:Bool) (x y:Prop):Prop:=(b=true→x)∧(b=false→y)
theorem LZ {x y:Prop}:CondK true x y=x:=by simp[CondK]
theorem MZ {x y:Prop}:CondK false x y=y:=by simp[CondK]
theorem AE4 {b:Bool} {x y:Prop} (h1:b=true→x) (h2:b=false→y):CondK b x y:=⟨h1,h2⟩
def U5 (x:Option (AV×List Ob)) (K:AV→List Ob→Prop):Prop:=match x with
 | some (y,st)=>K y st
 | none=>False
def yZ (x:Option (List AV×List Ob)) (K:List AV→List Ob→Prop):Prop:=match x with
 | some (y,st)=>K y st
 | none=>False
def U6 (x:Option Bool) (K:Bool→Prop):Prop:=match x with
 | some b=>K b
 | none=>False
def ACu (x:AV) (K:Bool→Prop):Prop:=match x with
 | .c (.v (.bool b))=>K b
 | _=>False
theorem ABb {y:AV} {st:List Ob} {K:AV→List Ob→Prop}:U5 (some (y,st)) K=K y st:=rfl
theorem ABc {y:List AV} {st:List Ob} {K:List AV→List Ob→Prop}:yZ (some (y,st)) K=K y st:=rfl
theorem ABd {b:Bool} {K:Bool→Prop}:U6 (some b) K=K b:=rfl
theorem ABe {b:Bool} {K:Bool→Prop}:ACu (.c (.v (.bool b))) K=K b:=rfl
def DrK (P:Program) (s:MS) (o:Op) (K:AV→Prop):Prop:=∃ r,Bz P s o r∧K r
def yc (s:MS) (dst:Option Nat) (K:MS→Prop) (r:AV):Prop:=K (s.put dst r)
def gD (P:Program) (o:Oper) (K:MS→Prop) (s:MS) (b:Bool):Prop:=CondK b (DrK P s o.op (yc s o.dst K)) (K (s.put o.dst .undef))
theorem AIB {P:Program} {o:Oper} {K:MS→Prop} {s:MS}:gD P o K s true=DrK P s o.op (yc s o.dst K):=LZ
theorem AGS {P:Program} {o:Oper} {K:MS→Prop} {s:MS}:gD P o K s false=K (s.put o.dst .undef):=MZ
theorem gD.mk {P:Program} {o:Oper} {K:MS→Prop} {s:MS} {b:Bool} (h1:b=true→DrK P s o.op (yc s o.dst K)) (h2:b=false→K (s.put o.dst .undef)):gD P o K s b:=AE4 h1 h2
def vpD (P:Program) (ops:Array Oper) (K:MS→Prop):List Oper→MS→Prop
 | [],s=>K s
 | o::rest,s=>U6 (tK ops s.env o.guard) (gD P o (vpD P ops K rest) s)
def Bg (o:Oper) (i:Nat):Bool:=o.after.any fun e=>e.on==i&&Region.binds .any e
def TJ (ops:Array Oper) (o:Oper):List Nat:=
 (o.op.operands.toList.filterMap fun x=>match x with | .tmp t=>some t | _=>none)++(match o.guard with | some (j,_)=>((ops[j]?).bind (·.dst)).toList | none=>[])
def XO (ops:Array Oper) (i j:Nat):Bool:=match ops[i]?,ops[j]? with
 | some oi,some oj=>match oi.dst with
  | some d=>(i==j||oj.dst != some d)&&(i==j || !(TJ ops oj).contains d||(if i<j then Bg oj i else Bg oi j))
  | none=>true
 | _,_=>true
def GZ (n:Nat) (ops:Array Oper):Bool:=
 ((List.range ops.size).all fun i=>(List.range ops.size).all fun j=>XO ops i j) &&
 ((List.range ops.size).all fun i=>match ops[i]? with | some o=>(o.after.all fun e=>!Region.binds .any e||e.on<i)&&(match o.dst with | some d=>d<n | none=>true) | none=>true)
theorem Core.congr (h:Core w0 St0 St β s a w) {s':MS} (hn:s'.n=s.n) (hst:s'.st=s.st) (he:∀ t,CV s'.env t=CV s.env t):Core w0 St0 St β s' a w:={
 defers:=h.defers
 size:=by rw[hn]; exact h.size
 lim:=by rw[hn]; exact h.lim
 env:=fun i=>by rw[he,hst]; exact h.env i
 below:=h.below,st0:=h.st0,stOld:=h.stOld,stIn:=h.stIn
 obs:=by rw[hst]; exact h.obs
 nil:=by rw[hst]; exact h.nil
 inj:=by rw[hst]; exact h.inj
 sep:=by rw[hst]; exact h.sep
 own:=by rw[hst]; exact h.own }
section draw
variable (ops:Array Oper) (R:Nat→AV)
def Bi (env:List (Nat×AV)) (X:Nat→Bool):Nat→List (Nat×AV)
 | 0=>env
 | k+1=>match (ops[k]?).bind (·.dst) with
  | some d=>if X k then(d,R k)::Bi env X k else Bi env X k
  | none=>Bi env X k
variable {ops R}
theorem GH {env:List (Nat×AV)} {X:Nat→Bool} (hd:∀ (i j d:Nat),(ops[i]?).bind (·.dst)=some d→(ops[j]?).bind (·.dst)=some d→i=j) {i d:Nat} (hi:(ops[i]?).bind (·.dst)=some d) (hX:X i=true) :
  ∀ k,i<k→CV (Bi ops R env X k) d=R i
 | 0,h=>AQ2
 | k+1,h=>by
  simp only[Bi]
  rcases bZ i k with h' | h'
  ·have ih:=GH (env:=env) (X:=X) hd hi hX k h'
   split
   ·rename_i d' hk
    split
    ·simp only[CV]
     by_cases e:d'=d
     ·subst e
      have:=hd i k d' hi hk
      omega
     ·simp only[e,aY]; exact ih
    ·exact ih
   ·exact ih
  ·have:i=k:=by omega
   subst this
   simp only[hi,hX,bH,CV]
theorem BR {env:List (Nat×AV)} {X:Nat→Bool} {d:Nat}:∀ k,(∀ (i:Nat),i<k→(ops[i]?).bind (·.dst)=some d→X i=false)→CV (Bi ops R env X k) d=CV env d
 | 0,_=>rfl
 | k+1,hm=>by
  have ih:=BR (env:=env) (X:=X) k (fun i hi=>hm i AQ2)
  simp only[Bi]
  split
  ·rename_i d' hk
   split
   ·rename_i hx
    simp only[CV]
    by_cases e:d'=d
    ·subst e
     have:=hm k AQ2 hk
     rw[hx] at this; cases this
    ·simp only[e,aY]; exact ih
   ·exact ih
  ·exact ih
end draw
theorem ZU {n:Nat} {ops:Array Oper} (h:GZ n ops=true) {i j:Nat} (hi:i<ops.size) (hj:j<ops.size):XO ops i j=true:=by
 simp only[GZ,az] at h
 grind
theorem jD {n:Nat} {ops:Array Oper} (h:GZ n ops=true):∀ (i j d:Nat),(ops[i]?).bind (·.dst)=some d→(ops[j]?).bind (·.dst)=some d→i=j:=by
 intro i j d hi hj
 cases hoi:ops[i]? with
 | none=>grind
 | some oi =>
  cases hoj:ops[j]? with
  | none=>grind
  | some oj =>
   simp only[hoi,hoj,abH] at hi hj
   have:=ZU h (bT.1 hoi).1 (bT.1 hoj).1
   simp only[XO,hoi,hoj,hi,az,aaY,nz,bne_iff_ne] at this
   grind
theorem PO {n:Nat} {ops:Array Oper} (h:GZ n ops=true) {i j d:Nat} {oi oj:Oper} (hoi:ops[i]?=some oi) (hoj:ops[j]?=some oj) (hd:oi.dst=some d) (hr:d∈TJ ops oj) (hne:i≠j) :
  (i<j→Bg oj i=true)∧(j<i→Bg oi j=true):=by
 have:=ZU h (bT.1 hoi).1 (bT.1 hoj).1
 simp only[XO,hoi,hoj,hd,az,aaY,nz,bne_iff_ne] at this
 grind
theorem Gn {n:Nat} {ops:Array Oper} (h:GZ n ops=true) {i:Nat} {o:Oper} (ho:ops[i]?=some o):(∀ e∈o.after,Region.binds .any e=true→e.on<i)∧∀ d,o.dst=some d→d<n:=by
 simp only[GZ,az] at h
 grind [aS,bT,Array.all_eq_true']
theorem Dc {o:Oper} {i:Nat} {listed:Array Bool} (h:Bg o i=true) (hall:∀ e∈o.after,Region.binds .any e=true→listed.getD e.on false=true):listed.getD i false=true:=by
 unfold Bg at h
 grind
theorem jE {n:Nat} {ops:Array Oper} {K:MS→Prop} (hok:GZ n ops=true) (hn:s.n=n):∀ (l:List Oper) (k:Nat) (R0:Nat→AV),(∀ j,l[j]?=ops[k+j]?)→k+l.length=ops.size →
  vpD P ops K l ⟨s.n,Bi ops R0 s.env (fun i=>decide (i<k)) k,s.st⟩ →
  ∃ R:Nat→AV,(∀ i,i<k→R i=R0 i)∧K ⟨s.n,Bi ops R s.env (fun _=>true) ops.size,s.st⟩ ∧
   ∀ (i:Nat) (o:Oper),k≤i→ops[i]?=some o→∃ b,tK ops (Bi ops R s.env (fun _=>true) i) o.guard=some b∧(b=true→Bz P ⟨s.n,Bi ops R s.env (fun _=>true) i,s.st⟩ o.op (R i))∧(b=false→R i = .undef)
 | [],k,R0,hl,hk,h=>by
  simp only[bV,abu] at hk
  simp only[vpD] at h
  refine⟨R0,fun _ _=>rfl, ?_,fun i o hi ho=>?_⟩
  ·have key:∀ m,m≤k→Bi ops R0 s.env (fun i=>decide (i<k)) m=Bi ops R0 s.env (fun _=>true) m:=by
    intro m
    exact AO9
   grind
  grind
 | o::l,k,R0,hl,hk,h=>by
  have ho:ops[k]?=some o:=by simpa using(hl 0).symm
  have key:∀ (R1:Nat→AV) (m:Nat),m≤k→Bi ops R1 s.env (fun i=>decide (i<k)) m=Bi ops R1 s.env (fun _=>true) m:=by
   intro R1 m
   exact AO9
  have keyR:∀ (R1 R2:Nat→AV) (m:Nat),(∀ i,i<m→R1 i=R2 i)→Bi ops R1 s.env (fun _=>true) m=Bi ops R2 s.env (fun _=>true) m:=by
   intro R1 R2 m
   induction m with
   | zero=>intro _; rfl
   | succ m ih =>
    intro hm
    simp only[Bi,ih (fun i hi=>hm i AQ2),hm m AQ2]
  simp only[vpD,U6,gD,yc] at h
  have step:∀ r:AV,vpD P ops K l (MS.put ⟨s.n,Bi ops R0 s.env (fun i=>decide (i<k)) k,s.st⟩ o.dst r) →
    ∃ R:Nat→AV,(∀ i,i<k→R i=R0 i)∧R k=r∧K ⟨s.n,Bi ops R s.env (fun _=>true) ops.size,s.st⟩ ∧
     ∀ (i:Nat) (o:Oper),k+1≤i→ops[i]?=some o→∃ b,tK ops (Bi ops R s.env (fun _=>true) i) o.guard=some b∧(b=true→Bz P ⟨s.n,Bi ops R s.env (fun _=>true) i,s.st⟩ o.op (R i))∧(b=false→R i = .undef):=by
   intro r hr
   have e1:MS.put ⟨s.n,Bi ops R0 s.env (fun i=>decide (i<k)) k,s.st⟩ o.dst r=⟨s.n,Bi ops (fun i=>if i=k then r else R0 i) s.env (fun i=>decide (i<k+1)) (k+1),s.st⟩:=by
    have key2:∀ m,m≤k→Bi ops (fun i=>if i=k then r else R0 i) s.env (fun i=>decide (i<k+1)) m=Bi ops R0 s.env (fun i=>decide (i<k)) m:=by
     intro m
     induction m with
     | zero=>intro _; rfl
     | succ m ih =>
      intro hm
      have h1:m<k:=AQ2
      have h2:m<k+1:=AQ2
      have h3:¬ m=k:=AQ2
      simp only[Bi,ih AQ2,h1,h2,h3,decide_true,aY]
    simp only[Bi,ho,abH,key2 k (aI _)]
    cases hd:o.dst with
    | none=>simp only[MS.put]
    | some d =>
     have:=(Gn hok ho).2 d hd
     have h2:k<k+1:=AQ2
     simp[MS.put,hn,this,h2]
   rw[e1] at hr
   obtain⟨R,h1,h2,h3⟩:=jE hok hn l (k+1) _ (fun j=>by
    have:=hl (j+1)
    grind) AQ6 hr
   exact⟨R,fun i hi=>AQ6,AQ6,h2,h3⟩
  split at h
  ·rename_i b hb
   cases b with
   | true =>
    obtain⟨r,hr1,hr2⟩:=h.1 rfl
    obtain⟨R,h1,h2,h3,h4⟩:=step r hr2
    grind
   | false =>
    obtain⟨R,h1,h2,h3,h4⟩:=step _ (h.2 rfl)
    grind
  grind
end Go.Vm
