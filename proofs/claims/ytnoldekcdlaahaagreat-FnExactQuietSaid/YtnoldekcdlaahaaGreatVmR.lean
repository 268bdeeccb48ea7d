/- A part. -/
import Derived.Test.YtnoldekcdlaahaaGreatVmPa
import Derived.Lib.AppendStr
import Derived.Orders
set_option linter.unusedSimpArgs false
set_option linter.unusedVariables false
namespace Go.Vm
open Go.RowKit
variable {P:Program} {w0:Bs} {St0 St:Nat→Nat→Prop} {β:Nat→Option Nat} {s:MS} {a:Act} {w:World}
def Bc (st:List Ob) (l i off:Nat) (ob:Ob) (row:List Cl) (ty:TypeId) (sz:Nat) (xs:List (List Cl)):List Ob:=
 st.set l ⟨ob.ty,ob.sz,ob.xs.set i (row.set off (.ref st.length)),ob.wr,ob.live⟩ ++ [⟨ty,sz,xs,true,true⟩]
def AAv (P:Program) (s:MS) (T:TypeId) (x:AV):Option (AV×List Ob):=match Bf P T,x with
 | some false,.lp l i off=>match DT s.st l with
  | some ob=>if ob.wr=true then match ob.xs[i]? with
   | some row=>match row[off]? with
    | some (.ow ty sz xs)=>some (.c (.ref s.st.length),Bc s.st l i off ob row ty sz xs)
    | _=>none
   | none=>none
   else none
  | none=>none
 | _,_=>none
theorem uw {xs:List (List Cl)} {sz i off:Nat} {row:List Cl} {c:Cl} (hl:∀ x∈xs,x.length=sz) (hi:xs[i]?=some row) (ho:off<row.length) :
  ∀ (k:Nat) (d:Cl),(xs.set i (row.set off c)).flatten[k]?=some d→(k=i*sz+off∧d=c)∨(k≠i*sz+off∧xs.flatten[k]?=some d):=by
 intro k d hk
 have hrl:row.length=sz:=hl row (bF hi)
 have e:xs.set i (row.set off c)=xs.set i (row.take off++([c]++row.drop (off+1))):=by
  congr 1
  rw[List.set_eq_take_append_cons_drop,bu ho]
  rfl
 have hle:off+1≤row.length:=ho
 have hFl:xs.flatten.length=xs.length*sz:=Eb hl
 have hil:i<xs.length:=(aF.1 hi).1
 have hpos:i*sz+(off+1)≤xs.flatten.length:=by
  rw[hFl]
  have:(i+1)*sz≤xs.length*sz:=aaw _ hil
  rw[jH] at this; omega
 rw[e,Q7 hl hi hle] at hk
 have l1:(xs.flatten.take (i*sz+off)).length=i*sz+off:=by rw[bz]; omega
 rcases bQ k (i*sz+off) with h1 | h1
 ·grind
 ·rw[aY AOh,l1] at hk
  rcases bQ (k-(i*sz+off)) 1 with h2 | h2
  ·grind
  ·rw[aY AOh,aaV] at hk
   grind
theorem Core.openCell (h:Core w0 St0 St β s a w) {l i off:Nat} {ob:Ob} {row:List Cl} {ty:TypeId} {sz:Nat} {xs:List (List Cl)} (hob:DT s.st l=some ob) (hwr:ob.wr=true) (hrow:ob.xs[i]?=some row) (hcell:row[off]?=some (.ow ty sz xs)) :
  ∃ b u β',β l=some b∧w.cell? ⟨b,i*ob.sz+off,none⟩=some u∧Core w0 St0 St β' ⟨s.n,s.env,Bc s.st l i off ob row ty sz xs⟩ a w∧RdC w St (Bc s.st l i off ob row ty sz xs) β' (.ref s.st.length) u:=by
 obtain⟨hl,hlive⟩:=CS hob
 obtain⟨φ,f1,f2,f3⟩:=h.own
 have hll:l<s.st.length:=(aF.1 hl).1
 cases hβ:β l with
 | none =>
  have:=h.nil l ob hl hlive hβ
  grind
 | some b =>
  obtain⟨hmay,hlt,cs0,g1,g2,g3⟩:=h.obs l ob b hl hlive hβ
  have hoff:off<row.length:=(aF.1 hcell).1
  have hk0:ob.xs.flatten[i*ob.sz+off]?=some (.ow ty sz xs):=FZ g2 i off row _ hrow hcell
  obtain⟨u,hu,hr⟩:=f1 l ob b _ _ hl hlive hβ hk0 rfl
  have hu1:u.oneCell'=true:=(RdO.toB (st:=s.st) (β:=β) hr).one
  have hnew:∃ (nb:Option Nat) (G:Nat→Nat→Prop),(∀ k x,G k x→φ l (i*ob.sz+off) x∧nb≠some x)∧(∀ k k' x,G k x→G k' x→k=k')∧(nb=none→∀ k x,¬ G k x)∧(nb=none→u = .slice none 0 0∧xs = []) ∧
    ∀ b',nb=some b'→φ l (i*ob.sz+off) b'∧∃ (cap:Nat) (cs:Array Value),u = .slice (some ⟨b',0,none⟩) xs.length cap∧xs.length≤cap∧cap≤maxLen∧w.heap[b']?=some (.cells cs ty (0,0))∧cs.size=cap*sz∧(∀ x∈xs,x.length=sz) ∧
     ∀ (k:Nat) (c:Cl),xs.flatten[k]?=some c→∃ y,cs[k]?=some y∧RdO w St c y (G k):=by
   simp only[RdO] at hr
   rcases hr with ⟨e1,e2⟩ | ⟨b',cap,cs,G,e1,e2,e3,e4,e5,e6,e7,e8,e9,e10⟩
   ·exact⟨none,fun _ _=>False,fun _ _ h=>h.elim,fun _ _ _ h=>h.elim,fun _ _ _ h=>h,fun _=>⟨e1,e2⟩,(fun b' h=>APk)⟩
   ·refine⟨some b',G,fun k x hx=>⟨(e8 k x hx).1,fun e=>(e8 k x hx).2 (uV e).symm⟩,e9,(fun h=>APk),(fun h=>APk),fun b'' hb=>?_⟩
    cases hb
    exact⟨e7,cap,cs,e1,e2,e3,e4,e5,e6,fun k c hk=>by simpa using e10.at hk⟩
  obtain⟨nb,G,n1,n2,n5,n3,n4⟩:=hnew
  have hset:∀ (l':Nat),(Bc s.st l i off ob row ty sz xs)[l']?=if l'=s.st.length then some ⟨ty,sz,xs,true,true⟩ else if l'=l then some ⟨ob.ty,ob.sz,ob.xs.set i (row.set off (.ref s.st.length)),ob.wr,ob.live⟩ else s.st[l']?:=by
   intro l'
   unfold Bc
   by_cases e:l'=s.st.length
   ·grind
   ·grind
  have hl2:∀ (l':Nat) (o2:Ob),(Bc s.st l i off ob row ty sz xs)[l']?=some o2→(l'=s.st.length∧o2=⟨ty,sz,xs,true,true⟩)∨(l'=l∧l'<s.st.length∧o2=⟨ob.ty,ob.sz,ob.xs.set i (row.set off (.ref s.st.length)),ob.wr,ob.live⟩)∨(l'≠l∧l'<s.st.length∧s.st[l']?=some o2):=by
   intro l' o2 h2
   rw[hset l'] at h2
   by_cases e:l'=s.st.length
   ·grind
   ·grind
  have hold:∀ (l':Nat) (o2:Ob),s.st[l']?=some o2→∃ o3,(Bc s.st l i off ob row ty sz xs)[l']?=some o3∧o3.live=o2.live∧o3.sz=o2.sz∧o3.ty=o2.ty∧o3.xs.length=o2.xs.length∧o3.wr=o2.wr:=by
   intro l' o2 h2
   have hl':l'<s.st.length:=(aF.1 h2).1
   rw[hset l']
   have e:¬ l'=s.st.length:=AOh
   by_cases e2:l'=l
   ·grind
   ·grind
  have hr':∀ (l':Nat) (v:Value),BN w s.st β l' v→BN w (Bc s.st l i off ob row ty sz xs) (fun m=>if m=s.st.length then nb else β m) l' v:=by
   intro l' v hv
   have hd:=oV hv
   unfold BN at hv ⊢
   exact AMT
  have hp':∀ (l' i' off':Nat) (v:Value),AVR w St s.st β (.lp l' i' off') v→AVR w St (Bc s.st l i off ob row ty sz xs) (fun m=>if m=s.st.length then nb else β m) (.lp l' i' off') v:=by
   intro l' i' off' v hv
   have hd:=zB hv
   simp only[AVR] at hv ⊢
   exact AMT
  have hBB:∀ (c:Cl) (v:Value),RdB w St s.st β c v→RdB w St (Bc s.st l i off ob row ty sz xs) (fun m=>if m=s.st.length then nb else β m) c v:=fun c v hv=>RdB.mono (fun _ _ h=>h) (fun _ _ _=>rfl) hr' c v hv
  have href:RdC w St (Bc s.st l i off ob row ty sz xs) (fun m=>if m=s.st.length then nb else β m) (.ref s.st.length) u:=by
   simp only[RdC,BN,hset s.st.length,aX]
   refine⟨hu1,fun _=>?_⟩
   cases hnb:nb with
   | none=>exact n3 hnb
   | some b' =>
    grind
  have hfree:∀ x,φ l (i*ob.sz+off) x→PH w0 (fun _=>False) w St s.st β x:=fun x hx=>(f2 l _ x hx).2
  refine⟨b,u,_,rfl,hu, ?_,href⟩
  exact {
   defers:=h.defers
   size:=h.size
   lim:=h.lim
   env:=fun k=>AVR.mono (fun _ _ h=>h) (fun _ _ _=>rfl) hr' hp' _ _ (h.env k)
   below:=h.below,st0:=h.st0,stOld:=h.stOld,stIn:=h.stIn
   obs:=fun l' o2 b2 h2 hlv hb=>by
    rcases hl2 l' o2 h2 with ⟨rfl,rfl⟩ | ⟨rfl,hl',rfl⟩ | ⟨hne,hl',h3⟩
    ·simp only[aX] at hb
     obtain⟨q1,cap,cs,e1,e2,e3,e4,e5,e6,e7⟩:=n4 b2 hb
     have hf:=hfree b2 q1
     refine⟨hf.1,hf.2.2.1,cs,e4,e6,fun k c hk=>?_⟩
     obtain⟨y,hy,hro⟩:=e7 k c hk
     exact⟨y,hy,hro.toB⟩
    ·have e:¬ l'=s.st.length:=by omega
     simp only[e,aW] at hb
     rw[hβ] at hb
     cases hb
     refine⟨hmay,hlt,cs0,g1,fun x hx=>?_,fun k c hk=>?_⟩
     ·grind
     ·rcases uw g2 hrow hoff k c hk with ⟨rfl,rfl⟩ | ⟨_,hk'⟩
      ·refine⟨u,by simpa [World.cell?,g1] using hu,href.toB⟩
      grind
    ·have e:¬ l'=s.st.length:=by omega
     simp only[e,aW] at hb
     obtain⟨q1,q2,cs,p1,p2,p3⟩:=h.obs l' o2 b2 h3 hlv hb
     refine⟨q1,q2,cs,p1,p2,fun k c hk=>?_⟩
     grind
   nil:=fun l' o2 h2 hlv hb=>by
    rcases hl2 l' o2 h2 with ⟨rfl,rfl⟩ | ⟨rfl,hl',rfl⟩ | ⟨hne,hl',h3⟩
    ·grind
    ·grind
    ·have e:¬ l'=s.st.length:=by omega
     simp only[e,aW] at hb
     exact h.nil l' o2 h3 hlv hb
   inj:=fun l1 l2 o1 o2 b' h1 h2 h3 h4 h5 h6=>by
    have key:∀ (m:Nat) (o:Ob),(Bc s.st l i off ob row ty sz xs)[m]?=some o→o.live=true→m≠s.st.length→∃ o',s.st[m]?=some o'∧o'.live=true:=by
     intro m o hm hlv hne
     rcases hl2 m o hm with ⟨e,_⟩ | ⟨rfl,hl',rfl⟩ | ⟨_,hl',h3⟩
     ·omega
     ·grind
     ·grind
    by_cases e1:l1=s.st.length<;>by_cases e2:l2=s.st.length
    ·omega
    ·simp only[e1,e2,aX,aW] at h5 h6
     obtain⟨o',p1,p2⟩:=key l2 o2 h2 h4 e2
     exact absurd h6 ((hfree b' (n4 b' h5).1).2.2.2.2 l2 o' p1 p2)
    ·simp only[e1,e2,aX,aW] at h5 h6
     obtain⟨o',p1,p2⟩:=key l1 o1 h1 h3 e1
     exact absurd h5 ((hfree b' (n4 b' h6).1).2.2.2.2 l1 o' p1 p2)
    ·simp only[e1,e2,aW] at h5 h6
     obtain⟨o',p1,p2⟩:=key l1 o1 h1 h3 e1
     obtain⟨o'',q1,q2⟩:=key l2 o2 h2 h4 e2
     exact h.inj l1 l2 o' o'' b' p1 q1 p2 q2 h5 h6
   sep:=fun l' o2 b2 o h2 hlv hb hbo=>by
    rcases hl2 l' o2 h2 with ⟨rfl,rfl⟩ | ⟨rfl,hl',rfl⟩ | ⟨hne,hl',h3⟩
    ·simp only[aX] at hb
     exact absurd hbo ((hfree b2 (n4 b2 hb).1).2.2.2.1 o)
    ·have e:¬ l'=s.st.length:=by omega
     simp only[e,aW] at hb
     have:=h.sep l' ob b2 o hl hlive hb hbo
     grind
    ·have e:¬ l'=s.st.length:=by omega
     simp only[e,aW] at hb
     exact h.sep l' o2 b2 o h3 hlv hb hbo
   own:=by
    refine⟨fun m k x=>(m=s.st.length∧G k x)∨(m<s.st.length∧¬ (m=l∧k=i*ob.sz+off)∧φ m k x), ?_, ?_, ?_⟩
    ·intro m o2 b2 k c h2 hlv hb hk hc
     rcases hl2 m o2 h2 with ⟨rfl,rfl⟩ | ⟨rfl,hl',rfl⟩ | ⟨hne,hl',h3⟩
     ·simp only[aX] at hb
      obtain⟨q1,cap,cs,e1,e2,e3,e4,e5,e6,e7⟩:=n4 b2 hb
      obtain⟨y,hy,hro⟩:=e7 k c hk
      exact⟨y,by simp[World.cell?,e4,hy],RdO.mono (fun _ _ h=>h) (fun _ _ _=>rfl) c y _ _ (fun x hx=>.inl ⟨rfl,hx⟩) (fun _ _=>rfl) hro⟩
     ·have e:¬ m=s.st.length:=by omega
      simp only[e,aW] at hb
      rcases uw g2 hrow hoff k c hk with ⟨rfl,rfl⟩ | ⟨hne,hk'⟩
      ·simp[Gi] at hc
      ·obtain⟨v,hv,hro⟩:=f1 m ob b2 k c hl hlive hb hk' hc
       exact⟨v,hv,RdO.mono (fun _ _ h=>h) (fun _ _ _=>rfl) c v _ _ (fun x hx=>.inr ⟨hl',fun hh=>hne hh.2,hx⟩) (fun _ _=>rfl) hro⟩
     ·have e:¬ m=s.st.length:=by omega
      simp only[e,aW] at hb
      obtain⟨v,hv,hro⟩:=f1 m o2 b2 k c h3 hlv hb hk hc
      exact⟨v,hv,RdO.mono (fun _ _ h=>h) (fun _ _ _=>rfl) c v _ _ (fun x hx=>.inr ⟨hl',fun hh=>hne hh.1,hx⟩) (fun _ _=>rfl) hro⟩
    ·have hfr2:∀ x,PH w0 (fun _=>False) w St s.st β x→nb≠some x→PH w0 (fun _=>False) w St (Bc s.st l i off ob row ty sz xs) (fun m=>if m=s.st.length then nb else β m) x:=by
      intro x hx hnb
      refine⟨hx.1,fun h=>h,hx.2.2.1,hx.2.2.2.1,fun m o2 h2 hlv=>?_⟩
      rcases hl2 m o2 h2 with ⟨rfl,rfl⟩ | ⟨rfl,hl',rfl⟩ | ⟨hne,hl',h3⟩
      ·grind
      ·have e:¬ m=s.st.length:=by omega
       simp only[e,aW]
       exact hx.2.2.2.2 m ob hl hlive
      ·have e:¬ m=s.st.length:=by omega
       simp only[e,aW]
       exact hx.2.2.2.2 m o2 h3 hlv
     rintro m k x (⟨rfl,hx⟩ | ⟨hm,hne,hx⟩)
     ·obtain⟨q1,q2⟩:=n1 k x hx
      cases hnb:nb with
      | none =>
       grind
      | some b' =>
       refine⟨⟨⟨ty,sz,xs,true,true⟩,b',AOk,rfl,by simp[hnb]⟩, ?_⟩
       have:=hfr2 x (hfree x q1) q2
       rwa [hnb] at this
     grind
    grind }
open Go.Lib
theorem o6 {P:Program} (w:World) (t u ty e:TypeId) (i:TypeInfo) (ht:P.underlying t=some (.slice e)) (hu:P.underlying u=some .string) (hi:P.info? e=some i) {n:Nat} (hsz:i.size=n) (hn:n=1)
  (g sLen sCap:Nat) (cur:Array Value) (hg:w.heap[g]?=some (.cells cur e (0,0))) (s:ByteArray) (m:Nat) (hm:m=s.size) (hroom:sLen+m≤sCap) (hfit:sLen*n+(strCells s).length≤cur.size) :
  (Builtin.append_ #[t,u] ty #[.slice (some ⟨g,0,none⟩) sLen sCap,.string s]).run P w =
   .ok (.slice (some ⟨g,0,none⟩) (sLen+m) sCap) (w.setRow g (cur.toList.take (sLen*n)++strCells s++cur.toList.drop (sLen*n+(strCells s).length)).toArray):=by
 grind [strCells_length,run_append_room_string]
theorem o7 {P:Program} (w:World) (t u ty e:TypeId) (i:TypeInfo) (z:Value) (ht:P.underlying t=some (.slice e)) (hu:P.underlying u=some .string) (hi:P.info? e=some i) (hz:i.zero=some z)
  (b:Addr) (sLen sCap:Nat) (olds:List Value) (hlo:olds.length=sLen*i.size) (holds:∀ j v,olds[j]?=some v→w.cell? (b.add j)=some v) (s:ByteArray) (m:Nat) (hm:m=s.size)
  (hg:sCap<sLen+m) (h63:((sLen+m:Nat):Int)≤9223372036854775807) (hfit:Builtin.nextslicecap (sLen+m) sCap*i.bytes≤281474976710656) :
  (Builtin.append_ #[t,u] ty #[.slice (some b) sLen sCap,.string s]).run P w =
   .ok (.slice (some ⟨w.heap.size,0,none⟩) (sLen+m) (grownCap w (sLen+m) sCap e))
    (w.drew.alloc (.cells (olds.toArray++(strCells s).toArray++Builtin.zeroCells z.cells (grownCap w (sLen+m) sCap e-(sLen+m))) e)):=by
 grind [run_append_grow_string]
def OM (b:ByteArray):List (List Cl):=b.data.toList.map fun x=>[.v (.int .u8 x.toNat)]
theorem uy (b:ByteArray):(OM b).length=b.size:=by simp only[OM,ae]; rfl
theorem o8 (b:ByteArray):(OM b).flatten=b.data.toList.map fun x=>.v (.int .u8 x.toNat):=by
 unfold OM
 induction b.data.toList with
 | nil=>rfl
 | cons x l ih=>grind
def zH (P:Program) (s:MS) (T T':TypeId) (x y:AV):Option (AV×List Ob):=match EO P T,P.underlying T' with
 | some e,some .string=>match Ae P e,VQ P e,Ey P e with
  | some n,some zs,some by'=>if(zs.length=n∧n=1)∧by'≤65536 then match x,y with
    | .c (.ref l),.c (.v (.string b))=>match DT s.st l with
     | some ob=>if ob.ty=e∧ob.sz=n∧0<ob.xs.length∧ob.xs.length+b.size≤2147483648 then some (.c (.ref s.st.length),Aj s.st l ++ [⟨e,n,ob.xs++OM b,ob.wr,true⟩]) else none
     | none=>none
    | _,_=>none
   else none
  | _,_,_=>none
 | _,_=>none
theorem AFn (h:Core w0 St0 St β s a w) (o:Oper) (T T':TypeId) (c:Call) (x y:Operand) (ho:o.op = .call c) (hcl:c.callee = .builtin .append) (hca:c.args.toList = [x,y]) (hct:c.argTypes.toList = [T,T']) (hc:Au x=true) (hc2:Au y=true)
  {z:AV} {st':List Ob} (hy:zH P s T T' (Ew s x) (Ew s y)=some (z,st')):Does P a w w0 St0 s o z st':=by
 have hx:=Cj h x hc
 have hyy:=Cj h y hc2
 have ha1:c.argTypes = #[T,T']:=APS
 have ha2:c.args = #[x,y]:=APT
 have hexec:∀ v w',(Builtin.append_ #[T,T'] o.type #[a.eval x,a.eval y]).run P w = .ok v w'→(execOp a.eval o).run P w = .ok (.value v) w':=by
  exact AMy
 unfold zH at hy
 split at hy
 ·rename_i e hte hu
  have ht:=NJ hte
  split at hy
  ·rename_i n cs0 by' hs hz0 hb
   obtain⟨zs,hz,_,rfl⟩:=Q4 hz0
   split at hy
   ·rename_i hcond
    obtain⟨⟨hzl0,hn1⟩,hby⟩:=hcond
    have hn:0<n:=AOh
    have hzl:zs.length=n:=AP5
    split at hy
    ·rename_i l bs hevx hevy
     rw[hevy] at hyy
     obtain⟨hvy,_⟩:=PI hyy
     have hxx:AVR w St s.st β (Ew s x) (a.eval x):=hx
     generalize hysd:OM bs=ys at hy
     generalize hnews:strCells bs=news
     have hys:ys.length=bs.size:=by rw[← hysd]; exact uy bs
     have hyfl0:ys.flatten=bs.data.toList.map fun x=>.v (.int .u8 x.toNat):=by rw[← hysd]; exact o8 bs
     have hyl:∀ r∈ys,r.length=n:=fun r hr=>by
      rw[← hysd] at hr
      obtain⟨x,_,rfl⟩:=kN.1 hr
      simp[hn1]
     have hysno:∀ (k:Nat) (c:Cl),ys.flatten[k]?=some c→Gi c=false:=fun k c hk=>by
      rw[hyfl0,qp,yx] at hk
      obtain⟨x,_,rfl⟩:=hk
      rfl
     have hyfl:ys.flatten.length=ys.length*n:=Eb hyl
     have n1:news.length=ys.length*n:=by rw[← hnews,strCells_length,hys,hn1,Nat.mul_one]
     have n3:∀ (k:Nat) (c:Cl),ys.flatten[k]?=some c→∃ u,news[k]?=some u∧RdC w St s.st β c u:=fun k c hk=>by
      rw[hyfl0,qp,yx] at hk
      obtain⟨x,hx,rfl⟩:=hk
      refine⟨.int .u8 x.toNat,by rw[← hnews,strCells,qp,hx]; rfl, ?_⟩
      simp only[RdC,RdD,true_and]
      have:=x.toNat_lt
      simp only[QZ,Lit.wf,ay,bf]
      simp[IntKind.min,IntKind.max,IntKind.bits,IntKind.signed]
      omega
     have n4:∀ u∈news,u.oneCell'=true:=by rw[← hnews]; exact strCells_oneCell bs
     have htab:∃ i z',P.info? e=some i∧i.zero=some z'∧i.size=n∧i.bytes=by'∧z'.cells.size=n:=by
      exact AK3
     obtain⟨i,z',hi,hiz,hsz,hbs,hzs⟩:=htab
     split at hy
     ·rename_i ob hob
      split at hy
      ·rename_i hoc
       obtain⟨hty,hosz,hxpos,hle⟩:=hoc
       rw[← hys] at hle
       simp only[ak,bK] at hy
       obtain⟨rfl,rfl⟩:=hy
       rw[hevx] at hxx
       obtain⟨hl,hlive⟩:=CS hob
       simp only[AVR,RdC,BN,hl] at hxx
       have hx2:=hxx.2 hlive
       obtain⟨k1,k2⟩:=h.kill l
       have hkr:∀ c u,RdC w St s.st β c u→RdC w St (Aj s.st l) β c u:=fun c u hc=>by
        exact AMf
       have hkrB:∀ c u,RdB w St s.st β c u→RdB w St (Aj s.st l) β c u:=fun c u hc=>by
        exact ALg
       have hll:l<s.st.length:=(aF.1 hl).1
       have hkl:=Ii s.st l
       cases hβ:β l with
       | none =>
        grind
       | some b0 =>
        simp only[hβ] at hx2
        obtain⟨cap,cs,hvx,c1,c2,c3,c4⟩:=hx2
        obtain⟨p1,p2,cs',p3,p4,p5⟩:=h.obs l ob b0 hl hlive hβ
        rw[c3] at p3
        simp only[ak,Obj.cells.injEq,abG] at p3
        subst p3
        have hfree:∀ l' o2,(Aj s.st l)[l']?=some o2→o2.live=true→β l'≠some b0:=fun l' o2 h2 hl2 hb2=>by
         exact AMt
        have hkeep:∀ o,St b0 o→ob.wr=false∧o<ob.xs.length*ob.sz:=fun o hbo=>h.sep l ob b0 o hl hlive hβ hbo
        have hxfl:ob.xs.flatten.length=ob.xs.length*n:=by rw[Eb p4,hosz]
        have hlall:∀ r∈ob.xs++ys,r.length=n:=fun r hr=>by
         grind
        have hcap:cs.size=cap*n:=by rw[c4,hosz]
        have hFC:ob.xs.flatten.length≤cs.toList.length:=MZ (R:=fun c u=>RdB w St s.st β c u) (fun k c hk=>AOk)
        have holdl:(cs.toList.take (ob.xs.length*n)).length=ob.xs.length*n:=by
         rw[bz,dO AOh]
        have hold:∀ (k:Nat) (c:Cl),ob.xs.flatten[k]?=some c→∃ u,(cs.toList.take (ob.xs.length*n))[k]?=some u∧RdB w St s.st β c u:=fun k c hk=>by
         grind
        have hboth:∀ (k:Nat) (c:Cl),(ob.xs++ys).flatten[k]?=some c→∃ u,(cs.toList.take (ob.xs.length*n)++news)[k]?=some u∧RdB w St (Aj s.st l) β c u:=fun k c hk=>by
         exact AMC
        by_cases hroom:ob.xs.length+ys.length≤cap
        ·
         have hcsl:cs.toList.length=cs.size:=AOi
         have hcapm:(ob.xs.length+ys.length)*n≤cap*n:=aaw _ hroom
         have hfit:ob.xs.length*i.size+news.length≤cs.size:=APt
         have hr:=o6 (P:=P) w T T' o.type e i ht hu hi hsz hn1 b0 ob.xs.length cap cs AOk bs ys.length hys hroom AOk
         rw[← hvx,← hvy,hnews] at hr
         exact AFV
        ·
         have holds:∀ (j:Nat) (v:Value),(cs.toList.take (ob.xs.length*n))[j]?=some v→w.cell? ((⟨b0,0,none⟩:Addr).add j)=some v:=fun j v hj=>by
          exact AMl
         have hr:=o7 (P:=P) w T T' o.type e i z' ht hu hi hiz ⟨b0,0,none⟩ ob.xs.length cap (cs.toList.take (ob.xs.length*n)) AOk holds bs ys.length hys AOh AOh (by
          exact growslice_fits AOh (by rw[hbs]; exact Le (.inl hle) hby (aT _)))
         rw[← hvx,← hvy,hnews] at hr
         exact AGd
      ·cases hy
     ·cases hy
    ·cases hy
   ·cases hy
  ·cases hy
 ·cases hy
def same (st:List Ob):Option AV→Option (AV×List Ob)
 | some y=>some (y,st)
 | none=>none
def o9 (st:List Ob):List AV→Option (List (List Cl)×List Ob)
 | []=>some ([],st)
 | .ip row::r=>match o9 st r with
  | some (xs,st')=>some (row::xs,st')
  | none=>none
 | .lp l i off::r=>match DT st l with
  | some ob=>if G5 ob.xs=true then match ob.xs[i]? with
   | some row=>match o9 (Qi st l) r with
    | some (xs,st')=>some (row.drop off::xs,st')
    | none=>none
   | none=>none
   else none
  | none=>none
 | _::_=>none
theorem Jv (h:Core w0 St0 St β s a w):∀ (xs:List Operand),xs.all Au=true→AVRs w St s.st β (xs.map (Ew s)) (xs.map a.eval)
 | [],_=>by simp[AVRs]
 | x::xs,hc=>by
  simp only[bC,ay] at hc
  simp only[YG,AVRs]
  exact⟨_,_,rfl,Cj h x hc.1,Jv h xs hc.2⟩
theorem o_:∀ (cs:List AV) (vs:List Value) (st st':List Ob) (xs:List (List Cl)) (St:Nat→Nat→Prop),Core w0 St0 St β ⟨s.n,s.env,st⟩ a w→AVRs w St st β cs vs→o9 st cs=some (xs,st') →
  ∃ St',Core w0 St0 St' β ⟨s.n,s.env,st'⟩ a w∧(∀ b o,St b o→St' b o)∧vs.length=xs.length∧∀ (k:Nat) (c:List Cl),xs[k]?=some c→∃ b off,vs[k]?=some (.pointer (some ⟨b,off,none⟩))∧RdL w St' c b off
 | [],vs,st,st',xs,St,h,hv,hx=>by
  simp only[o9,ak,bK] at hx
  obtain⟨rfl,rfl⟩:=hx
  simp only[AVRs] at hv
  subst hv
  exact⟨St,h,fun _ _ h=>h,rfl,fun k c hk=>APM⟩
 | c::cs,vs,st,st',xs,St,h,hv,hx=>by
  simp only[AVRs] at hv
  obtain⟨v,vs,rfl,h1,h2⟩:=hv
  cases c with
  | ip row =>
   simp only[o9] at hx
   split at hx
   ·rename_i ys st1 hy
    simp only[ak,bK] at hx
    obtain⟨rfl,rfl⟩:=hx
    obtain⟨St',q1,q2,q3,q4⟩:=o_ cs vs st st1 ys St h h2 hy
    simp only[AVR] at h1
    grind [aQ,ak,RdL.mono]
   ·cases hx
  | lp l i off =>
   simp only[o9] at hx
   split at hx
   ·rename_i ob hob
    split at hx
    ·rename_i hp
     split at hx
     ·rename_i row hrow
      split at hx
      ·rename_i ys st1 hy
       simp only[ak,bK] at hx
       obtain⟨rfl,rfl⟩:=hx
       obtain⟨St1,f1,f2,_,f4⟩:=h.freeze l hob hp
       obtain⟨hl,hlive⟩:=CS hob
       simp only[AVR,hl] at h1
       obtain⟨b,hβ,rfl⟩:=h1 hlive
       have h2':AVRs w St1 (Qi st l) β cs vs:=AVRs.mono f2 (fun _ _ _=>rfl) (fun l' u hu=>(XE l' u).2 hu) (UR fun l' ob' hl'=>uk hl') cs vs h2
       obtain⟨St',q1,q2,q3,q4⟩:=o_ cs vs (Qi st l) st1 ys St1 f1 h2' hy
       obtain⟨g1,g2⟩:=f4 b hβ
       have hr:RdL w St1 (row.drop off) b (i*ob.sz+off):=by
        have:=(g2.at ob.sz g1 i row hrow).drop off
        simpa using this
       grind [aQ,ak,RdL.mono]
      ·cases hx
     ·cases hx
    ·cases hx
   ·cases hx
  | _=>simp[o9] at hx
def WZ (P:Program) (s:MS) (o:Op):Option (AV×List Ob):=match o with
 | .alloc T=>P9 P s T
 | .box T x=>ADw s T (Ew s x)
 | .store T p x=>dQ P s T (Ew s p) (Ew s x)
 | .makeSlice T l c=>ui P s T (Ew s l) (Ew s c)
 | .buildSlice T len ps=>Ld P s T len ps.toList
 | .build T ps=>if EF P T then UQ P s T ps.toList else none
 | .slice T x lo hi none=>UT P s T (Ew s x) lo hi
 | .load T x=>match Ip P s (.load T x) with
  | some y=>some (y,s.st)
  | none=>AAv P s T (Ew s x)
 | .makeFunc (.func f) first caps=>if first.toList.isEmpty=true then match o9 s.st (caps.toList.map (Ew s)) with
  | some (xs,st')=>some (.clo f xs,st')
  | none=>none
  else none
 | .call c=>match c.callee with
  | .builtin .append=>match c.args.toList,c.argTypes.toList with
   | [x,y],[T,T']=>if T=T' then zG P s T (Ew s x) (Ew s y) else zH P s T T' (Ew s x) (Ew s y)
   | _,_=>none
  | _=>same s.st (Ip P s (.call c))
 | op=>same s.st (Ip P s op)
theorem AFo {st st':List Ob} {x:Option AV} {y:AV} (h:same st x=some (y,st')):x=some y∧st'=st:=by
 cases x with
 | none=>simp[same] at h
 | some z=>simp only[same,ak,bK] at h; grind
theorem Oq (h:Core w0 St0 St β s a w) {o:Oper} {y:AV} (hg:Gives P a w St s.st β o y):Does P a w w0 St0 s o y s.st:=by
 obtain⟨v,h1,h2⟩:=hg
 exact⟨_,v,w,St,β,h1,.inl rfl,h,h2⟩
theorem AD9 (h:Core w0 St0 St β s a w) (o:Oper) (T:TypeId) (x:Operand) (ho:o.op = .load T x) (hc:Au x=true) {y:AV} {st':List Ob} (hy:AAv P s T (Ew s x)=some (y,st')):Does P a w w0 St0 s o y st':=by
 have he:=Cj h x hc
 unfold AAv at hy
 split at hy
 ·rename_i l i off hg hev
  split at hy
  ·rename_i ob hob
   split at hy
   ·rename_i hwr
    split at hy
    ·rename_i row hrow
     split at hy
     ·rename_i ty sz xs hcell
      simp only[ak,bK] at hy
      obtain⟨rfl,rfl⟩:=hy
      obtain⟨b,u,β',hb,hu,hcore,href⟩:=h.openCell hob hwr hrow hcell
      rw[hev] at he
      obtain⟨hl,hlive⟩:=CS hob
      simp only[AVR,hl] at he
      obtain⟨b2,hb2,hv⟩:=he hlive
      rw[hb] at hb2
      cases hb2
      refine⟨.value u,u,w,St,β', ?_,.inl rfl,hcore,by simpa only[AVR] using href⟩
      simp[execOp,ho,hv,Instr.loadAt,Instr.sureAddr,loadVar,VR hg,hu]
     ·cases hy
    ·cases hy
   ·cases hy
  ·cases hy
 ·cases hy
theorem zI (h:Core w0 St0 St β s a w) (o:Oper) (hc:o.op.operands.toList.all Au=true) {y:AV} {st':List Ob} (hy:WZ P s o.op=some (y,st')):Does P a w w0 St0 s o y st':=by
 have hF:∀ {y:AV} {st':List Ob},same s.st (Ip P s o.op)=some (y,st')→Does P a w w0 St0 s o y st':=fun {y st'} hs=>by
  obtain⟨h1,rfl⟩:=AFo hs
  grind [Oq,oU]
 cases hop:o.op with
 | alloc T=>rw[hop] at hy; exact ADx h o T hop hy
 | load T x =>
  rw[hop] at hy hc
  simp only[WZ] at hy
  split at hy
  ·grind [ak,bK,Oq,oU]
  ·exact AD9 h o T x hop AO2 hy
 | box T x =>
  rw[hop] at hy hc
  exact AHi h o T x hop AO2 hy
 | makeFunc fn first caps =>
  rw[hop] at hy hc
  cases fn with
  | func f =>
   simp only[WZ] at hy
   split at hy
   ·rename_i hfe
    split at hy
    ·rename_i xs st1 hx
     simp only[ak,bK] at hy
     obtain⟨rfl,rfl⟩:=hy
     have hcc:caps.toList.all Au=true:=by
      simp only[Op.operands,aaO,kM,ay] at hc
      exact hc.2
     obtain⟨St',q1,q2,q3,q4⟩:=o_ _ _ s.st _ xs St h (Jv h caps.toList hcc) hx
     have hf0:first = #[]:=by
      apply abq
      simpa using hfe
     have e:caps.map a.eval=(caps.toList.map a.eval).toArray:=APW
     refine⟨.value (.func (.func f) #[] (caps.map a.eval)),.func (.func f) #[] (caps.map a.eval),w,St',β,by simp[execOp,hop,hf0,Instr.makeFunc],.inl rfl,q1, ?_⟩
     simp only[AVR]
     grind
    ·cases hy
   ·cases hy
  | _=>simp[WZ,Ip,same] at hy
 | store T p x =>
  rw[hop] at hy hc
  simp[Op.operands] at hc
  exact ADz h o T p x hop hc.1 hc.2 hy
 | makeSlice T l c =>
  rw[hop] at hy hc
  simp[Op.operands] at hc
  exact AFe h o T l c hop hc.1 hc.2 hy
 | buildSlice T len ps =>
  rw[hop] at hy hc
  exact jQ h o T len ps hop (by simpa [Op.operands,Function.comp_def] using hc) hy
 | build T ps =>
  rw[hop] at hy hc
  simp only[WZ] at hy
  split at hy
  ·rename_i hfo
   exact AD0 h o T ps hop hfo (by simpa [Op.operands,Function.comp_def] using hc) hy
  ·cases hy
 | slice T x lo hi mx =>
  cases mx with
  | none =>
   rw[hop] at hy hc
   simp[Op.operands] at hc
   refine AD7 h o T x lo hi hop hc.1 ?_ ?_ hy
   ·cases lo with
    | none=>rfl
    | some q=>exact hc.2.1 q rfl
   ·cases hi with
    | none=>rfl
    | some q=>exact hc.2.2 q rfl
  | some m=>rw[hop] at hy; simp[WZ,Ip,same] at hy
 | call c =>
  by_cases hap:c.callee = .builtin .append
  ·rw[hop] at hy hc
   simp only[WZ,hap] at hy
   split at hy
   ·rename_i x y2 T T' hca hct
    split at hy
    ·rename_i hT
     subst hT
     simp only[Op.operands,Call.operands,aaO,kM,ay,hca] at hc
     grind [AFm]
    ·simp only[Op.operands,Call.operands,aaO,kM,ay,hca] at hc
     grind [AFn]
   ·cases hy
  ·rw[hop] at hy
   have:WZ P s (.call c)=same s.st (Ip P s (.call c)):=by
    simp only[WZ]
   grind
 | _=>exact hF (by rw[hop] at hy ⊢; exact hy)
theorem NZ (o:Oper) (c:Call) (f:FuncId) (ho:o.op = .call c) (hcl:c.callee = .value (.func f)) (hin:CallsIn P f):(execOp a.eval o).run P w = .ok (.enter f (c.args.map a.eval)) w:=by
 have:=hin (c.args.map a.eval) w
 simp[execOp,ho,resolve,hcl,Act.eval,Deferred.ofValue,invoke,this]
theorem AAw (o:Oper) (c:Call) (f:FuncId) (x:Operand) (caps:Array Value) (ho:o.op = .call c) (hcl:c.callee = .value x) (hx:a.eval x = .func (.func f) #[] caps) (hin:CallsIn P f):(execOp a.eval o).run P w = .ok (.enter f (c.args.map a.eval++caps)) w:=by
 have:=hin (c.args.map a.eval++caps) w
 simp[execOp,ho,resolve,hcl,hx,Deferred.ofValue,invoke,this]
theorem Sz (h:Core w0 St0 St β s a w) {rs:List Res} {e:Ending} {w':World} {us:List Value} {bs:List (Option Nat)} {St':Nat→Nat→Prop} (hb:Back w St rs e w' us bs St'):Core w0 St0 St' β s a w':=
 h.grow hb.below hb.st hb.stOld hb.stIn
theorem AD_ (h:Core w0 St0 St β s a w) {rs:List Res} {e:Ending} {w':World} {us:List Value} {bs:List (Option Nat)} {St':Nat→Nat→Prop} (hb:Back w St rs e w' us bs St'):Own w0 (fun x=>w.heap.size≤x) w' St' s.st β:=
 h.own.grow hb.below hb.st hb.stOld h.stIn (fun l ob b h1 h2 h3=>(h.obs l ob b h1 h2 h3).2.1) (fun x h1 h2=>AOh)
theorem ResR.blk {w w':World} {St':Nat→Nat→Prop}:∀ (rs:List Res) (us:List Value) (bs:List (Option Nat)) (Φs:List (Nat→Nat→Prop)),ResR w' St' w.heap.size rs us bs Φs→∀ (i b:Nat),bs[i]?=some (some b)→w.heap.size≤b:=by
 intro rs
 induction rs with
 | nil=>intro us bs Φs h i b hi; obtain⟨_,rfl,_⟩:=h; simp at hi
 | cons r rs ih =>
  intro us bs Φs h i b hi
  obtain⟨u,us',b0,bs',Φ,Φs',rfl,rfl,rfl,h1,h2⟩:=h
  cases i with
  | succ i=>grind
  | zero =>
   simp only[aQ,ak] at hi
   subst hi
   cases r with
   | val x=>exact absurd h1.2 AOi
   | own ty sz xs wr=>exact h1.1
   | agg cl=>exact absurd h1.1 AOi
theorem RD (h:Core w0 St0 St β s a w) {rs:List Res} {e:Ending} {w':World} {us:List Value} {bs:List (Option Nat)} {St':Nat→Nat→Prop} (hb:Back w St rs e w' us bs St') :
  ∃ β',Core w0 St0 St' β' ⟨s.n,s.env,(Iw s.st rs).2⟩ a w'∧AVRs w' St' (Iw s.st rs).2 β' (Iw s.st rs).1 us:=by
 obtain⟨Φs,hr,hf⟩:=hb.res
 have hfr:∀ x,w.heap.size≤x→∀ l o2,s.st[l]?=some o2→o2.live=true→β l≠some x:=fun x hx l o2 hl hlv hβ=>by
  have:=(h.obs l o2 x hl hlv hβ).2.1
  omega
 obtain⟨β',q1,q2,_⟩:=ZH w.heap.size rs us bs Φs s.st β (fun x=>w.heap.size≤x) (Sz h hb) h.below.size (AD_ h hb) hr hf
  (fun i b hi=>⟨ResR.blk rs us bs Φs hr i b hi,hfr b (ResR.blk rs us bs Φs hr i b hi)⟩) (fun i Φ k x hi hx=>⟨(hf.fresh i Φ k x hi hx).1,hfr x (hf.fresh i Φ k x hi hx).1⟩)
 grind
def InlS (P:Program) (f:FuncId) (st:List Ob) (args:List AV) (y:AV) (st':List Ob):Prop:=CallsIn P f∧∀ (w0:Bs) (St0 St:Nat→Nat→Prop) (β:Nat→Option Nat) (s:MS) (a:Act) (w:World) (us:List Value),s.st=st→Core w0 St0 St β s a w→AVRs w St st β args us →
 Calls P f us.toArray w fun e w'=>∃ u,e = .returned u∧∃ St' β',Core w0 St0 St' β' ⟨s.n,s.env,st'⟩ a w'∧AVR w' St' st' β' y u
def CU (P:Program) (s:MS) (o:Op) (r:AV):Prop:=match o with
 | .call c=>match c.callee with
  | .value (.func f)=>(∃ args rs,(XI s.st (c.args.toList.map (Ew s))=some (args,s.st)∨(Tf s.st (c.args.toList.map (Ew s))=some args∧rs.all Ji=true))∧Ctr P f args rs∧r=retA (XL rs))∨InlS P f s.st (c.args.toList.map (Ew s)) r s.st
  | .value (.tmp t)=>match unpin (Cb s.env t) with
   | .clo f xs=>∃ args rs,XI s.st (c.args.toList.map (Ew s))=some (args,s.st)∧Ctr P f (args++xs.map AV.ip) rs∧r=retA (XL rs)
   | _=>False
  | .builtin .append=>False
  | _=>Ip P s (.call c)=some r
 | .build T ps=>EF P T=true∧UQ P s T ps.toList=some (r,s.st)
 | .slice T x lo hi none=>UT P s T (Ew s x) lo hi=some (r,s.st)
 | op=>Ip P s op=some r
theorem XM (h:Core w0 St0 St β s a w) (o:Oper) (hc:o.op.operands.toList.all Au=true) {r:AV} (hr:CU P s o.op r) (Q:Exit→Act→World→Prop) :
  o.wp P a w (fun a' w'=>Sim w0 St0 (s.put o.dst r) a' w') Q:=by
 have hD:∀ {r:AV},Does P a w w0 St0 s o r s.st→o.wp P a w (fun a' w'=>Sim w0 St0 (s.put o.dst r) a' w') Q:=fun {r} hd=>by
  obtain⟨nx,v,w',St',β',h1,h2,h3,h4⟩:=hd
  unfold Oper.wp
  rw[h1]
  rcases h2 with rfl | ⟨rfl,rfl⟩
  ·exact⟨St',β',h3.put o.dst h4⟩
  ·exact⟨St',β',h3.put o.dst h4⟩
 have hF:∀ {r:AV},Ip P s o.op=some r→o.wp P a w (fun a' w'=>Sim w0 St0 (s.put o.dst r) a' w') Q:=fun {r} hs=>hD (Oq h (oU h o hc hs))
 cases hop:o.op with
 | call c =>
  rw[hop] at hr
  simp only[CU] at hr
  split at hr
  ·rename_i f hcl
   have hca:c.args.toList.all Au=true:=by
    rw[hop] at hc
    exact ALo
   rcases hr with hr | ⟨hin,hr⟩
   rotate_left
   ·have hcall:=hr w0 St0 St β s a w _ rfl h (Jv h c.args.toList hca)
    have ea:(c.args.toList.map a.eval).toArray=c.args.map a.eval:=APW
    rw[ea] at hcall
    unfold Oper.wp
    rw[NZ o c f hop hcl hin]
    simp only[Oper.upon]
    refine hcall.mono fun e w' hb=>?_
    obtain⟨u,rfl,St',β',h1,h2⟩:=hb
    exact⟨St',β',h1.put o.dst h2⟩
   obtain⟨args,rs,hf,hspec,rfl⟩:=hr
   rcases hf with hf | hf
   ·obtain⟨St1,q1,q2,q3⟩:=VV _ _ _ _ St h hf
    have hargs:=q3 _ (Jv h c.args.toList hca)
    unfold Oper.wp
    rw[NZ o c f hop hcl hspec.1]
    simp only[Oper.upon]
    have hcall:=hspec.2 w St1 (c.args.toList.map a.eval) q1.stIn hargs
    have ea:(c.args.toList.map a.eval).toArray=c.args.map a.eval:=APW
    rw[ea] at hcall
    refine hcall.mono fun e w' hb=>?_
    obtain⟨us,bs,St2,hb⟩:=hb
    obtain⟨bs3,St3,hb3⟩:=VX hb
    have k1:=Sz q1 hb3
    exact AHj
   ·obtain⟨φ,hφ⟩:=h.own
    have hargs:=dY h hφ hf.1 (Jv h c.args.toList hca)
    unfold Oper.wp
    rw[NZ o c f hop hcl hspec.1]
    simp only[Oper.upon]
    have hcall:=hspec.2 w _ (c.args.toList.map a.eval) (fun b o hb=>AllSt.lt h hφ hb) hargs
    have ea:(c.args.toList.map a.eval).toArray=c.args.map a.eval:=APW
    rw[ea] at hcall
    refine hcall.mono fun e w' hb=>?_
    obtain⟨us,bs,St2,hb⟩:=hb
    have hb:=hb.clo hf.2 h.stIn
    obtain⟨bs3,St3,hb3⟩:=VX hb
    have k1:=Sz h hb3
    exact AHj
  ·rename_i t hcl
   split at hr
   ·rename_i f xs hev
    obtain⟨args,rs,hf,hspec,rfl⟩:=hr
    have hca:c.args.toList.all Au=true:=by
     rw[hop] at hc
     exact ALo
    obtain⟨St1,q1,q2,q3⟩:=VV _ _ _ _ St h hf
    have hargs:=q3 _ (Jv h c.args.toList hca)
    have he:AVR w St s.st β (unpin (Cb s.env t)) (a.eval (.tmp t)):=Cj h (.tmp t) (aP.1 hc _ (by rw[hop]; simp[Op.operands,Call.operands,hcl]))
    rw[hev] at he
    simp only[AVR] at he
    obtain⟨us0,hu0,hul,hur⟩:=he
    have hcap:RdAs w St1 (xs.map AV.ip) us0:=XJ hul fun k c hk=>by
     grind [RdL.mono]
    unfold Oper.wp
    rw[AAw o c f (.tmp t) us0.toArray hop hcl hu0 hspec.1]
    simp only[Oper.upon]
    have hcall:=hspec.2 w St1 (c.args.toList.map a.eval++us0) q1.stIn (dU hargs hcap)
    have ea:(c.args.toList.map a.eval++us0).toArray=c.args.map a.eval++us0.toArray:=APW
    rw[ea] at hcall
    refine hcall.mono fun e w' hb=>?_
    obtain⟨us,bs,St2,hb⟩:=hb
    obtain⟨bs3,St3,hb3⟩:=VX hb
    have k1:=Sz q1 hb3
    exact AHj
   grind
  ·exact hr.elim
  grind
 | build T ps =>
  rw[hop] at hr
  refine hD (zI h o hc ?_)
  rw[hop]
  simp only[CU] at hr
  simp only[WZ,hr.1,aX]
  exact hr.2
 | slice T x lo hi mx =>
  rw[hop] at hr
  cases mx with
  | none =>
   refine hD (zI h o hc ?_)
   rw[hop]
   exact hr
  | some m=>simp only[CU,Ip] at hr; cases hr
 | _=>exact hF (by rw[hop] at hr ⊢; exact hr)
theorem kW {s s':MS} {x:Operand} (h:∀ t,x = .tmp t→Cb s'.env t=Cb s.env t):Ew s' x=Ew s x:=by
 cases x with
 | tmp t=>exact congrArg unpin (h t rfl)
 | _=>rfl
theorem P_ {s s':MS} (hst:s'.st=s.st) (o:Op) (h:∀ t,.tmp t∈o.operands.toList→Cb s'.env t=Cb s.env t) (r:AV) (hr:CU P s o r):CU P s' o r:=by
 have he:∀ x,x∈o.operands.toList→Ew s' x=Ew s x:=fun x hx=>kW fun t ht=>h t AOk
 cases o with
 | call c =>
  have hargs:∀ x∈c.args.toList,Ew s' x=Ew s x:=fun x hx=>he x (by
   simp only[Op.operands,Call.operands,aaO,aaY]
   exact .inr hx)
  have hmap:c.args.toList.map (Ew s')=c.args.toList.map (Ew s):=aaM hargs
  simp only[CU] at hr ⊢
  split at hr
  ·grind
  ·rename_i t hcl
   have ht:Cb s'.env t=Cb s.env t:=h t (by simp[Op.operands,Call.operands,hcl])
   grind
  ·exact hr
  ·simp only[Ip] at hr ⊢
   grind
 | build T ps =>
  have hps:∀ p∈ps.toList,Ew s' p.2=Ew s p.2:=fun p hp=>he p.2 (by
   simp only[Op.operands]
   grind)
  have key:∀ (l:List (Nat×Operand)),(∀ p∈l,Ew s' p.2=Ew s p.2)→Ih s' l=Ih s l:=by
   exact AMn
  simp only[CU,UQ,key _ hps,hst] at hr ⊢
  exact hr
 | slice T x lo hi mx =>
  cases mx with
  | none =>
   have h1:Ew s' x=Ew s x:=he x AOo
   have h2:∀ d,JW s' lo d=JW s lo d:=fun d=>by
    cases lo with
    | none=>rfl
    | some q=>simp only[JW]; rw[he q AOo]
   have h3:∀ d,JW s' hi d=JW s hi d:=fun d=>by
    cases hi with
    | none=>rfl
    | some q=>simp only[JW]; rw[he q AOo]
   simp only[CU,UT,h1,h2,h3,hst] at hr ⊢
   exact hr
  | some m=>simp only[CU,Ip] at hr; cases hr
 | move x=>simp only[CU,Ip] at hr ⊢; rw[he x AOo]; exact hr
 | assign x=>simp only[CU,Ip] at hr ⊢; rw[he x AOo]; exact hr
 | pick c x y=>simp only[CU,Ip] at hr ⊢; rw[he c AOo,he x AOo,he y AOo]; exact hr
 | load T x=>simp only[CU,Ip] at hr ⊢; rw[he x AOo,hst]; exact hr
 | nilCheck x=>simp only[CU,Ip] at hr ⊢; rw[he x AOo,hst]; exact hr
 | binOp op T x y T2=>simp only[CU,Ip] at hr ⊢; rw[he x AOo,he y AOo]; exact hr
 | unOp op T x=>simp only[CU,Ip] at hr ⊢; rw[he x AOo]; exact hr
 | convert a b x=>simp only[CU,Ip] at hr ⊢; rw[he x AOo,hst]; exact hr
 | fieldAddr T x f=>simp only[CU,Ip] at hr ⊢; rw[he x AOo,hst]; exact hr
 | field T x f=>simp only[CU,Ip] at hr ⊢; rw[he x AOo]; exact hr
 | indexAddr T x y=>simp only[CU,Ip] at hr ⊢; rw[he x AOo,he y AOo,hst]; exact hr
 | index T x y=>simp only[CU,Ip] at hr ⊢; rw[he x AOo,he y AOo]; exact hr
 | extract x i=>simp only[CU,Ip] at hr ⊢; rw[he x AOo]; exact hr
 | _=>simp only[CU,Ip] at hr; cases hr
def pF (ops:Array Oper) (env:List (Nat×AV)) (g:Option (Nat×Bool)):Option Bool:=match g with
 | none=>some true
 | some (j,want)=>match (ops[j]?).bind (·.dst) with
  | some d=>match (if d<1000000 then Cb env d else .un) with
   | .c (.v (.bool t))=>some (t==want)
   | .undef=>some false
   | _=>none
  | none=>some false
theorem pG (h:Core w0 St0 St β s a w) {ops:Array Oper} {o:Oper} {b:Bool} (hg:pF ops s.env o.guard=some b):Region.wanted o (yielded ops a.tmps)=b:=by
 unfold pF at hg
 unfold Region.wanted
 split at hg
 ·grind
 ·rename_i j want hn
  simp only[hn]
  unfold yielded
  split at hg
  ·rename_i d hd
   rw[hd]
   have henv:AVR w St s.st β (if d<1000000 then Cb s.env d else .un) (a.tmps.getD d undef):=by
    split
    ·have:=h.env d
     rwa [Tc ‹_›] at this
    ·simp only[AVR]
   split at hg
   ·rename_i t hev
    simp only[ak] at hg
    subst hg
    rw[hev] at henv
    obtain⟨hv,_⟩:=PI henv
    have hlt:d<a.tmps.size:=by
     rcases bQ d a.tmps.size with h' | h'
     ·exact h'
     ·simp[h',undef] at hv
    simp_all
   ·rename_i hev
    simp only[ak] at hg
    subst hg
    rw[hev] at henv
    simp only[AVR] at henv
    simp only[abu]
    cases hq:a.tmps[d]? with
    | none=>simp
    | some v =>
     have:v=undef:=by simpa [hq] using henv
     subst this
     simp[undef]
   ·cases hg
  grind
def CondK (b:Bool) (x y:Prop):Prop:=(b=true→x)∧(b=false→y)
theorem Kq {x y:Prop}:CondK true x y=x:=by simp[CondK]
theorem Lh {x y:Prop}:CondK false x y=y:=by simp[CondK]
theorem AEw {b:Bool} {x y:Prop} (h1:b=true→x) (h2:b=false→y):CondK b x y:=⟨h1,h2⟩
def Ti (x:Option (AV×List Ob)) (K:AV→List Ob→Prop):Prop:=match x with
 | some (y,st)=>K y st
 | none=>False
def uz (x:Option (List AV×List Ob)) (K:List AV→List Ob→Prop):Prop:=match x with
 | some (y,st)=>K y st
 | none=>False
def Tj (x:Option Bool) (K:Bool→Prop):Prop:=match x with
 | some b=>K b
 | none=>False
def AAx (x:AV) (K:Bool→Prop):Prop:=match x with
 | .c (.v (.bool b))=>K b
 | _=>False
theorem zJ {y:AV} {st:List Ob} {K:AV→List Ob→Prop}:Ti (some (y,st)) K=K y st:=rfl
theorem zK {y:List AV} {st:List Ob} {K:List AV→List Ob→Prop}:uz (some (y,st)) K=K y st:=rfl
theorem zL {b:Bool} {K:Bool→Prop}:Tj (some b) K=K b:=rfl
theorem zM {b:Bool} {K:Bool→Prop}:AAx (.c (.v (.bool b))) K=K b:=rfl
def DrK (P:Program) (s:MS) (o:Op) (K:AV→Prop):Prop:=∃ r,CU P s o r∧K r
def u_ (s:MS) (dst:Option Nat) (K:MS→Prop) (r:AV):Prop:=K (s.put dst r)
def gD (P:Program) (o:Oper) (K:MS→Prop) (s:MS) (b:Bool):Prop:=CondK b (DrK P s o.op (u_ s o.dst K)) (K (s.put o.dst .undef))
theorem AFp {P:Program} {o:Oper} {K:MS→Prop} {s:MS}:gD P o K s true=DrK P s o.op (u_ s o.dst K):=Kq
theorem AEA {P:Program} {o:Oper} {K:MS→Prop} {s:MS}:gD P o K s false=K (s.put o.dst .undef):=Lh
theorem gD.mk {P:Program} {o:Oper} {K:MS→Prop} {s:MS} {b:Bool} (h1:b=true→DrK P s o.op (u_ s o.dst K)) (h2:b=false→K (s.put o.dst .undef)):gD P o K s b:=AEw h1 h2
def vpD (P:Program) (ops:Array Oper) (K:MS→Prop):List Oper→MS→Prop
 | [],s=>K s
 | o::rest,s=>Tj (pF ops s.env o.guard) (gD P o (vpD P ops K rest) s)
def Be (o:Oper) (i:Nat):Bool:=o.after.any fun e=>e.on==i&&Region.binds .any e
def RF (ops:Array Oper) (o:Oper):List Nat:=
 (o.op.operands.toList.filterMap fun x=>match x with | .tmp t=>some t | _=>none)++(match o.guard with | some (j,_)=>((ops[j]?).bind (·.dst)).toList | none=>[])
def Vg (ops:Array Oper) (i j:Nat):Bool:=match ops[i]?,ops[j]? with
 | some oi,some oj=>match oi.dst with
  | some d=>(i==j||oj.dst != some d)&&(i==j || !(RF ops oj).contains d||(if i<j then Be oj i else Be oi j))
  | none=>true
 | _,_=>true
def FP (n:Nat) (ops:Array Oper):Bool:=
 ((List.range ops.size).all fun i=>(List.range ops.size).all fun j=>Vg ops i j) &&
 ((List.range ops.size).all fun i=>match ops[i]? with | some o=>(o.after.all fun e=>!Region.binds .any e||e.on<i)&&(match o.dst with | some d=>d<n | none=>true) | none=>true)
theorem Core.congr (h:Core w0 St0 St β s a w) {s':MS} (hn:s'.n=s.n) (hst:s'.st=s.st) (he:∀ t,Cb s'.env t=Cb s.env t):Core w0 St0 St β s' a w:={
 defers:=h.defers
 size:=by rw[hn]; exact h.size
 lim:=by rw[hn]; exact h.lim
 env:=fun i=>by rw[he,hst]; exact h.env i
 below:=h.below,st0:=h.st0,stOld:=h.stOld,stIn:=h.stIn
 obs:=by rw[hst]; exact h.obs
 nil:=by rw[hst]; exact h.nil
 inj:=by rw[hst]; exact h.inj
 sep:=by rw[hst]; exact h.sep
 own:=by rw[hst]; exact h.own }
section draw
variable (ops:Array Oper) (R:Nat→AV)
def Bi (env:List (Nat×AV)) (X:Nat→Bool):Nat→List (Nat×AV)
 | 0=>env
 | k+1=>match (ops[k]?).bind (·.dst) with
  | some d=>if X k then(d,R k)::Bi env X k else Bi env X k
  | none=>Bi env X k
variable {ops R}
theorem Fb {env:List (Nat×AV)} {X:Nat→Bool} (hd:∀ (i j d:Nat),(ops[i]?).bind (·.dst)=some d→(ops[j]?).bind (·.dst)=some d→i=j) {i d:Nat} (hi:(ops[i]?).bind (·.dst)=some d) (hX:X i=true) :
  ∀ k,i<k→Cb (Bi ops R env X k) d=R i
 | 0,h=>AOh
 | k+1,h=>by
  simp only[Bi]
  rcases bQ i k with h' | h'
  ·have ih:=Fb (env:=env) (X:=X) hd hi hX k h'
   split
   ·rename_i d' hk
    split
    ·simp only[Cb]
     by_cases e:d'=d
     ·subst e
      have:=hd i k d' hi hk
      omega
     ·simp only[e,aW]; exact ih
    ·exact ih
   ·exact ih
  ·have:i=k:=by omega
   subst this
   simp only[hi,hX,aX,Cb]
theorem BV {env:List (Nat×AV)} {X:Nat→Bool} {d:Nat}:∀ k,(∀ (i:Nat),i<k→(ops[i]?).bind (·.dst)=some d→X i=false)→Cb (Bi ops R env X k) d=Cb env d
 | 0,_=>rfl
 | k+1,hm=>by
  have ih:=BV (env:=env) (X:=X) k (fun i hi=>hm i AOh)
  simp only[Bi]
  split
  ·rename_i d' hk
   split
   ·rename_i hx
    simp only[Cb]
    by_cases e:d'=d
    ·subst e
     have:=hm k AOh hk
     rw[hx] at this; cases this
    ·simp only[e,aW]; exact ih
   ·exact ih
  ·exact ih
end draw
theorem YL {n:Nat} {ops:Array Oper} (h:FP n ops=true) {i j:Nat} (hi:i<ops.size) (hj:j<ops.size):Vg ops i j=true:=by
 simp only[FP,ay] at h
 grind
theorem dw {n:Nat} {ops:Array Oper} (h:FP n ops=true):∀ (i j d:Nat),(ops[i]?).bind (·.dst)=some d→(ops[j]?).bind (·.dst)=some d→i=j:=by
 intro i j d hi hj
 cases hoi:ops[i]? with
 | none=>grind
 | some oi =>
  cases hoj:ops[j]? with
  | none=>grind
  | some oj =>
   simp only[hoi,hoj,abu] at hi hj
   have:=YL h (bJ.1 hoi).1 (bJ.1 hoj).1
   simp only[Vg,hoi,hoj,hi,ay,qw,ZE,bne_iff_ne] at this
   grind
theorem OO {n:Nat} {ops:Array Oper} (h:FP n ops=true) {i j d:Nat} {oi oj:Oper} (hoi:ops[i]?=some oi) (hoj:ops[j]?=some oj) (hd:oi.dst=some d) (hr:d∈RF ops oj) (hne:i≠j) :
  (i<j→Be oj i=true)∧(j<i→Be oi j=true):=by
 have:=YL h (bJ.1 hoi).1 (bJ.1 hoj).1
 simp only[Vg,hoi,hoj,hd,ay,qw,ZE,bne_iff_ne] at this
 grind
theorem GL {n:Nat} {ops:Array Oper} (h:FP n ops=true) {i:Nat} {o:Oper} (ho:ops[i]?=some o):(∀ e∈o.after,Region.binds .any e=true→e.on<i)∧∀ d,o.dst=some d→d<n:=by
 simp only[FP,ay] at h
 grind [aP,bJ,Array.all_eq_true']
theorem DZ {o:Oper} {i:Nat} {listed:Array Bool} (h:Be o i=true) (hall:∀ e∈o.after,Region.binds .any e=true→listed.getD e.on false=true):listed.getD i false=true:=by
 unfold Be at h
 grind
theorem d_ {n:Nat} {ops:Array Oper} {K:MS→Prop} (hok:FP n ops=true) (hn:s.n=n):∀ (l:List Oper) (k:Nat) (R0:Nat→AV),(∀ j,l[j]?=ops[k+j]?)→k+l.length=ops.size →
  vpD P ops K l ⟨s.n,Bi ops R0 s.env (fun i=>decide (i<k)) k,s.st⟩ →
  ∃ R:Nat→AV,(∀ i,i<k→R i=R0 i)∧K ⟨s.n,Bi ops R s.env (fun _=>true) ops.size,s.st⟩ ∧
   ∀ (i:Nat) (o:Oper),k≤i→ops[i]?=some o→∃ b,pF ops (Bi ops R s.env (fun _=>true) i) o.guard=some b∧(b=true→CU P ⟨s.n,Bi ops R s.env (fun _=>true) i,s.st⟩ o.op (R i))∧(b=false→R i = .undef)
 | [],k,R0,hl,hk,h=>by
  simp only[y7,abJ] at hk
  simp only[vpD] at h
  refine⟨R0,fun _ _=>rfl, ?_,fun i o hi ho=>?_⟩
  ·have key:∀ m,m≤k→Bi ops R0 s.env (fun i=>decide (i<k)) m=Bi ops R0 s.env (fun _=>true) m:=by
    intro m
    exact AMo
   grind
  grind
 | o::l,k,R0,hl,hk,h=>by
  have ho:ops[k]?=some o:=by simpa using(hl 0).symm
  have key:∀ (R1:Nat→AV) (m:Nat),m≤k→Bi ops R1 s.env (fun i=>decide (i<k)) m=Bi ops R1 s.env (fun _=>true) m:=by
   intro R1 m
   exact AMo
  have keyR:∀ (R1 R2:Nat→AV) (m:Nat),(∀ i,i<m→R1 i=R2 i)→Bi ops R1 s.env (fun _=>true) m=Bi ops R2 s.env (fun _=>true) m:=by
   intro R1 R2 m
   induction m with
   | zero=>intro _; rfl
   | succ m ih =>
    intro hm
    simp only[Bi,ih (fun i hi=>hm i AOh),hm m AOh]
  simp only[vpD,Tj,gD,u_] at h
  have step:∀ r:AV,vpD P ops K l (MS.put ⟨s.n,Bi ops R0 s.env (fun i=>decide (i<k)) k,s.st⟩ o.dst r) →
    ∃ R:Nat→AV,(∀ i,i<k→R i=R0 i)∧R k=r∧K ⟨s.n,Bi ops R s.env (fun _=>true) ops.size,s.st⟩ ∧
     ∀ (i:Nat) (o:Oper),k+1≤i→ops[i]?=some o→∃ b,pF ops (Bi ops R s.env (fun _=>true) i) o.guard=some b∧(b=true→CU P ⟨s.n,Bi ops R s.env (fun _=>true) i,s.st⟩ o.op (R i))∧(b=false→R i = .undef):=by
   intro r hr
   have e1:MS.put ⟨s.n,Bi ops R0 s.env (fun i=>decide (i<k)) k,s.st⟩ o.dst r=⟨s.n,Bi ops (fun i=>if i=k then r else R0 i) s.env (fun i=>decide (i<k+1)) (k+1),s.st⟩:=by
    have key2:∀ m,m≤k→Bi ops (fun i=>if i=k then r else R0 i) s.env (fun i=>decide (i<k+1)) m=Bi ops R0 s.env (fun i=>decide (i<k)) m:=by
     intro m
     induction m with
     | zero=>intro _; rfl
     | succ m ih =>
      intro hm
      have h1:m<k:=AOh
      have h2:m<k+1:=AOh
      have h3:¬ m=k:=AOh
      simp only[Bi,ih AOh,h1,h2,h3,decide_true,aW]
    simp only[Bi,ho,abu,key2 k (aT _)]
    cases hd:o.dst with
    | none=>simp only[MS.put]
    | some d =>
     have:=(GL hok ho).2 d hd
     have h2:k<k+1:=AOh
     simp[MS.put,hn,this,h2]
   rw[e1] at hr
   obtain⟨R,h1,h2,h3⟩:=d_ hok hn l (k+1) _ (fun j=>by
    have:=hl (j+1)
    grind) AOk hr
   exact⟨R,fun i hi=>AOk,AOk,h2,h3⟩
  split at h
  ·rename_i b hb
   cases b with
   | true =>
    obtain⟨r,hr1,hr2⟩:=h.1 rfl
    obtain⟨R,h1,h2,h3,h4⟩:=step r hr2
    grind
   | false =>
    obtain⟨R,h1,h2,h3,h4⟩:=step _ (h.2 rfl)
    grind
  grind
end Go.Vm
