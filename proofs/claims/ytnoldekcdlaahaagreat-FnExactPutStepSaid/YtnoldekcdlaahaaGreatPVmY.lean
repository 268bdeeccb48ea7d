/- A part. -/
import Derived.Test.YtnoldekcdlaahaaGreatPVmPa
set_option linter.unusedSimpArgs false
set_option linter.unusedVariables false
namespace Go.Vm
open Go.RowKit
variable {P:Program} {w0:Bs} {St0 St:Nat→Nat→Prop} {β:Nat→Option Nat} {s:MS} {a:Act} {w:World}
def B_ (st:List Ob) (l i off:Nat) (ob:Ob) (row:List Cl) (ty:TypeId) (sz:Nat) (xs:List (List Cl)):List Ob:=
 st.set l ⟨ob.ty,ob.sz,ob.xs.set i (row.set off (.ref st.length)),ob.wr,ob.live⟩ ++ [⟨ty,sz,xs,true,true⟩]
def AAC (P:Program) (s:MS) (T:TypeId) (x:AV):Option (AV×List Ob):=match Bl P T,x with
 | some false,.lp l i off=>match Cf s.st l with
  | some ob=>if ob.wr=true then match ob.xs[i]? with
   | some row=>match row[off]? with
    | some (.ow ty sz xs)=>some (.c (.ref s.st.length),B_ s.st l i off ob row ty sz xs)
    | _=>none
   | none=>none
   else none
  | none=>none
 | _,_=>none
theorem t_ {xs:List (List Cl)} {sz i off:Nat} {row:List Cl} {c:Cl} (hl:∀ x∈xs,x.length=sz) (hi:xs[i]?=some row) (ho:off<row.length) :
  ∀ (k:Nat) (d:Cl),(xs.set i (row.set off c)).flatten[k]?=some d→(k=i*sz+off∧d=c)∨(k≠i*sz+off∧xs.flatten[k]?=some d):=by
 intro k d hk
 have hrl:row.length=sz:=hl row (bC hi)
 have e:xs.set i (row.set off c)=xs.set i (row.take off++([c]++row.drop (off+1))):=by
  congr 1
  rw[List.set_eq_take_append_cons_drop,bF ho]
  rfl
 have hle:off+1≤row.length:=ho
 have hFl:xs.flatten.length=xs.length*sz:=EK hl
 have hil:i<xs.length:=(aF.1 hi).1
 have hpos:i*sz+(off+1)≤xs.flatten.length:=by
  rw[hFl]
  have:(i+1)*sz≤xs.length*sz:=aaE _ hil
  rw[Zm] at this; omega
 rw[e,Qj hl hi hle] at hk
 have l1:(xs.flatten.take (i*sz+off)).length=i*sz+off:=by rw[bI]; omega
 rcases bV k (i*sz+off) with h1 | h1
 ·grind
 ·rw[bn AOQ,l1] at hk
  rcases bV (k-(i*sz+off)) 1 with h2 | h2
  ·grind
  ·rw[bn AOQ,aaY] at hk
   grind
theorem Core.openCell (h:Core w0 St0 St β s a w) {l i off:Nat} {ob:Ob} {row:List Cl} {ty:TypeId} {sz:Nat} {xs:List (List Cl)} (hob:Cf s.st l=some ob) (hwr:ob.wr=true) (hrow:ob.xs[i]?=some row) (hcell:row[off]?=some (.ow ty sz xs)) :
  ∃ b u β',β l=some b∧w.cell? ⟨b,i*ob.sz+off,none⟩=some u∧Core w0 St0 St β' ⟨s.n,s.env,B_ s.st l i off ob row ty sz xs⟩ a w∧RdC w St (B_ s.st l i off ob row ty sz xs) β' (.ref s.st.length) u:=by
 obtain⟨hl,hlive⟩:=Bo hob
 obtain⟨φ,f1,f2,f3⟩:=h.own
 have hll:l<s.st.length:=(aF.1 hl).1
 cases hβ:β l with
 | none =>
  have:=h.nil l ob hl hlive hβ
  grind
 | some b =>
  obtain⟨hmay,hlt,cs0,g1,g2,g3⟩:=h.obs l ob b hl hlive hβ
  have hoff:off<row.length:=(aF.1 hcell).1
  have hk0:ob.xs.flatten[i*ob.sz+off]?=some (.ow ty sz xs):=Fh g2 i off row _ hrow hcell
  obtain⟨u,hu,hr⟩:=f1 l ob b _ _ hl hlive hβ hk0 rfl
  have hu1:u.oneCell'=true:=(RdO.toB (st:=s.st) (β:=β) hr).one
  have hnew:∃ (nb:Option Nat) (G:Nat→Nat→Prop),(∀ k x,G k x→φ l (i*ob.sz+off) x∧nb≠some x)∧(∀ k k' x,G k x→G k' x→k=k')∧(nb=none→∀ k x,¬ G k x)∧(nb=none→u = .slice none 0 0∧xs = []) ∧
    ∀ b',nb=some b'→φ l (i*ob.sz+off) b'∧∃ (cap:Nat) (cs:Array Value),u = .slice (some ⟨b',0,none⟩) xs.length cap∧xs.length≤cap∧cap≤maxLen∧w.heap[b']?=some (.cells cs ty (0,0))∧cs.size=cap*sz∧(∀ x∈xs,x.length=sz) ∧
     ∀ (k:Nat) (c:Cl),xs.flatten[k]?=some c→∃ y,cs[k]?=some y∧RdO w St c y (G k):=by
   simp only[RdO] at hr
   rcases hr with ⟨e1,e2⟩ | ⟨b',cap,cs,G,e1,e2,e3,e4,e5,e6,e7,e8,e9,e10⟩
   ·exact⟨none,fun _ _=>False,fun _ _ h=>h.elim,fun _ _ _ h=>h.elim,fun _ _ _ h=>h,fun _=>⟨e1,e2⟩,(fun b' h=>APh)⟩
   ·refine⟨some b',G,fun k x hx=>⟨(e8 k x hx).1,fun e=>(e8 k x hx).2 (ry e).symm⟩,e9,(fun h=>APh),(fun h=>APh),fun b'' hb=>?_⟩
    cases hb
    exact⟨e7,cap,cs,e1,e2,e3,e4,e5,e6,fun k c hk=>by simpa using e10.at hk⟩
  obtain⟨nb,G,n1,n2,n5,n3,n4⟩:=hnew
  have hset:∀ (l':Nat),(B_ s.st l i off ob row ty sz xs)[l']?=if l'=s.st.length then some ⟨ty,sz,xs,true,true⟩ else if l'=l then some ⟨ob.ty,ob.sz,ob.xs.set i (row.set off (.ref s.st.length)),ob.wr,ob.live⟩ else s.st[l']?:=by
   intro l'
   unfold B_
   by_cases e:l'=s.st.length
   ·grind
   ·grind
  have hl2:∀ (l':Nat) (o2:Ob),(B_ s.st l i off ob row ty sz xs)[l']?=some o2→(l'=s.st.length∧o2=⟨ty,sz,xs,true,true⟩)∨(l'=l∧l'<s.st.length∧o2=⟨ob.ty,ob.sz,ob.xs.set i (row.set off (.ref s.st.length)),ob.wr,ob.live⟩)∨(l'≠l∧l'<s.st.length∧s.st[l']?=some o2):=by
   intro l' o2 h2
   rw[hset l'] at h2
   by_cases e:l'=s.st.length
   ·grind
   ·grind
  have hold:∀ (l':Nat) (o2:Ob),s.st[l']?=some o2→∃ o3,(B_ s.st l i off ob row ty sz xs)[l']?=some o3∧o3.live=o2.live∧o3.sz=o2.sz∧o3.ty=o2.ty∧o3.xs.length=o2.xs.length∧o3.wr=o2.wr:=by
   intro l' o2 h2
   have hl':l'<s.st.length:=(aF.1 h2).1
   rw[hset l']
   have e:¬ l'=s.st.length:=AOQ
   by_cases e2:l'=l
   ·grind
   ·grind
  have hr':∀ (l':Nat) (v:Value),BM w s.st β l' v→BM w (B_ s.st l i off ob row ty sz xs) (fun m=>if m=s.st.length then nb else β m) l' v:=by
   intro l' v hv
   have hd:=mr hv
   unfold BM at hv ⊢
   exact AL7
  have hp':∀ (l' i' off':Nat) (v:Value),AVR w St s.st β (.lp l' i' off') v→AVR w St (B_ s.st l i off ob row ty sz xs) (fun m=>if m=s.st.length then nb else β m) (.lp l' i' off') v:=by
   intro l' i' off' v hv
   have hd:=xZ hv
   simp only[AVR] at hv ⊢
   exact AL7
  have hBB:∀ (c:Cl) (v:Value),RdB w St s.st β c v→RdB w St (B_ s.st l i off ob row ty sz xs) (fun m=>if m=s.st.length then nb else β m) c v:=fun c v hv=>RdB.mono (fun _ _ h=>h) (fun _ _ _=>rfl) hr' c v hv
  have href:RdC w St (B_ s.st l i off ob row ty sz xs) (fun m=>if m=s.st.length then nb else β m) (.ref s.st.length) u:=by
   simp only[RdC,BM,hset s.st.length,bf]
   refine⟨hu1,fun _=>?_⟩
   cases hnb:nb with
   | none=>exact n3 hnb
   | some b' =>
    grind
  have hfree:∀ x,φ l (i*ob.sz+off) x→Ot w0 (fun _=>False) w St s.st β x:=fun x hx=>(f2 l _ x hx).2
  refine⟨b,u,_,rfl,hu, ?_,href⟩
  exact {
   defers:=h.defers
   size:=h.size
   lim:=h.lim
   env:=fun k=>AVR.mono (fun _ _ h=>h) (fun _ _ _=>rfl) hr' hp' _ _ (h.env k)
   below:=h.below,st0:=h.st0,stOld:=h.stOld,stIn:=h.stIn
   obs:=fun l' o2 b2 h2 hlv hb=>by
    rcases hl2 l' o2 h2 with ⟨rfl,rfl⟩ | ⟨rfl,hl',rfl⟩ | ⟨hne,hl',h3⟩
    ·simp only[bf] at hb
     obtain⟨q1,cap,cs,e1,e2,e3,e4,e5,e6,e7⟩:=n4 b2 hb
     have hf:=hfree b2 q1
     refine⟨hf.1,hf.2.2.1,cs,e4,e6,fun k c hk=>?_⟩
     obtain⟨y,hy,hro⟩:=e7 k c hk
     exact⟨y,hy,hro.toB⟩
    ·have e:¬ l'=s.st.length:=by omega
     simp only[e,aX] at hb
     rw[hβ] at hb
     cases hb
     refine⟨hmay,hlt,cs0,g1,fun x hx=>?_,fun k c hk=>?_⟩
     ·grind
     ·rcases t_ g2 hrow hoff k c hk with ⟨rfl,rfl⟩ | ⟨_,hk'⟩
      ·refine⟨u,by simpa [World.cell?,g1] using hu,href.toB⟩
      grind
    ·have e:¬ l'=s.st.length:=by omega
     simp only[e,aX] at hb
     obtain⟨q1,q2,cs,p1,p2,p3⟩:=h.obs l' o2 b2 h3 hlv hb
     refine⟨q1,q2,cs,p1,p2,fun k c hk=>?_⟩
     grind
   nil:=fun l' o2 h2 hlv hb=>by
    rcases hl2 l' o2 h2 with ⟨rfl,rfl⟩ | ⟨rfl,hl',rfl⟩ | ⟨hne,hl',h3⟩
    ·grind
    ·grind
    ·have e:¬ l'=s.st.length:=by omega
     simp only[e,aX] at hb
     exact h.nil l' o2 h3 hlv hb
   inj:=fun l1 l2 o1 o2 b' h1 h2 h3 h4 h5 h6=>by
    have key:∀ (m:Nat) (o:Ob),(B_ s.st l i off ob row ty sz xs)[m]?=some o→o.live=true→m≠s.st.length→∃ o',s.st[m]?=some o'∧o'.live=true:=by
     intro m o hm hlv hne
     rcases hl2 m o hm with ⟨e,_⟩ | ⟨rfl,hl',rfl⟩ | ⟨_,hl',h3⟩
     ·omega
     ·grind
     ·grind
    by_cases e1:l1=s.st.length<;>by_cases e2:l2=s.st.length
    ·omega
    ·simp only[e1,e2,bf,aX] at h5 h6
     obtain⟨o',p1,p2⟩:=key l2 o2 h2 h4 e2
     exact absurd h6 ((hfree b' (n4 b' h5).1).2.2.2.2 l2 o' p1 p2)
    ·simp only[e1,e2,bf,aX] at h5 h6
     obtain⟨o',p1,p2⟩:=key l1 o1 h1 h3 e1
     exact absurd h5 ((hfree b' (n4 b' h6).1).2.2.2.2 l1 o' p1 p2)
    ·simp only[e1,e2,aX] at h5 h6
     obtain⟨o',p1,p2⟩:=key l1 o1 h1 h3 e1
     obtain⟨o'',q1,q2⟩:=key l2 o2 h2 h4 e2
     exact h.inj l1 l2 o' o'' b' p1 q1 p2 q2 h5 h6
   sep:=fun l' o2 b2 o h2 hlv hb hbo=>by
    rcases hl2 l' o2 h2 with ⟨rfl,rfl⟩ | ⟨rfl,hl',rfl⟩ | ⟨hne,hl',h3⟩
    ·simp only[bf] at hb
     exact absurd hbo ((hfree b2 (n4 b2 hb).1).2.2.2.1 o)
    ·have e:¬ l'=s.st.length:=by omega
     simp only[e,aX] at hb
     have:=h.sep l' ob b2 o hl hlive hb hbo
     grind
    ·have e:¬ l'=s.st.length:=by omega
     simp only[e,aX] at hb
     exact h.sep l' o2 b2 o h3 hlv hb hbo
   own:=by
    refine⟨fun m k x=>(m=s.st.length∧G k x)∨(m<s.st.length∧¬ (m=l∧k=i*ob.sz+off)∧φ m k x), ?_, ?_, ?_⟩
    ·intro m o2 b2 k c h2 hlv hb hk hc
     rcases hl2 m o2 h2 with ⟨rfl,rfl⟩ | ⟨rfl,hl',rfl⟩ | ⟨hne,hl',h3⟩
     ·simp only[bf] at hb
      obtain⟨q1,cap,cs,e1,e2,e3,e4,e5,e6,e7⟩:=n4 b2 hb
      obtain⟨y,hy,hro⟩:=e7 k c hk
      exact⟨y,by simp[World.cell?,e4,hy],RdO.mono (fun _ _ h=>h) (fun _ _ _=>rfl) c y _ _ (fun x hx=>.inl ⟨rfl,hx⟩) (fun _ _=>rfl) hro⟩
     ·have e:¬ m=s.st.length:=by omega
      simp only[e,aX] at hb
      rcases t_ g2 hrow hoff k c hk with ⟨rfl,rfl⟩ | ⟨hne,hk'⟩
      ·simp[Gm] at hc
      ·obtain⟨v,hv,hro⟩:=f1 m ob b2 k c hl hlive hb hk' hc
       exact⟨v,hv,RdO.mono (fun _ _ h=>h) (fun _ _ _=>rfl) c v _ _ (fun x hx=>.inr ⟨hl',fun hh=>hne hh.2,hx⟩) (fun _ _=>rfl) hro⟩
     ·have e:¬ m=s.st.length:=by omega
      simp only[e,aX] at hb
      obtain⟨v,hv,hro⟩:=f1 m o2 b2 k c h3 hlv hb hk hc
      exact⟨v,hv,RdO.mono (fun _ _ h=>h) (fun _ _ _=>rfl) c v _ _ (fun x hx=>.inr ⟨hl',fun hh=>hne hh.1,hx⟩) (fun _ _=>rfl) hro⟩
    ·have hfr2:∀ x,Ot w0 (fun _=>False) w St s.st β x→nb≠some x→Ot w0 (fun _=>False) w St (B_ s.st l i off ob row ty sz xs) (fun m=>if m=s.st.length then nb else β m) x:=by
      intro x hx hnb
      refine⟨hx.1,fun h=>h,hx.2.2.1,hx.2.2.2.1,fun m o2 h2 hlv=>?_⟩
      rcases hl2 m o2 h2 with ⟨rfl,rfl⟩ | ⟨rfl,hl',rfl⟩ | ⟨hne,hl',h3⟩
      ·grind
      ·have e:¬ m=s.st.length:=by omega
       simp only[e,aX]
       exact hx.2.2.2.2 m ob hl hlive
      ·have e:¬ m=s.st.length:=by omega
       simp only[e,aX]
       exact hx.2.2.2.2 m o2 h3 hlv
     rintro m k x (⟨rfl,hx⟩ | ⟨hm,hne,hx⟩)
     ·obtain⟨q1,q2⟩:=n1 k x hx
      cases hnb:nb with
      | none =>
       grind
      | some b' =>
       refine⟨⟨⟨ty,sz,xs,true,true⟩,b',AOT,rfl,by simp[hnb]⟩, ?_⟩
       have:=hfr2 x (hfree x q1) q2
       rwa [hnb] at this
     grind
    grind }
end Go.Vm
