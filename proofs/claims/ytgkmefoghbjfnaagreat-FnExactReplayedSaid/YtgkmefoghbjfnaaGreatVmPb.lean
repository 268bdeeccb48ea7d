/- A part. -/
import Derived.Test.YtgkmefoghbjfnaaGreatVmPa
import Derived.Lib.AppendStr
set_option linter.unusedSimpArgs false
set_option linter.unusedVariables false
namespace Go.Vm
open Go.RowKit
variable {P:Program} {w0:Bs} {St0 St:Nat→Nat→Prop} {β:Nat→Option Nat} {s:MS} {a:Act} {w:World}
def Ff (st:List Ob) (l i off:Nat) (ob:Ob) (row:List Cl) (ty:TypeId) (sz:Nat) (xs:List (List Cl)):List Ob:=
 st.set l ⟨ob.ty,ob.sz,ob.xs.set i (row.set off (.ref st.length)),ob.wr,ob.live⟩ ++ [⟨ty,sz,xs,true,true⟩]
def Zg (P:Program) (s:MS) (T:TypeId) (x:AV):Option (AV×List Ob):=match Az P T,x with
 | some false,.lp l i off=>match BV s.st l with
  | some ob=>if ob.wr=true then match ob.xs[i]? with
   | some row=>match row[off]? with
    | some (.ow ty sz xs)=>some (.c (.ref s.st.length),Ff s.st l i off ob row ty sz xs)
    | _=>none
   | none=>none
   else none
  | none=>none
 | _,_=>none
theorem Xe {xs:List (List Cl)} {sz i off:Nat} {row:List Cl} {c:Cl} (hl:∀ x∈xs,x.length=sz) (hi:xs[i]?=some row) (ho:off<row.length) :
  ∀ (k:Nat) (d:Cl),(xs.set i (row.set off c)).flatten[k]?=some d→(k=i*sz+off∧d=c)∨(k≠i*sz+off∧xs.flatten[k]?=some d):=by
 intro k d hk
 have hrl:row.length=sz:=hl row (aT hi)
 have e:xs.set i (row.set off c)=xs.set i (row.take off++([c]++row.drop (off+1))):=by
  congr 1
  rw[List.set_eq_take_append_cons_drop,ED ho]
  rfl
 have hle:off+1≤row.length:=ho
 have hFl:xs.flatten.length=xs.length*sz:=CJ hl
 have hil:i<xs.length:=(az.1 hi).1
 have hpos:i*sz+(off+1)≤xs.flatten.length:=by
  rw[hFl]
  have:(i+1)*sz≤xs.length*sz:=mX _ hil
  rw[Pj] at this; omega
 rw[e,KC hl hi hle] at hk
 have l1:(xs.flatten.take (i*sz+off)).length=i*sz+off:=by rw[ZV]; omega
 rcases aX k (i*sz+off) with h1 | h1
 ·rw[ah (by omega),aV,ED h1] at hk
  exact .inr ⟨by omega,hk⟩
 ·rw[ak (by omega),l1] at hk
  rcases aX (k-(i*sz+off)) 1 with h2 | h2
  ·have:k=i*sz+off:=by omega
   subst this
   simp at hk
   exact .inl ⟨rfl,hk.symm⟩
  ·rw[ak (by simpa using h2),bY] at hk
   simp only[bQ,Vf] at hk
   refine .inr ⟨by omega, ?_⟩
   rwa [show i*sz+(off+1)+(k-(i*sz+off)-(0+1))=k by omega] at hk
theorem Core.openCell (h:Core w0 St0 St β s a w) {l i off:Nat} {ob:Ob} {row:List Cl} {ty:TypeId} {sz:Nat} {xs:List (List Cl)} (hob:BV s.st l=some ob) (hwr:ob.wr=true) (hrow:ob.xs[i]?=some row) (hcell:row[off]?=some (.ow ty sz xs)) :
  ∃ b u β',β l=some b∧w.cell? ⟨b,i*ob.sz+off,none⟩=some u∧Core w0 St0 St β' ⟨s.n,s.env,Ff s.st l i off ob row ty sz xs⟩ a w∧RdC w St (Ff s.st l i off ob row ty sz xs) β' (.ref s.st.length) u:=by
 obtain⟨hl,hlive⟩:=Ag hob
 obtain⟨φ,f1,f2,f3⟩:=h.own
 have hll:l<s.st.length:=(az.1 hl).1
 cases hβ:β l with
 | none =>
  have:=h.nil l ob hl hlive hβ
  rw[this] at hrow
  simp at hrow
 | some b =>
  obtain⟨hmay,hlt,cs0,g1,g2,g3⟩:=h.obs l ob b hl hlive hβ
  have hoff:off<row.length:=(az.1 hcell).1
  have hk0:ob.xs.flatten[i*ob.sz+off]?=some (.ow ty sz xs):=Dz g2 i off row _ hrow hcell
  obtain⟨u,hu,hr⟩:=f1 l ob b _ _ hl hlive hβ hk0 rfl
  have hu1:u.oneCell'=true:=(RdO.toB (st:=s.st) (β:=β) hr).one
  have hnew:∃ (nb:Option Nat) (G:Nat→Nat→Prop),(∀ k x,G k x→φ l (i*ob.sz+off) x∧nb≠some x)∧(∀ k k' x,G k x→G k' x→k=k')∧(nb=none→∀ k x,¬ G k x)∧(nb=none→u = .slice none 0 0∧xs = []) ∧
    ∀ b',nb=some b'→φ l (i*ob.sz+off) b'∧∃ (cap:Nat) (cs:Array Value),u = .slice (some ⟨b',0,none⟩) xs.length cap∧xs.length≤cap∧cap≤maxLen∧w.heap[b']?=some (.cells cs ty (0,0))∧cs.size=cap*sz∧(∀ x∈xs,x.length=sz) ∧
     ∀ (k:Nat) (c:Cl),xs.flatten[k]?=some c→∃ y,cs[k]?=some y∧RdO w St c y (G k):=by
   simp only[RdO] at hr
   rcases hr with ⟨e1,e2⟩ | ⟨b',cap,cs,G,e1,e2,e3,e4,e5,e6,e7,e8,e9,e10⟩
   ·exact⟨none,fun _ _=>False,fun _ _ h=>h.elim,fun _ _ _ h=>h.elim,fun _ _ _ h=>h,fun _=>⟨e1,e2⟩,(fun b' h=>by cases h)⟩
   ·refine⟨some b',G,fun k x hx=>⟨(e8 k x hx).1,fun e=>(e8 k x hx).2 (di e).symm⟩,e9,(fun h=>by cases h),(fun h=>by cases h),fun b'' hb=>?_⟩
    cases hb
    exact⟨e7,cap,cs,e1,e2,e3,e4,e5,e6,fun k c hk=>by simpa using e10.at hk⟩
  obtain⟨nb,G,n1,n2,n5,n3,n4⟩:=hnew
  have hset:∀ (l':Nat),(Ff s.st l i off ob row ty sz xs)[l']?=if l'=s.st.length then some ⟨ty,sz,xs,true,true⟩ else if l'=l then some ⟨ob.ty,ob.sz,ob.xs.set i (row.set off (.ref s.st.length)),ob.wr,ob.live⟩ else s.st[l']?:=by
   intro l'
   unfold Ff
   by_cases e:l'=s.st.length
   ·subst e
    rw[ak (by simp)]
    simp
   ·simp only[e,aK]
    rcases aX l' s.st.length with h1 | h1
    ·rw[ah (by simpa using h1),bK]
     by_cases e2:l=l'
     ·subst e2; simp[h1]
     ·have e3:¬ l'=l:=fun h=>e2 h.symm
      simp[e2,e3]
    ·rw[ak (by simpa using h1)]
     have e3:¬ l'=l:=by omega
     simp only[e3,aK,bu]
     rw[df (by simp; omega),df h1]
  have hl2:∀ (l':Nat) (o2:Ob),(Ff s.st l i off ob row ty sz xs)[l']?=some o2→(l'=s.st.length∧o2=⟨ty,sz,xs,true,true⟩)∨(l'=l∧l'<s.st.length∧o2=⟨ob.ty,ob.sz,ob.xs.set i (row.set off (.ref s.st.length)),ob.wr,ob.live⟩)∨(l'≠l∧l'<s.st.length∧s.st[l']?=some o2):=by
   intro l' o2 h2
   rw[hset l'] at h2
   by_cases e:l'=s.st.length
   ·simp only[e,bC,ag] at h2; exact .inl ⟨e,h2.symm⟩
   ·by_cases e2:l'=l
    ·subst e2
     simp only[e,aK,bC,ag] at h2; exact .inr (.inl ⟨rfl,by omega,h2.symm⟩)
    ·simp only[e,aK,e2] at h2; exact .inr (.inr ⟨e2,(az.1 h2).1,h2⟩)
  have hold:∀ (l':Nat) (o2:Ob),s.st[l']?=some o2→∃ o3,(Ff s.st l i off ob row ty sz xs)[l']?=some o3∧o3.live=o2.live∧o3.sz=o2.sz∧o3.ty=o2.ty∧o3.xs.length=o2.xs.length∧o3.wr=o2.wr:=by
   intro l' o2 h2
   have hl':l'<s.st.length:=(az.1 h2).1
   rw[hset l']
   have e:¬ l'=s.st.length:=by omega
   by_cases e2:l'=l
   ·subst e2
    rw[hl] at h2; cases h2
    exact⟨⟨ob.ty,ob.sz,ob.xs.set i (row.set off (.ref s.st.length)),ob.wr,ob.live⟩,by simp only[e,aK,bC],rfl,rfl,rfl,by simp,rfl⟩
   ·exact⟨o2,by simp only[e,aK,e2]; exact h2,rfl,rfl,rfl,rfl,rfl⟩
  have hr':∀ (l':Nat) (v:Value),Aq w s.st β l' v→Aq w (Ff s.st l i off ob row ty sz xs) (fun m=>if m=s.st.length then nb else β m) l' v:=by
   intro l' v hv
   have hd:=VE hv
   unfold Aq at hv ⊢
   cases hq:s.st[l']? with
   | none=>simp[hq] at hv
   | some o2 =>
    obtain⟨o3,p1,p2,p3,p4,p5,_⟩:=hold l' o2 hq
    simp only[hq] at hv
    simp only[p1]
    have e:¬ l'=s.st.length:=by omega
    refine⟨hv.1,fun hlv=>?_⟩
    have h2:=hv.2 (by rw[← p2]; exact hlv)
    simp only[e,aK]
    cases hb:β l' with
    | none =>
     simp only[hb] at h2 ⊢
     refine⟨h2.1,bz (by rw[p5,h2.2]; rfl)⟩
    | some b2=>simp only[hb] at h2 ⊢; simpa only[p3,p4,p5] using h2
  have hp':∀ (l' i' off':Nat) (v:Value),AVR w St s.st β (.lp l' i' off') v→AVR w St (Ff s.st l i off ob row ty sz xs) (fun m=>if m=s.st.length then nb else β m) (.lp l' i' off') v:=by
   intro l' i' off' v hv
   have hd:=Yp hv
   simp only[AVR] at hv ⊢
   cases hq:s.st[l']? with
   | none=>simp[hq] at hv
   | some o2 =>
    obtain⟨o3,p1,p2,p3,_⟩:=hold l' o2 hq
    simp only[hq] at hv
    have e:¬ l'=s.st.length:=by omega
    simp only[p1,p2,p3,e,aK]
    exact hv
  have hBB:∀ (c:Cl) (v:Value),RdB w St s.st β c v→RdB w St (Ff s.st l i off ob row ty sz xs) (fun m=>if m=s.st.length then nb else β m) c v:=fun c v hv=>RdB.mono (fun _ _ h=>h) (fun _ _ _=>rfl) hr' c v hv
  have href:RdC w St (Ff s.st l i off ob row ty sz xs) (fun m=>if m=s.st.length then nb else β m) (.ref s.st.length) u:=by
   simp only[RdC,Aq,hset s.st.length,bC]
   refine⟨hu1,fun _=>?_⟩
   cases hnb:nb with
   | none=>exact n3 hnb
   | some b' =>
    obtain⟨_,cap,cs,e1,e2,e3,e4,e5,_⟩:=n4 b' hnb
    exact⟨cap,cs,e1,e2,e3,e4,e5⟩
  have hfree:∀ x,φ l (i*ob.sz+off) x→I7 w0 (fun _=>False) w St s.st β x:=fun x hx=>(f2 l _ x hx).2
  refine⟨b,u,_,rfl,hu, ?_,href⟩
  exact {
   defers:=h.defers
   size:=h.size
   env:=fun k=>AVR.mono (fun _ _ h=>h) (fun _ _ _=>rfl) hr' hp' _ _ (h.env k)
   below:=h.below,st0:=h.st0,stOld:=h.stOld,stIn:=h.stIn
   obs:=fun l' o2 b2 h2 hlv hb=>by
    rcases hl2 l' o2 h2 with ⟨rfl,rfl⟩ | ⟨rfl,hl',rfl⟩ | ⟨hne,hl',h3⟩
    ·simp only[bC] at hb
     obtain⟨q1,cap,cs,e1,e2,e3,e4,e5,e6,e7⟩:=n4 b2 hb
     have hf:=hfree b2 q1
     refine⟨hf.1,hf.2.2.1,cs,e4,e6,fun k c hk=>?_⟩
     obtain⟨y,hy,hro⟩:=e7 k c hk
     exact⟨y,hy,hro.toB⟩
    ·have e:¬ l'=s.st.length:=by omega
     simp only[e,aK] at hb
     rw[hβ] at hb
     cases hb
     refine⟨hmay,hlt,cs0,g1,fun x hx=>?_,fun k c hk=>?_⟩
     ·rcases xJ hx with h' | h'
      ·exact g2 x h'
      ·rw[h',bu]; exact g2 row (aT hrow)
     ·rcases Xe g2 hrow hoff k c hk with ⟨rfl,rfl⟩ | ⟨_,hk'⟩
      ·refine⟨u,by simpa [World.cell?,g1] using hu,href.toB⟩
      ·obtain⟨v,hv,hrv⟩:=g3 k c hk'
       exact⟨v,hv,hBB c v hrv⟩
    ·have e:¬ l'=s.st.length:=by omega
     simp only[e,aK] at hb
     obtain⟨q1,q2,cs,p1,p2,p3⟩:=h.obs l' o2 b2 h3 hlv hb
     refine⟨q1,q2,cs,p1,p2,fun k c hk=>?_⟩
     obtain⟨v,hv,hrv⟩:=p3 k c hk
     exact⟨v,hv,hBB c v hrv⟩
   nil:=fun l' o2 h2 hlv hb=>by
    rcases hl2 l' o2 h2 with ⟨rfl,rfl⟩ | ⟨rfl,hl',rfl⟩ | ⟨hne,hl',h3⟩
    ·simp only[bC] at hb; exact(n3 hb).2
    ·have e:¬ l'=s.st.length:=by omega
     simp only[e,aK] at hb
     rw[hβ] at hb; cases hb
    ·have e:¬ l'=s.st.length:=by omega
     simp only[e,aK] at hb
     exact h.nil l' o2 h3 hlv hb
   inj:=fun l1 l2 o1 o2 b' h1 h2 h3 h4 h5 h6=>by
    have key:∀ (m:Nat) (o:Ob),(Ff s.st l i off ob row ty sz xs)[m]?=some o→o.live=true→m≠s.st.length→∃ o',s.st[m]?=some o'∧o'.live=true:=by
     intro m o hm hlv hne
     rcases hl2 m o hm with ⟨e,_⟩ | ⟨rfl,hl',rfl⟩ | ⟨_,hl',h3⟩
     ·exact absurd e hne
     ·exact⟨ob,hl,hlive⟩
     ·exact⟨o,h3,hlv⟩
    by_cases e1:l1=s.st.length<;>by_cases e2:l2=s.st.length
    ·omega
    ·simp only[e1,e2,bC,aK] at h5 h6
     obtain⟨o',p1,p2⟩:=key l2 o2 h2 h4 e2
     exact absurd h6 ((hfree b' (n4 b' h5).1).2.2.2.2 l2 o' p1 p2)
    ·simp only[e1,e2,bC,aK] at h5 h6
     obtain⟨o',p1,p2⟩:=key l1 o1 h1 h3 e1
     exact absurd h5 ((hfree b' (n4 b' h6).1).2.2.2.2 l1 o' p1 p2)
    ·simp only[e1,e2,aK] at h5 h6
     obtain⟨o',p1,p2⟩:=key l1 o1 h1 h3 e1
     obtain⟨o'',q1,q2⟩:=key l2 o2 h2 h4 e2
     exact h.inj l1 l2 o' o'' b' p1 q1 p2 q2 h5 h6
   sep:=fun l' o2 b2 o h2 hlv hb hbo=>by
    rcases hl2 l' o2 h2 with ⟨rfl,rfl⟩ | ⟨rfl,hl',rfl⟩ | ⟨hne,hl',h3⟩
    ·simp only[bC] at hb
     exact absurd hbo ((hfree b2 (n4 b2 hb).1).2.2.2.1 o)
    ·have e:¬ l'=s.st.length:=by omega
     simp only[e,aK] at hb
     have:=h.sep l' ob b2 o hl hlive hb hbo
     simpa using this
    ·have e:¬ l'=s.st.length:=by omega
     simp only[e,aK] at hb
     exact h.sep l' o2 b2 o h3 hlv hb hbo
   own:=by
    refine⟨fun m k x=>(m=s.st.length∧G k x)∨(m<s.st.length∧¬ (m=l∧k=i*ob.sz+off)∧φ m k x), ?_, ?_, ?_⟩
    ·intro m o2 b2 k c h2 hlv hb hk hc
     rcases hl2 m o2 h2 with ⟨rfl,rfl⟩ | ⟨rfl,hl',rfl⟩ | ⟨hne,hl',h3⟩
     ·simp only[bC] at hb
      obtain⟨q1,cap,cs,e1,e2,e3,e4,e5,e6,e7⟩:=n4 b2 hb
      obtain⟨y,hy,hro⟩:=e7 k c hk
      exact⟨y,by simp[World.cell?,e4,hy],RdO.mono (fun _ _ h=>h) (fun _ _ _=>rfl) c y _ _ (fun x hx=>.inl ⟨rfl,hx⟩) (fun _ _=>rfl) hro⟩
     ·have e:¬ m=s.st.length:=by omega
      simp only[e,aK] at hb
      rcases Xe g2 hrow hoff k c hk with ⟨rfl,rfl⟩ | ⟨hne,hk'⟩
      ·simp[Dj] at hc
      ·obtain⟨v,hv,hro⟩:=f1 m ob b2 k c hl hlive hb hk' hc
       exact⟨v,hv,RdO.mono (fun _ _ h=>h) (fun _ _ _=>rfl) c v _ _ (fun x hx=>.inr ⟨hl',fun hh=>hne hh.2,hx⟩) (fun _ _=>rfl) hro⟩
     ·have e:¬ m=s.st.length:=by omega
      simp only[e,aK] at hb
      obtain⟨v,hv,hro⟩:=f1 m o2 b2 k c h3 hlv hb hk hc
      exact⟨v,hv,RdO.mono (fun _ _ h=>h) (fun _ _ _=>rfl) c v _ _ (fun x hx=>.inr ⟨hl',fun hh=>hne hh.1,hx⟩) (fun _ _=>rfl) hro⟩
    ·have hfr2:∀ x,I7 w0 (fun _=>False) w St s.st β x→nb≠some x→I7 w0 (fun _=>False) w St (Ff s.st l i off ob row ty sz xs) (fun m=>if m=s.st.length then nb else β m) x:=by
      intro x hx hnb
      refine⟨hx.1,fun h=>h,hx.2.2.1,hx.2.2.2.1,fun m o2 h2 hlv=>?_⟩
      rcases hl2 m o2 h2 with ⟨rfl,rfl⟩ | ⟨rfl,hl',rfl⟩ | ⟨hne,hl',h3⟩
      ·simp only[bC]; exact hnb
      ·have e:¬ m=s.st.length:=by omega
       simp only[e,aK]
       exact hx.2.2.2.2 m ob hl hlive
      ·have e:¬ m=s.st.length:=by omega
       simp only[e,aK]
       exact hx.2.2.2.2 m o2 h3 hlv
     rintro m k x (⟨rfl,hx⟩ | ⟨hm,hne,hx⟩)
     ·obtain⟨q1,q2⟩:=n1 k x hx
      cases hnb:nb with
      | none =>
       exact absurd hx (n5 hnb k x)
      | some b' =>
       refine⟨⟨⟨ty,sz,xs,true,true⟩,b',by rw[hset]; simp,rfl,by simp[hnb]⟩, ?_⟩
       have:=hfr2 x (hfree x q1) q2
       rwa [hnb] at this
     ·obtain⟨⟨o2,b2,p1,p2,p3⟩,q⟩:=f2 m k x hx
      obtain⟨o3,s1,s2,_⟩:=hold m o2 p1
      have e:¬ m=s.st.length:=by omega
      refine⟨⟨o3,b2,s1,by rw[s2]; exact p2,by simp only[e,aK]; exact p3⟩,hfr2 x q fun hnb=>?_⟩
      have:=f3 m l k _ x hx (n4 x hnb).1
      exact hne this
    ·rintro m m' k k' x (⟨rfl,hx⟩ | ⟨hm,hne,hx⟩) (⟨rfl,hx'⟩ | ⟨hm',hne',hx'⟩)
     ·exact⟨rfl,n2 k k' x hx hx'⟩
     ·exact absurd (f3 m' l k' _ x hx' (n1 k x hx).1) hne'
     ·exact absurd (f3 m l k _ x hx (n1 k' x hx').1) hne
     ·exact f3 m m' k k' x hx hx' }
open Go.Lib
theorem VO {P:Program} (w:World) (t u ty e:TypeId) (i:TypeInfo) (ht:P.underlying t=some (.slice e)) (hu:P.underlying u=some .string) (hi:P.info? e=some i) {n:Nat} (hsz:i.size=n) (hn:n=1)
  (g sLen sCap:Nat) (cur:Array Value) (hg:w.heap[g]?=some (.cells cur e (0,0))) (s:ByteArray) (m:Nat) (hm:m=s.size) (hroom:sLen+m≤sCap) (hfit:sLen*n+(strCells s).length≤cur.size) :
  (Builtin.append_ #[t,u] ty #[.slice (some ⟨g,0,none⟩) sLen sCap,.string s]).run P w =
   .ok (.slice (some ⟨g,0,none⟩) (sLen+m) sCap) (w.setRow g (cur.toList.take (sLen*n)++strCells s++cur.toList.drop (sLen*n+(strCells s).length)).toArray):=by
 subst hn; subst hm
 rw[strCells_length,Nat.mul_one] at hfit ⊢
 exact run_append_room_string (P:=P) w t u ty e i ht hu hi hsz g sLen sCap cur hg s hroom hfit
theorem VP {P:Program} (w:World) (t u ty e:TypeId) (i:TypeInfo) (z:Value) (ht:P.underlying t=some (.slice e)) (hu:P.underlying u=some .string) (hi:P.info? e=some i) (hz:i.zero=some z)
  (b:Addr) (sLen sCap:Nat) (olds:List Value) (hlo:olds.length=sLen*i.size) (holds:∀ j v,olds[j]?=some v→w.cell? (b.add j)=some v) (s:ByteArray) (m:Nat) (hm:m=s.size)
  (hg:sCap<sLen+m) (h63:((sLen+m:Nat):Int)≤9223372036854775807) (hfit:Builtin.nextslicecap (sLen+m) sCap*i.bytes≤281474976710656) :
  (Builtin.append_ #[t,u] ty #[.slice (some b) sLen sCap,.string s]).run P w =
   .ok (.slice (some ⟨w.heap.size,0,none⟩) (sLen+m) (grownCap w (sLen+m) sCap e))
    (w.drew.alloc (.cells (olds.toArray++(strCells s).toArray++Builtin.zeroCells z.cells (grownCap w (sLen+m) sCap e-(sLen+m))) e)):=by
 subst hm
 exact run_append_grow_string (P:=P) w t u ty e i z ht hu hi hz b sLen sCap olds hlo holds s hg h63 hfit
def LD (b:ByteArray):List (List Cl):=b.data.toList.map fun x=>[.v (.int .u8 x.toNat)]
theorem Xf (b:ByteArray):(LD b).length=b.size:=by simp only[LD,ae]; rfl
theorem VQ (b:ByteArray):(LD b).flatten=b.data.toList.map fun x=>.v (.int .u8 x.toNat):=by
 unfold LD
 induction b.data.toList with
 | nil=>rfl
 | cons x l ih=>simp only[U9,bM,ih]; rfl
def Yw (P:Program) (s:MS) (T T':TypeId) (x y:AV):Option (AV×List Ob):=match CE P T,P.underlying T' with
 | some e,some .string=>match AQ P e,NC P e,DC P e with
  | some n,some zs,some by'=>if(zs.length=n∧n=1)∧by'≤65536 then match x,y with
    | .c (.ref l),.c (.v (.string b))=>match BV s.st l with
     | some ob=>if ob.ty=e∧ob.sz=n∧0<ob.xs.length∧ob.xs.length+b.size≤2147483648 then some (.c (.ref s.st.length),AY s.st l ++ [⟨e,n,ob.xs++LD b,ob.wr,true⟩]) else none
     | none=>none
    | _,_=>none
   else none
  | _,_,_=>none
 | _,_=>none
theorem nV (h:Core w0 St0 St β s a w) (o:Oper) (T T':TypeId) (c:Call) (x y:Operand) (ho:o.op = .call c) (hcl:c.callee = .builtin .append) (hca:c.args.toList = [x,y]) (hct:c.argTypes.toList = [T,T']) (hc:Af x=true) (hc2:Af y=true)
  {z:AV} {st':List Ob} (hy:Yw P s T T' (Cf s x) (Cf s y)=some (z,st')):Does P a w w0 St0 s o z st':=by
 have hx:=BJ h x hc
 have hyy:=BJ h y hc2
 have ha1:c.argTypes = #[T,T']:=by have:=congrArg List.toArray hct; simpa using this
 have ha2:c.args = #[x,y]:=by have:=congrArg List.toArray hca; simpa using this
 have hexec:∀ v w',(Builtin.append_ #[T,T'] o.type #[a.eval x,a.eval y]).run P w = .ok v w'→(execOp a.eval o).run P w = .ok (.value v) w':=by
  intro v w' hr
  simp[execOp,ho,resolve,hcl,ha1,ha2,invoke,builtin,hr]
 unfold Yw at hy
 split at hy
 ·rename_i e hte hu
  have ht:=Hg hte
  split at hy
  ·rename_i n cs0 by' hs hz0 hb
   obtain⟨zs,hz,_,rfl⟩:=J_ hz0
   split at hy
   ·rename_i hcond
    obtain⟨⟨hzl0,hn1⟩,hby⟩:=hcond
    have hn:0<n:=by omega
    have hzl:zs.length=n:=by simpa using hzl0
    split at hy
    ·rename_i l bs hevx hevy
     rw[hevy] at hyy
     obtain⟨hvy,_⟩:=I8 hyy
     have hxx:AVR w St s.st β (Cf s x) (a.eval x):=hx
     generalize hysd:LD bs=ys at hy
     generalize hnews:strCells bs=news
     have hys:ys.length=bs.size:=by rw[← hysd]; exact Xf bs
     have hyfl0:ys.flatten=bs.data.toList.map fun x=>.v (.int .u8 x.toNat):=by rw[← hysd]; exact VQ bs
     have hyl:∀ r∈ys,r.length=n:=fun r hr=>by
      rw[← hysd] at hr
      obtain⟨x,_,rfl⟩:=cO.1 hr
      simp[hn1]
     have hysno:∀ (k:Nat) (c:Cl),ys.flatten[k]?=some c→Dj c=false:=fun k c hk=>by
      rw[hyfl0,cZ,cu] at hk
      obtain⟨x,_,rfl⟩:=hk
      rfl
     have hyfl:ys.flatten.length=ys.length*n:=CJ hyl
     have n1:news.length=ys.length*n:=by rw[← hnews,strCells_length,hys,hn1,Nat.mul_one]
     have n3:∀ (k:Nat) (c:Cl),ys.flatten[k]?=some c→∃ u,news[k]?=some u∧RdC w St s.st β c u:=fun k c hk=>by
      rw[hyfl0,cZ,cu] at hk
      obtain⟨x,hx,rfl⟩:=hk
      refine⟨.int .u8 x.toNat,by rw[← hnews,strCells,cZ,hx]; rfl, ?_⟩
      simp only[RdC,RdD,lH]
      have:=x.toNat_lt
      simp only[Kz,Lit.wf,aI,dm]
      simp[IntKind.min,IntKind.max,IntKind.bits,IntKind.signed]
      omega
     have n4:∀ u∈news,u.oneCell'=true:=by rw[← hnews]; exact strCells_oneCell bs
     have htab:∃ i z',P.info? e=some i∧i.zero=some z'∧i.size=n∧i.bytes=by'∧z'.cells.size=n:=by
      unfold AQ at hs; unfold J9 at hz; unfold DC at hb
      cases hi:P.info? e with
      | none=>simp[hi] at hs
      | some i =>
       cases hiz:i.zero with
       | none=>simp[hi,hiz] at hz
       | some z' =>
        simp[hi] at hs hb
        simp[hi,hiz] at hz
        exact⟨i,z',rfl,hiz,hs,hb,by rw[← hzl,← hz]; simp⟩
     obtain⟨i,z',hi,hiz,hsz,hbs,hzs⟩:=htab
     split at hy
     ·rename_i ob hob
      split at hy
      ·rename_i hoc
       obtain⟨hty,hosz,hxpos,hle⟩:=hoc
       rw[← hys] at hle
       simp only[ag,bH] at hy
       obtain⟨rfl,rfl⟩:=hy
       rw[hevx] at hxx
       obtain⟨hl,hlive⟩:=Ag hob
       simp only[AVR,RdC,Aq,hl] at hxx
       have hx2:=hxx.2 hlive
       obtain⟨k1,k2⟩:=h.kill l
       have hkr:∀ c u,RdC w St s.st β c u→RdC w St (AY s.st l) β c u:=fun c u hc=>by
        have:=k2 (.c c) u (by simpa only[AVR] using hc)
        simpa only[AVR] using this
       have hkrB:∀ c u,RdB w St s.st β c u→RdB w St (AY s.st l) β c u:=fun c u hc=>by
        cases c with
        | ow ty sz xs=>exact hc
        | v y=>exact hkr (.v y) u hc
        | sl y=>exact hkr (.sl y) u hc
        | ref y=>exact hkr (.ref y) u hc
       have hll:l<s.st.length:=(az.1 hl).1
       have hkl:=Ee s.st l
       cases hβ:β l with
       | none =>
        simp only[hβ] at hx2
        obtain⟨_,hobx⟩:=hx2
        rw[hobx] at hxpos
        simp at hxpos
       | some b0 =>
        simp only[hβ] at hx2
        obtain⟨cap,cs,hvx,c1,c2,c3,c4⟩:=hx2
        obtain⟨p1,p2,cs',p3,p4,p5⟩:=h.obs l ob b0 hl hlive hβ
        rw[c3] at p3
        simp only[ag,Obj.cells.injEq,ZX] at p3
        subst p3
        have hfree:∀ l' o2,(AY s.st l)[l']?=some o2→o2.live=true→β l'≠some b0:=fun l' o2 h2 hl2 hb2=>by
         obtain⟨o3,r1,r2,r3⟩:=DN h2
         by_cases e2:l=l'
         ·rw[r2 e2] at hl2; simp at hl2
         ·have:=r3 e2
          subst this
          exact e2 (h.inj l l' ob o2 b0 hl r1 hlive hl2 hβ hb2)
        have hkeep:∀ o,St b0 o→ob.wr=false∧o<ob.xs.length*ob.sz:=fun o hbo=>h.sep l ob b0 o hl hlive hβ hbo
        have hxfl:ob.xs.flatten.length=ob.xs.length*n:=by rw[CJ p4,hosz]
        have hlall:∀ r∈ob.xs++ys,r.length=n:=fun r hr=>by
         rcases U8.1 hr with h1 | h1
         ·rw[p4 r h1,hosz]
         ·exact hyl r h1
        have hcap:cs.size=cap*n:=by rw[c4,hosz]
        have hFC:ob.xs.flatten.length≤cs.toList.length:=G9 (R:=fun c u=>RdB w St s.st β c u) (fun k c hk=>by simpa using p5 k c hk)
        have holdl:(cs.toList.take (ob.xs.length*n)).length=ob.xs.length*n:=by
         rw[ZV,Nat.min_eq_left (by omega)]
        have hold:∀ (k:Nat) (c:Cl),ob.xs.flatten[k]?=some c→∃ u,(cs.toList.take (ob.xs.length*n))[k]?=some u∧RdB w St s.st β c u:=fun k c hk=>by
         obtain⟨u,u1,u2⟩:=p5 k c hk
         have hk':k<ob.xs.length*n:=by rw[← hxfl]; exact(az.1 hk).1
         exact⟨u,by rw[aV,ED hk']; simpa using u1,u2⟩
        have hboth:∀ (k:Nat) (c:Cl),(ob.xs++ys).flatten[k]?=some c→∃ u,(cs.toList.take (ob.xs.length*n)++news)[k]?=some u∧RdB w St (AY s.st l) β c u:=fun k c hk=>by
         rw[sW] at hk
         rcases aX k (ob.xs.length*n) with h' | h'
         ·rw[ah (by omega)] at hk ⊢
          obtain⟨u,u1,u2⟩:=hold k c hk
          exact⟨u,u1,hkrB _ _ u2⟩
         ·rw[ak (by omega),hxfl] at hk
          rw[ak (by omega),holdl]
          obtain⟨u,u1,u2⟩:=n3 _ c hk
          exact⟨u,u1,(hkr _ _ u2).toB⟩
        by_cases hroom:ob.xs.length+ys.length≤cap
        ·
         have hcsl:cs.toList.length=cs.size:=by simp
         have hcapm:(ob.xs.length+ys.length)*n≤cap*n:=mX _ hroom
         have hfit:ob.xs.length*i.size+news.length≤cs.size:=by rw[hsz,n1,hcap,← Pj]; exact hcapm
         have hr:=VO (P:=P) w T T' o.type e i ht hu hi hsz hn1 b0 ob.xs.length cap cs (by rw[← hty]; exact c3) bs ys.length hys hroom (by rw[hnews,← hsz]; exact hfit)
         rw[← hvx,← hvy,hnews] at hr
         rw[hsz] at hfit
         generalize hcs':(cs.toList.take (ob.xs.length*n)++news++cs.toList.drop (ob.xs.length*n+news.length)).toArray=C' at hr
         have hC's:C'.size=cs.size:=by
          rw[← hcs']
          simp only[jV,aO,mZ,holdl]
          omega
         have hC'at:∀ k,k<ob.xs.length*n+news.length→C'[k]?=(cs.toList.take (ob.xs.length*n)++news)[k]?:=fun k hk=>by
          rw[← hcs']
          simp only[dh]
          rw[ah (by simp only[aO,holdl]; exact hk)]
         have hturn:=k1.turn (b:=b0) p1 (Xd h hl hlive hβ) hfree c3 (cs':=C') (fun o hbo=>by
          have ho:=(hkeep o hbo).2
          rw[hosz] at ho
          rw[hC'at o (by omega),ah (by omega),aV,ED ho]
          simp) hC's
         have hcell:∀ b' o,St b' o→(w.setRow b0 C').cell? ⟨b',o,none⟩=w.cell? ⟨b',o,none⟩:=fun b' o hbo=>by
          by_cases e2:b'=b0
          ·subst e2
           have ho:=(hkeep o hbo).2
           rw[hosz] at ho
           rw[World.cell?,World.cell?,setRow_heap w b' cs C' ob.ty (0,0) c3,c3]
           simp only[aj,aN,aK]
           rw[hC'at o (by omega),ah (by omega),aV,ED ho]
           simp
          ·exact cell_of_block (setRow_other w b0 b' C' e2)
         have hrr:∀ l' u,Aq w (AY s.st l) β l' u→Aq (w.setRow b0 C') (AY s.st l) β l' u:=by
          intro l' u hu
          unfold Aq at hu ⊢
          cases hq:(AY s.st l)[l']? with
          | none=>simp[hq] at hu
          | some o2 =>
           simp only[hq] at hu ⊢
           refine⟨hu.1,fun hl2=>?_⟩
           have h2:=hu.2 hl2
           cases hb2:β l' with
           | none=>simpa [hb2] using h2
           | some b2 =>
            simp only[hb2] at h2 ⊢
            have hne2:b2≠b0:=fun e2=>hfree l' o2 hq hl2 (by rw[hb2,e2])
            rw[setRow_other w b0 b2 C' hne2]; exact h2
         obtain⟨a1,a2,a3⟩:=hturn.addObB ⟨e,n,ob.xs++ys,ob.wr,true⟩ (some b0) (by simp) (fun b' hb=>by
          simp only[ag] at hb
          subst hb
          refine⟨p1,by simpa [World.setRow] using p2,hfree,fun o hbo=>?_,C',by rw[setRow_heap w b0 cs C' ob.ty (0,0) c3,hty],hlall,fun k c hk=>?_⟩
          ·have:=hkeep o hbo
           rw[hosz] at this
           refine⟨this.1, ?_⟩
           simp only[aO,Pj]
           omega
          ·obtain⟨u,u1,u2⟩:=hboth k c hk
           have hk':k<ob.xs.length*n+news.length:=by
            have:=(az.1 u1).1
            simpa only[aO,holdl] using this
           exact⟨u,by rw[hC'at k hk']; exact u1,RdB.mono (fun _ _ h=>h) hcell hrr _ _ u2⟩) (by
          refine OC h hl hlive hβ (ys:=ys) rfl hysno (fun x hx=>?_) (by simp[World.setRow]) hcell (fun l2 o2 b2 h1 h2 h3 h4=>?_) (fun k hk=>?_)
          ·have hxb:x≠b0:=fun e2=>hx.2.2.2.2 l ob hl hlive (by rw[hβ,e2])
           exact⟨hxb,setRow_other w b0 x C' hxb⟩
          ·exact setRow_other w b0 b2 C' fun e2=>h4 (h.inj l l2 ob o2 b0 hl h1 hlive h2 hβ (by rw[h3,e2]))
          ·have hk':k<ob.xs.length*n:=by rw[← hxfl]; exact hk
           rw[World.cell?,World.cell?,setRow_heap w b0 cs C' ob.ty (0,0) c3,c3]
           simp only[aj,aN,aK]
           rw[hC'at k (by omega),ah (by omega),aV,ED hk']
           simp)
         refine⟨_,_,_,St,_,hexec _ _ hr,.inl rfl,a1, ?_⟩
         rw[← hkl]
         exact IA (b:=some b0) rfl (by simp) fun _=>⟨cap,C',by simp,by simpa using hroom,c2,by rw[setRow_heap w b0 cs C' ob.ty (0,0) c3,hty],by rw[hC's,hcap]⟩
        ·
         have holds:∀ (j:Nat) (v:Value),(cs.toList.take (ob.xs.length*n))[j]?=some v→w.cell? ((⟨b0,0,none⟩:Addr).add j)=some v:=fun j v hj=>by
          rw[aV] at hj
          split at hj
          ·rw[addr_add,World.cell?,c3]
           simp only[aj,aN,aK,Yl]
           simpa using hj
          ·cases hj
         have hr:=VP (P:=P) w T T' o.type e i z' ht hu hi hiz ⟨b0,0,none⟩ ob.xs.length cap (cs.toList.take (ob.xs.length*n)) (by rw[hsz]; exact holdl) holds bs ys.length hys (by omega) (by omega) (by
          exact growslice_fits (by omega) (by rw[hbs]; exact I9 (.inl hle) hby (aQ _)))
         rw[← hvx,← hvy,hnews] at hr
         have hge:=grownCap_ge w (ob.xs.length+ys.length) cap e
         obtain⟨β',g1,g2⟩:=OD k1 e n (ob.xs++ys) ob.wr (cs.toList.take (ob.xs.length*n)++news) (Builtin.zeroCells z'.cells (grownCap w (ob.xs.length+ys.length) cap e-(ob.xs.length+ys.length))) (grownCap w (ob.xs.length+ys.length) cap e) hlall (by
          simp only[aO,holdl,n1,Pj]) hboth (by simpa using hge) (grownCap_le_maxLen w _ cap e (by simp only[maxLen]; omega)) (by rw[size_zeroCells,hzs]; simp) (by
          have hbd:=DK w (.cells ((cs.toList.take (ob.xs.length*n)++news).toArray++Builtin.zeroCells z'.cells (grownCap w (ob.xs.length+ys.length) cap e-(ob.xs.length+ys.length))) e)
          refine OC h hl hlive hβ (ys:=ys) rfl hysno (fun x hx=>⟨fun e2=>by have:=hx.2.2.1; omega,hbd.block x hx.2.2.1⟩) hbd.size (fun b o hbo=>cell_of_block (hbd.block b (h.stIn b o hbo))) (fun l2 o2 b2 h1 h2 h3 _=>hbd.block b2 (h.obs l2 o2 b2 h1 h2 h3).2.1) (fun k hk=>?_)
          have hk':k<ob.xs.length*n:=by rw[← hxfl]; exact hk
          rw[World.cell?,World.cell?,CX w _,c3]
          simp only[aj,aN,aK]
          rw[bI (by simp only[jV,aO,holdl]; omega)]
          simp only[dh]
          rw[ah (by omega),aV,ED hk']
          simp)
         simp only[hkl,aO] at g2
         have earr:(cs.toList.take (ob.xs.length*n)++news).toArray=(cs.toList.take (ob.xs.length*n)).toArray++news.toArray:=by simp
         rw[earr] at g1 g2
         exact⟨_,_,_,St,β',hexec _ _ hr,.inl rfl,g1,g2⟩
      ·cases hy
     ·cases hy
    ·cases hy
   ·cases hy
  ·cases hy
 ·cases hy
end Go.Vm
