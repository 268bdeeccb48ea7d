/- A part. -/
import Derived.Test.YtnfbaclikokapaaGreatDk
import Derived.Test.YtnfbaclikokapaaGreatZi
import Derived.Test.YtnfbaclikokapaaGreatZn
import Derived.Test.YtnfbaclikokapaaGreatIa
set_option linter.unusedSimpArgs false
set_option linter.unusedVariables false
set_option maxHeartbeats 4000000
set_option maxRecDepth 10000
namespace Go.Vm
open Go.RowKit
variable {P:Program} {w0:Bs} {St0 St:Nat→Nat→Prop} {β:Nat→Option Nat} {s:MS} {a:Act} {w:World}
def Q3 (l:Nat) (st:List Ob):List Ob:=match st[l]? with
 | some ob=>st.set l ⟨ob.ty,ob.sz,ob.xs,ob.wr,false⟩
 | none=>st
def dC:List Nat→List Ob→List Ob
 | [],st=>st
 | l::ls,st=>dC ls (Q3 l st)
theorem AAK (l:Nat) (st:List Ob) (l':Nat):(Q3 l st)[l']?=(st[l']?).map fun ob=>if l=l' then⟨ob.ty,ob.sz,ob.xs,ob.wr,false⟩ else ob:=by
 unfold Q3
 split
 ·rename_i ob hob
  rw[bZ]
  by_cases e:l=l'
  ·subst e
   have:=(az.1 hob).1
   rw[hob]; simp[this]
  ·simp[e]
 ·rename_i hn
  by_cases e:l=l'
  ·subst e; simp[hn]
  ·simp[e]
theorem lJ:∀ (ls:List Nat) (st:List Ob) (l':Nat),(dC ls st)[l']?=(st[l']?).map fun ob=>if l'∈ls then⟨ob.ty,ob.sz,ob.xs,ob.wr,false⟩ else ob
 | [],st,l'=>by simp[dC]
 | l::ls,st,l'=>by
  rw[dC,lJ ls,AAK]
  cases st[l']? with
  | none=>rfl
  | some ob =>
   simp only[bP,ah,cZ]
   by_cases e:l=l'
   ·subst e; by_cases e2:l∈ls<;>simp[e2]
   ·have e3:¬ l'=l:=fun h=>e h.symm
    by_cases e2:l'∈ls<;>simp[e,e2,e3]
def Ee (used:List Nat) (l0 i:Nat) (row':List Cl) (ob:Ob) (st:List Ob):List Ob:=dC used (st.set l0 ⟨ob.ty,ob.sz,ob.xs.set i row',ob.wr,ob.live⟩)
theorem Core.closeRow (h:Core w0 St0 St β s a w) {l0 i:Nat} {ob:Ob} {row row':List Cl} {used:List Nat} (hob:CO s.st l0=some ob) (hrw:ob.xs[i]?=some row) (hwr:ob.wr=true) (hl0:l0∉used)
  (ho:AU s.st row row' [l0] fun us=>∀ l∈us,l=l0∨l∈used):Core w0 St0 St β ⟨s.n,s.env,Ee used l0 i row' ob s.st⟩ a w:=by
 obtain⟨hl,hlive⟩:=Aw hob
 obtain⟨φ,hφ⟩:=h.own
 have hi:i<ob.xs.length:=(az.1 hrw).1
 obtain⟨R,hR⟩:∃ R,R=ob.xs:=⟨_,rfl⟩
 have hxs:ob.xs=R.set i row:=by
  subst hR
  apply List.ext_getElem?
  intro m
  rw[bZ]
  by_cases e:i=m
  ·subst e; rw[hrw]; simp[hi]
  ·simp[e]
 have hi:i<R.length:=by rw[hR]; exact hi
 have hlN:l0<s.st.length:=(az.1 hl).1
 have hst0:∀ l,(Ee used l0 i row' ob s.st)[l]?=((if l0=l then some (⟨ob.ty,ob.sz,R.set i row',ob.wr,ob.live⟩:Ob) else s.st[l]?)).map fun o=>if l∈used then⟨o.ty,o.sz,o.xs,o.wr,false⟩ else o:=fun l=>by
  unfold Ee
  rw[lJ,bZ,← hR]
  by_cases e:l0=l
  ·subst e; simp[hlN]
  ·simp[e]
 have hget:∀ (l:Nat) (o2:Ob),(Ee used l0 i row' ob s.st)[l]?=some o2→o2.live=true→l∉used∧((l=l0∧o2=⟨ob.ty,ob.sz,R.set i row',ob.wr,ob.live⟩)∨(l≠l0∧s.st[l]?=some o2)):=by
  intro l o2 h2 hlv
  rw[hst0 l] at h2
  by_cases e:l0=l
  ·subst e
   simp only[bD,bP,ah,hl0,aT] at h2
   exact⟨hl0,.inl ⟨rfl,h2.symm⟩⟩
  ·simp only[e,aT] at h2
   cases hq:s.st[l]? with
   | none=>simp[hq] at h2
   | some o3 =>
    simp only[hq,bP,ah] at h2
    by_cases e2:l∈used
    ·simp only[e2,bD] at h2
     subst h2
     simp at hlv
    ·simp only[e2,aT] at h2
     exact⟨e2,.inr ⟨fun e3=>e e3.symm,by rw[h2]⟩⟩
 have hmk:∀ (l:Nat) (o2:Ob),s.st[l]?=some o2→∃ o3,(Ee used l0 i row' ob s.st)[l]?=some o3∧(o3.live=true→o2.live=true)∧(l∉used→o3.live=o2.live)∧o3.sz=o2.sz∧o3.ty=o2.ty∧o3.xs.length=o2.xs.length∧(o2.xs = []→o3.xs = []):=by
  intro l o2 h2
  rw[hst0 l]
  by_cases e:l0=l
  ·subst e
   rw[hl] at h2
   cases h2
   refine⟨⟨ob.ty,ob.sz,R.set i row',ob.wr,ob.live⟩,by simp[hl0],fun h=>h,fun _=>rfl,rfl,rfl,by simp[hxs],fun he=>?_⟩
   rw[hxs] at he
   have:R.length=0:=by simpa using congrArg List.length he
   omega
  ·simp only[e,aT,h2,bP]
   by_cases e2:l∈used
   ·simp only[e2,bD]
    exact⟨_,rfl,fun h=>by simp at h,fun h=>by simp at h,rfl,rfl,rfl,fun h=>h⟩
   ·simp only[e2,aT]
    exact⟨_,rfl,fun h=>h,fun _=>rfl,rfl,rfl,rfl,fun h=>h⟩
 have hr:∀ (l:Nat) (u:Value),A_ w s.st β l u→A_ w (Ee used l0 i row' ob s.st) β l u:=by
  intro l u hu
  unfold A_ at hu ⊢
  cases hq:s.st[l]? with
  | none=>simp[hq] at hu
  | some o2 =>
   obtain⟨o3,p1,p2,_,p3,p4,p5,p6⟩:=hmk l o2 hq
   simp only[hq] at hu
   simp only[p1]
   refine⟨hu.1,fun hlv=>?_⟩
   have h2:=hu.2 (p2 hlv)
   cases hβ:β l with
   | none=>simp only[hβ] at h2 ⊢; exact⟨h2.1,p6 h2.2⟩
   | some b=>simp only[hβ] at h2 ⊢; simpa only[p3,p4,p5] using h2
 have hBB:∀ (c:Cl) (u:Value),RdB w St s.st β c u→RdB w St (Ee used l0 i row' ob s.st) β c u:=fun c u hu=>RdB.mono (fun _ _ h=>h) (fun _ _ _=>rfl) hr c u hu
 have hp:∀ l i2 off u,AVR w St s.st β (.lp l i2 off) u→AVR w St (Ee used l0 i row' ob s.st) β (.lp l i2 off) u:=by
  intro l i2 off u hu
  simp only[AVR] at hu ⊢
  cases hq:s.st[l]? with
  | none=>simp[hq] at hu
  | some o2 =>
   obtain⟨o3,p1,p2,_,p3,_⟩:=hmk l o2 hq
   simp only[hq] at hu
   simp only[p1]
   intro hlv
   rw[p3]
   exact hu (p2 hlv)
 have hrow:(R.set i row)[i]?=some row:=by rw[bZ]; simp[hi]
 have hrow':(R.set i row')[i]?=some row':=by rw[bZ]; simp[hi]
 have hβcases:∀ b,β l0=some b→∃ (cs:Array Value),w.heap[b]?=some (.cells cs ob.ty (0,0))∧row.length=ob.sz∧row'.length=ob.sz∧(∀ x∈R.set i row',x.length=ob.sz) ∧
   ∃ (used1:List Nat) (Φ:Nat→Nat→Prop),(∀ l∈used1,l=l0∨l∈used)∧(∀ (j:Nat) (c:Cl),row'[j]?=some c→∃ y,cs[i*ob.sz+j]?=some y∧RdO w St c y (Φ j))∧(∀ k x,Φ k x→∃ l,l≠l0∧l∈used1∧Fp s.st β φ l x∧∀ o2,s.st[l]?=some o2→o2.wr=true) ∧
    (∀ k k' x,Φ k x→Φ k' x→k=k')∧∀ (k:Nat) (c:Cl),(R.set i row').flatten[k]?=some c→(∃ j,j<ob.sz∧k=i*ob.sz+j∧row'[j]?=some c)∨((∀ j,j<ob.sz→k≠i*ob.sz+j)∧ob.xs.flatten[k]?=some c):=by
  intro b hb
  obtain⟨_,_,cs,g1,g2,g3⟩:=h.obs l0 ob b hl hlive hb
  have hrl:row.length=ob.sz:=g2 row (by rw[hxs]; exact aY hrow)
  have hcr:∀ (j:Nat) (c:Cl),row[j]?=some c→∃ y,cs[i*ob.sz+j]?=some y∧RdB w St s.st β c y:=fun j c hj=>g3 _ c (EL g2 i j row c (by rw[hxs]; exact hrow) hj)
  have hvs:∃ vs:List Value,vs.length=row.length∧∀ (j:Nat),j<row.length→vs[j]?=cs[i*ob.sz+j]?:=by
   refine⟨(List.range row.length).map fun j=>(cs[i*ob.sz+j]?).getD Go.undef,by simp,fun j hj=>?_⟩
   obtain⟨y,hy,_⟩:=hcr j _ (aA hj)
   simp[hj,hy]
  obtain⟨vs,hv1,hv2⟩:=hvs
  have hnow:∀ (j:Nat) (c:Cl),row[j]?=some c→E8 c=false:=by
   have gen:∀ (xs ys:List Cl) (us:List Nat) (K:List Nat→Prop),AU s.st xs ys us K→∀ (j:Nat) (c:Cl),xs[j]?=some c→E8 c=false:=by
    intro xs
    induction xs with
    | nil=>intro ys us K _ j c hj; simp at hj
    | cons x xs ih =>
     intro ys us K ho j c hj
     cases ys with
     | nil=>simp[AU] at ho
     | cons y ys =>
      have pl:x=y∧AO y=true∧AU s.st xs ys us K→E8 c=false:=by
       rintro⟨rfl,hp,hrest⟩
       cases j with
       | zero=>simp only[aB,ah] at hj; subst hj; exact F6 hp
       | succ j=>exact ih ys us K hrest j c (by simpa using hj)
      cases y with
      | v z=>exact pl (by simpa only[AU] using ho)
      | sl z=>exact pl (by simpa only[AU] using ho)
      | ref z=>exact pl (by simpa only[AU] using ho)
      | ow ty sz zs =>
       simp only[AU] at ho
       split at ho
       ·rename_i l
        split at ho
        ·cases j with
         | zero=>simp only[aB,ah] at hj; subst hj; rfl
         | succ j=>exact ih ys _ K ho.2.2.2.2.2.2 j c (by simpa using hj)
        ·exact ho.elim
       ·cases j with
        | zero=>simp only[aB,ah] at hj; subst hj; rfl
        | succ j=>exact ih ys us K ho.2 j c (by simpa using hj)
       ·exact ho.elim
   exact gen row row' [l0] _ ho
  obtain⟨used1,Φ,r1,r2,r3,r4,r5,r6⟩:=XH h hφ row row' vs [l0] _ hv1 (fun j c hj=>by
   obtain⟨y,hy,hr⟩:=hcr j c hj
   exact⟨y,by rw[hv2 j (az.1 hj).1]; exact hy,hr.toC (hnow j c hj)⟩) ho
  have hset:∀ x∈R.set i row',x.length=ob.sz:=fun x hx=>by
   rcases aaH hx with h' | h'
   ·obtain⟨m,hm,rfl⟩:=aaz.1 h'
    by_cases e:m=i
    ·subst e
     have:(R.set m row')[m]?=some row':=hrow'
     obtain⟨m2,hm2,he2⟩:=aaz.1 hx
     by_cases e2:m2=m
     ·subst e2
      rw[abb] at he2
      simp at he2
      rw[← he2,r3,hrl]
     ·rw[abb] at he2
      have e3:¬ m=m2:=fun h=>e2 h.symm
      simp only[e3,aT] at he2
      rw[← he2]
      refine g2 _ ?_
      rw[hxs]
      refine aaz.2 ⟨m2,by simpa using hm2, ?_⟩
      rw[abb]
      simp[e3]
    ·refine g2 _ ?_
     rw[hxs]
     refine aaz.2 ⟨m,by simpa using hm, ?_⟩
     rw[abb]
     have e3:¬ i=m:=fun h=>e h.symm
     simp[e3]
   ·rw[h',r3,hrl]
  refine⟨cs,g1,hrl,by rw[r3,hrl],hset,used1,Φ,r1,fun j c hj=>?_,fun k x hx=>?_,r6,fun k c hk=>?_⟩
  ·obtain⟨y,hy,hr⟩:=r4 j c hj
   have hjl:j<row.length:=by rw[← r3]; exact(az.1 hj).1
   exact⟨y,by rw[← hv2 j hjl]; exact hy,hr⟩
  ·obtain⟨l,q1,q2,q3,q4⟩:=r5 k x hx
   exact⟨l,fun e=>q1 (by simp[e]),q2,q3,q4⟩
  ·obtain⟨i',j,x,q1,q2,q3,q4⟩:=Vz hset hk
   by_cases e:i'=i
   ·subst e
    rw[hrow'] at q1
    cases q1
    exact .inl ⟨j,q4,q3,q2⟩
   ·refine .inr ⟨fun j' hj' e2=>e (ABZ q4 hj' (q3▸e2)).1, ?_⟩
    subst q3
    refine EL g2 i' j x c ?_ q2
    rw[hxs,bZ]
    rw[bZ] at q1
    have e3:¬ i=i':=fun h=>e h.symm
    simp only[e3,aT] at q1 ⊢
    exact q1
 exact {
  defers:=h.defers
  size:=h.size
  lim:=h.lim
  env:=fun k=>AVR.mono (fun _ _ h=>h) (fun _ _ _=>rfl) hr hp _ _ (h.env k)
  below:=h.below,st0:=h.st0,stOld:=h.stOld,stIn:=h.stIn
  obs:=fun l o2 b h2 hlv hβ=>by
   obtain⟨hlt,⟨rfl,rfl⟩ | ⟨hne,h3⟩⟩:=hget l o2 h2 hlv
   ·obtain⟨q1,q2,_⟩:=h.obs l ob b hl hlive hβ
    obtain⟨cs,g1,g2,g3,g4,used1,Φ,r1,r2,r3,r4,r5⟩:=hβcases b hβ
    refine⟨q1,q2,cs,g1,g4,fun k c hk=>?_⟩
    rcases r5 k c hk with ⟨j,hj,rfl,hc⟩ | ⟨_,hc⟩
    ·obtain⟨y,hy,hr⟩:=r2 j c hc
     exact⟨y,hy,hr.toB⟩
    ·obtain⟨_,_,cs',p1,p2,p3⟩:=h.obs l ob b hl hlive hβ
     rw[g1] at p1
     cases p1
     obtain⟨u,hu,hr⟩:=p3 k c hc
     exact⟨u,hu,hBB c u hr⟩
   ·obtain⟨q1,q2,cs,g1,g2,g3⟩:=h.obs l o2 b h3 hlv hβ
    refine⟨q1,q2,cs,g1,g2,fun k c hk=>?_⟩
    obtain⟨u,hu,hr⟩:=g3 k c hk
    exact⟨u,hu,hBB c u hr⟩
  nil:=fun l o2 h2 hlv hβ=>by
   obtain⟨hlt,⟨rfl,rfl⟩ | ⟨hne,h3⟩⟩:=hget l o2 h2 hlv
   ·have:=h.nil l ob hl hlive hβ
    rw[hxs] at this
    have:R.length=0:=by simpa using congrArg List.length this
    omega
   ·exact h.nil l o2 h3 hlv hβ
  inj:=fun l l' o1 o2 b h1 h2 h3 h4 h5 h6=>by
   have key:∀ (l:Nat) (o1:Ob),(Ee used l0 i row' ob s.st)[l]?=some o1→o1.live=true→∃ o,s.st[l]?=some o∧o.live=true:=by
    intro l o1 h1 h3
    obtain⟨_,⟨rfl,rfl⟩ | ⟨_,q⟩⟩:=hget l o1 h1 h3
    ·exact⟨ob,hl,hlive⟩
    ·exact⟨o1,q,h3⟩
   obtain⟨p1,q1,r1⟩:=key l o1 h1 h3
   obtain⟨p2,q2,r2⟩:=key l' o2 h2 h4
   exact h.inj l l' p1 p2 b q1 q2 r1 r2 h5 h6
  sep:=fun l o2 b o h2 hlv hβ hbo=>by
   obtain⟨hlt,⟨rfl,rfl⟩ | ⟨hne,h3⟩⟩:=hget l o2 h2 hlv
   ·have:=h.sep l ob b o hl hlive hβ hbo
    rw[hwr] at this
    cases this.1
   ·exact h.sep l o2 b o h3 hlv hβ hbo
  own:=by
   cases hβ0:β l0 with
   | none =>
    have:=h.nil l0 ob hl hlive hβ0
    rw[hxs] at this
    have:R.length=0:=by simpa using congrArg List.length this
    omega
   | some b0 =>
    obtain⟨cs,g1,g2,g3,g4,used1,Φ,r1,r2,r3,r4,r5⟩:=hβcases b0 hβ0
    have hΦN:∀ k x,Φ k x→∃ l,l∈used∧Fp s.st β φ l x∧∀ o2,s.st[l]?=some o2→o2.wr=true:=fun k x hx=>by
     obtain⟨l,q1,q2,q3,q4⟩:=r3 k x hx
     rcases r1 l q2 with e | e
     ·exact absurd e q1
     ·exact⟨l,e,q3,q4⟩
    refine⟨fun l k x=>(l=l0∧∃ j,j<ob.sz∧k=i*ob.sz+j∧Φ j x)∨(l∉used∧(l=l0→∀ j,j<ob.sz→k≠i*ob.sz+j)∧φ l k x), ?_, ?_, ?_⟩
    ·intro l o2 b k c h2 hlv hβ hk hc
     obtain⟨hlt,⟨rfl,rfl⟩ | ⟨hne,h3⟩⟩:=hget l o2 h2 hlv
     ·rw[hβ0] at hβ
      cases hβ
      rcases r5 k c hk with ⟨j,hj,rfl,hcj⟩ | ⟨hnj,hck⟩
      ·obtain⟨y,hy,hr⟩:=r2 j c hcj
       exact⟨y,by simp[World.cell?,g1,hy],RdO.mono (fun _ _ h=>h) (fun _ _ _=>rfl) c y _ _ (fun x hx=>.inl ⟨rfl,j,hj,rfl,hx⟩) (fun _ _=>rfl) hr⟩
      ·obtain⟨u,hu,hr⟩:=hφ.1 l ob b0 k c hl hlive hβ0 hck hc
       exact⟨u,hu,RdO.mono (fun _ _ h=>h) (fun _ _ _=>rfl) c u _ _ (fun x hx=>.inr ⟨hlt,fun _=>hnj,hx⟩) (fun _ _=>rfl) hr⟩
     ·obtain⟨u,hu,hr⟩:=hφ.1 l o2 b k c h3 hlv hβ hk hc
      exact⟨u,hu,RdO.mono (fun _ _ h=>h) (fun _ _ _=>rfl) c u _ _ (fun x hx=>.inr ⟨hlt,fun e=>absurd e hne,hx⟩) (fun _ _=>rfl) hr⟩
    ·rintro l k x (⟨rfl,j,hj,rfl,hx⟩ | ⟨hlt,hnj,hx⟩)
     ·obtain⟨l2,q1,q2,q3⟩:=hΦN j x hx
      obtain⟨t1,t2,t3⟩:=Qb h hφ q2 q3
      obtain⟨o3,p1,_,p2,_⟩:=hmk l ob hl
      refine⟨⟨o3,b0,p1,by rw[p2 hl0]; exact hlive,hβ0⟩,t1,fun h=>h,t2,t3,fun l' o2 h2 hlv hb=>?_⟩
      obtain⟨hlt',hcase⟩:=hget l' o2 h2 hlv
      have:Fp s.st β φ l' x:=by
       rcases hcase with ⟨rfl,rfl⟩ | ⟨_,q⟩
       ·exact⟨ob,hl,hlive,.inl hb⟩
       ·exact⟨o2,q,hlv,.inl hb⟩
      have:=GR h hφ q2 this
      exact hlt' (this▸q1)
     ·obtain⟨⟨o2,b,p1,p2,p3⟩,q1,q2,q3,q4,q5⟩:=hφ.2.1 l k x hx
      obtain⟨o3,s1,_,s2,_⟩:=hmk l o2 p1
      refine⟨⟨o3,b,s1,by rw[s2 hlt]; exact p2,p3⟩,q1,q2,q3,q4,fun l' o4 h4 hlv=>?_⟩
      obtain⟨_,⟨rfl,rfl⟩ | ⟨_,q⟩⟩:=hget l' o4 h4 hlv
      ·exact q5 l' ob hl hlive
      ·exact q5 l' o4 q hlv
    ·rintro l l' k k' x (⟨rfl,j,hj,rfl,hx⟩ | ⟨hlt,hnj,hx⟩) (⟨rfl,j',hj',rfl,hx'⟩ | ⟨hlt',hnj',hx'⟩)
     ·rw[r4 j j' x hx hx']; exact⟨rfl,rfl⟩
     ·obtain⟨l2,q1,q2,_⟩:=hΦN j x hx
      obtain⟨⟨o2,b,p1,p2,p3⟩,_⟩:=hφ.2.1 l' k' x hx'
      have:=GR h hφ q2 ⟨o2,p1,p2,.inr ⟨k',hx'⟩⟩
      exact absurd (this▸q1) hlt'
     ·obtain⟨l2,q1,q2,_⟩:=hΦN j' x hx'
      obtain⟨⟨o2,b,p1,p2,p3⟩,_⟩:=hφ.2.1 l k x hx
      have:=GR h hφ q2 ⟨o2,p1,p2,.inr ⟨k,hx⟩⟩
      exact absurd (this▸q1) hlt
     ·exact hφ.2.2 l l' k k' x hx hx' }
theorem Head.close (l0 i:Nat) (used:List Nat) {ob:Ob} {row row':List Cl} (hob:CO s.st l0=some ob) (hrw:ob.xs[i]?=some row) (hwr:ob.wr=true) (hl0:l0∉used)
  (ho:AU s.st row row' [l0] fun us=>∀ l∈us,l=l0∨l∈used):Head s ⟨s.n,s.env,Ee used l0 i row' ob s.st⟩:=⟨rfl,fun w0 St0 St β a w h=>⟨_,_,h.closeRow hob hrw hwr hl0 ho⟩⟩
theorem InlK.zz {P:Program} {s:MS} {f:FuncId} {args:List AV} {dst:Option Nat} {K:MS→Prop} {A B C D E:Prop} (y:AV) (st':List Ob) (h:InlS P f s.st args y st') (hk:K (MS.put ⟨s.n,s.env,st'⟩ dst y)):Jy A (Jy B (Jy C (Jy D (Jy E (InlK P f s args dst K))))):=
 .inr (.inr (.inr (.inr (.inr ⟨h.1,fun w0 St0 St β a w us h1 h2=>(h.2 w0 St0 St β s a w us rfl h1 h2).mono fun e w' ⟨u,e1,St',β',q1,q2⟩=>⟨u,e1,⟨s.n,s.env,st'⟩,y,rfl,hk,St',β',q1,q2⟩⟩))))
theorem EndH.self {P:Program} {s:MS} {vars:List ResultVar} {rs:List Res} (hp:Post P vars rs s):EndH P vars rs .ret s:=⟨s,⟨rfl,fun _ _ _ _ _ _ h=>⟨_,_,h⟩⟩,hp⟩
theorem EndH.close {P:Program} {s:MS} {vars:List ResultVar} {rs:List Res} (l0 i:Nat) (used:List Nat) {ob:Ob} {row row':List Cl} (hob:CO s.st l0=some ob) (hrw:ob.xs[i]?=some row) (hwr:ob.wr=true) (hl0:l0∉used)
  (ho:AU s.st row row' [l0] fun us=>∀ l∈us,l=l0∨l∈used) (hk:EndH P vars rs .ret ⟨s.n,s.env,Ee used l0 i row' ob s.st⟩):EndH P vars rs .ret s:=by
 obtain⟨t,h1,h2⟩:=hk
 exact⟨t,(Head.close l0 i used hob hrw hwr hl0 ho).trans h1,h2⟩
attribute [go_sem] dC
end Go.Vm
open Go.Proofs.Tryz
namespace Go.Proofs.YtnfbaclikokapaaGreat
open Go.Vm
def wdR (w:DWorld) (a b c d e f g h:Cl):List Cl:=[a,.v (.int .i64 w.c0.slots),.v (.int .i64 w.c0.bufs),.v (.int .i64 w.time),.v (.int .i64 w.t),.v (.int .i64 w.e),.v (.int .i64 w.d.ver),b,c,d,e,f,g,h]
@[go_sem] theorem AHs (w:DWorld) (a b c d e f g h:Cl):wdR w a b c d e f g h = [a,.v (.int .i64 w.c0.slots),.v (.int .i64 w.c0.bufs),.v (.int .i64 w.time),.v (.int .i64 w.t),.v (.int .i64 w.e),.v (.int .i64 w.d.ver),b,c,d,e,f,g,h]:=rfl
theorem ACB (w:DWorld) {st:List Ob} {l:Nat} {x1 x2 x3 x4 x5 x6 x7 x8:Cl} (h:st[l]?=some ⟨44,14,[wdR w x1 x2 x3 x4 x5 x6 x7 x8],true,true⟩):InlS prog 35 st [.lp l 0 0] (.c (.v (.bool (uu w)))) st:=by
 refine InlS.mk (fn:=f35) call35 func35 rfl mixed ntmps35 results35 (by kernel_rfl) rfl fun m env=>?_
 have hob:CO st l=some ⟨44,14,[wdR w x1 x2 x3 x4 x5 x6 x7 x8],true,true⟩:=by simp[CO,h]
 simp only[go_sem] at hob
 rcases h1:decide (w.time<1000000) with _ | _<;>rcases h2:decide (w.t<1000000) with _ | _<;>rcases h3:decide (w.e<1000000) with _ | _ <;>
  simp only[go_sem,hob,h1,h2,h3,uu,ai,ag]
theorem Ws {α:Type} {f:α→Int→Int}:∀ (xs:List α) (_:∀ x∈xs,∀ l,0≤f x l→l≤1048576→f x l≤l) (l:Int),0≤Wu f xs l→l≤1048576→∀ x∈xs,∃ l',l'≤1048576∧0≤f x l'
 | [],_,_,_,_,_,h=>by simp at h
 | y::ys,hf,l,h0,hl,x,hx=>by
  simp only[Wu] at h0
  obtain⟨h1,h2,h3⟩:=AX h0
  rcases cZ.1 hx with rfl | hx
  ·exact⟨l,hl,h1⟩
  ·exact Ws ys (fun z hz=>hf z (by simp[hz])) _ h2 (by have:=hf y (by simp) l h1 hl; omega) x hx
theorem vN {α:Type} {f:α→Int→Int} (xs:List α) (hf:∀ x∈xs,∀ l,0≤f x l→l≤1048576→f x l≤l) {l:Int} (h:0≤Ce f xs l) (hl:l≤1048576):Ce f xs l≤l-xs.length:=by
 unfold Ce at h ⊢
 obtain⟨a1,b1,c1⟩:=AX h
 have h3:¬ l-xs.length<0:=by intro h3; rw[ACE h3] at a1; omega
 rw[c1]
 have c2:=(gU xs (F:=fun _=>True) (fun x hx l a b=>⟨trivial,hf x hx l a b⟩) _ b1 (by rw[vS h3]; omega)).2
 rw[vS h3] at c2 ⊢
 exact c2
theorem ACC {xs:List DBuf} {l:Int} (h0:0≤Ce FU xs l) (hl:l≤1048576):∀ x∈xs,∀ k,Ip k x≤k+67108928:=fun x hx k=>by
 unfold Ce at h0
 obtain⟨h1,h2,_⟩:=AX h0
 obtain⟨l',g1,g2⟩:=Ws xs (fun x _ l a b=>(NQ x l a b).2) _ h2 (by have:=(CJ h1 hl).2; omega) x hx
 have:=lY x k l' g2 g1
 omega
theorem AAL {xs:List DTask} {l:Int} (h0:0≤Ce Fe xs l) (hl:l≤1048576):∀ x∈xs,∀ k,FQ k x≤k+67108928:=fun x hx k=>by
 unfold Ce at h0
 obtain⟨h1,h2,_⟩:=AX h0
 obtain⟨l',g1,g2⟩:=Ws xs (fun x _ l a b=>(LP x l a b).2) _ h2 (by have:=(CJ h1 hl).2; omega) x hx
 have:=dF x k l' g2 g1
 omega
theorem AAM {xs:List DDeed} {l:Int} (h0:0≤Ce Gq xs l) (hl:l≤1048576):∀ x∈xs,∀ k,Em k x≤k+67108928:=fun x hx k=>by
 unfold Ce at h0
 obtain⟨h1,h2,_⟩:=AX h0
 obtain⟨l',g1,g2⟩:=Ws xs (fun x _ l a b=>(LQ x l a b).2) _ h2 (by have:=(CJ h1 hl).2; omega) x hx
 have:=dG x k l' g2 g1
 omega
theorem lK {w:DWorld} (h0:0≤Il w 1048576):w.deeds.length+w.tasks.length≤1048576∧(∀ x∈w.b,∀ k,Ip k x≤k+67108928)∧(∀ x∈w.tasks,∀ k,FQ k x≤k+67108928)∧(∀ x∈w.deeds,∀ k,Em k x≤k+67108928):=by
 rw[N_] at h0
 obtain⟨a0,b0,_⟩:=AX h0
 have w0:=(RZ w.c0 _ a0 (by omega)).2
 obtain⟨a1,b1,_⟩:=AX b0
 have w1:=(Uo w.d _ a1 (by omega)).2
 obtain⟨a2,b2,_⟩:=AX b1
 have w2:=(DI w.b (fun x _=>NQ x) a2 (by omega)).2
 obtain⟨a3,b3,_⟩:=AX b2
 have w3:=(CJ a3 (by omega)).2
 obtain⟨a4,b4,_⟩:=AX b3
 have w4:=(CJ a4 (by omega)).2
 obtain⟨a5,b5,_⟩:=AX b4
 have w5:=(CJ a5 (by omega)).2
 obtain⟨a6,b6,_⟩:=AX b5
 have w6:=vN w.tasks (fun x _ l a b=>(LP x l a b).2) a6 (by omega)
 obtain⟨a7,b7,_⟩:=AX b6
 have w7:=vN w.deeds (fun x _ l a b=>(LQ x l a b).2) a7 (by omega)
 exact⟨by omega,ACC a2 (by omega),AAL a6 (by omega),AAM a7 (by omega)⟩
theorem rE (w:DWorld) (hf:Aa w) (hb:∀ x∈w.b,∀ k,Ip k x≤k+67108928) (ht:∀ x∈w.tasks,∀ k,FQ k x≤k+67108928) (hd:∀ x∈w.deeds,∀ k,Em k x≤k+67108928):FX 1 w≤4000000000000000000:=by
 rw[BI,JO,K_] at hf
 obtain⟨f1,f2,f3,f4,f5,f6,f7,f8⟩:=hf
 have f3:=f3.1
 have f7:=f7.1
 have f8:=f8.1
 have g1:F_ 1 w≤1+w.c0.cols.length*64:=Gl (c:=KO) 64 (by omega) w.c0.cols (fun x _ k=>N8 k x) 1
 have g2:GG 1 w≤F_ 1 w+w.d.l.length*64:=Gl (c:=IE) 64 (by omega) w.d.l (fun x _ k=>Xo k x) _
 have g3:GH 1 w≤GG 1 w+w.b.length*67108928:=Gl (c:=Ip) 67108928 (by omega) w.b hb _
 have g4:GI 1 w≤GH 1 w+w.m.length*64:=Gl (c:=KO) 64 (by omega) w.m (fun x _ k=>N8 k x) _
 have g5:GK 1 w≤GI 1 w+w.x.length*64:=Gl (c:=H7) 64 (by omega) w.x (fun x _ k=>dK k x) _
 have g6:GL 1 w≤GK 1 w+w.p.length*64:=Gl (c:=KO) 64 (by omega) w.p (fun x _ k=>N8 k x) _
 have g7:GM 1 w≤GL 1 w+w.tasks.length*67108928:=Gl (c:=FQ) 67108928 (by omega) w.tasks ht _
 have g8:KW 1 w≤GM 1 w+w.deeds.length*67108928:=Gl (c:=Em) 67108928 (by omega) w.deeds hd _
 show KW 1 w≤_
 omega
def opAt (w:DWorld) (k:Int):Int:=match w.tasks[k.toNat]? with
 | some t=>t.op
 | none=>1
def L_ (w:DWorld) (k:Int):Bool:=Ac k 0 2&&((opAt w k==0)&&uu w)
noncomputable def Fb (w:DWorld) (k:Int):Bool:=EU w&&L_ w k
def Ap (id:Int):DTask:=⟨2,0,0,[],id,Ih,0,0,[],0,0,0,0,0,false,[]⟩
def B_ (id:Int):DDeed:=⟨2,0,[],id,Ih,NC,0,0,0,0,0⟩
def QS (w:DWorld) (k:Int) (id:Int):DWorld:=if decide (id<0)=true then Je w k.toNat (Ap 0) (B_ (-1)) 4 else Je w k.toNat (Ap id) (B_ id) 0
noncomputable def Du (w:DWorld) (k:Int) (id:Int):DWorld:=if Fb w k=true then QS w k id else w
theorem gI {k a b:Int} (h:Ac k a b=true) (ha:0≤a):∃ n:Nat,k=n∧(n:Int)≤b:=by
 simp[Ac] at h
 exact⟨k.toNat,by omega,by omega⟩
theorem KQ {w:DWorld} (h:EU w=true):w.tasks.length=5∧w.p.length=5:=by
 unfold EU at h
 simp only[ak,ZZ] at h
 omega
theorem rF (w:DWorld) (k:Int) (hw0:EU w=true):Ctr prog 34 [.agg w.c,.c (.v (.int .i64 (k)))] [.val (.c (.v (.bool (Ac k 0 2&&(opAt w k==0)))))]:=by
 refine CM call34 func34 ntmps34 results34 fun hw=>?_
 simp only[go_sem]
 try refine DrawK.mk ?_
 try simp only[go_sem]
 first | refine CallF.mk _ (AL k 0 2) ?_ | refine CallK.mk _ (AL k 0 2) fun _=>?_
 rcases h1:Ac k 0 2 with _ | _
 ·simp only[go_sem,h1,ag]
 obtain⟨n,rfl,hn⟩:=gI h1 (by omega)
 have hl:n<w.tasks.length:=by have:=(KQ hw0).1; omega
 have e:opAt w (n:Int)=w.tasks[n].op:=by simp[opAt,hl]
 simp only[go_sem,h1,AA _ hl,hl,e,ai]
theorem VX {w:DWorld} {k:Int} (hf:Aa w) (h1:EU w=true) (h2:(Ac k 0 2&&(opAt w k==0))=true):∃ n:Nat,k=n∧(n:Int)≤2∧n<w.tasks.length∧n<w.p.length∧w.tasks[n]?=some J9∧w.deeds.length+1≤2147483648:=by
 simp only[ak,ZZ] at h2
 obtain⟨n,rfl,hn⟩:=gI h2.1 (by omega)
 have hl:=KQ h1
 have hlt:n<w.tasks.length:=by omega
 have hz:w.tasks[n]=J9:=zo h1 hlt (by have:=h2.2; simp[opAt,hlt] at this; simp[this])
 rw[BI] at hf
 have:=hf.2.2.2.2.2.2.2.1
 exact⟨n,rfl,hn,hlt,by omega,by simp[hlt,hz],by omega⟩
def GZ (w:DWorld) (n:Nat):DDeed:=⟨2,n,[],-1,Ih,NC,4,0,w.time,w.time,w.time⟩
theorem PG {α:Type} {f:α→Prop}:fitS f []:=⟨by simp,fun x hx=>by simp at hx⟩
theorem dD:Aq ⟨0,0,0,⟨0,0,ByteArray.empty⟩,[]⟩:=by rw[BP]; exact⟨by simp[Ff,DPred.v],PG⟩
theorem ACD (w:DWorld) (id:Int):Ef (Ky w (Ap id)):=by
 rw[Di]
 exact⟨PG,⟨dD,by simp[Ky,Ap,Ih]⟩,by simp[Ky,Ap],PG⟩
theorem vO (w:DWorld) (k:Int) (t:DTask) (id:Int):ED (SN w k t (B_ id)):=by
 rw[FP]
 exact⟨PG,⟨dD,by simp[SN,B_,Ih]⟩,PG,by simp[SN,B_,NC,Ff]⟩
theorem gJ (w:DWorld) (k id:Int) (hf:Aa w):Ctr prog 7 [.agg w.c,.c (.v (.int .i64 (k))),.c (.v (.int .i64 (id)))] [.agg (Du w k id).o,.val (.c (.v (.bool (Fb w k))))]:=by
 refine Ctr.mkH call7 func7 rfl mixed ntmps7 results7 (by kernel_rfl) rfl fun hw=>?_
 simp only[go_sem]
 refine CW (kz w hf) fun _=>?_
 simp only[go_sem]
 refine CW (Z_ w hf) fun _=>?_
 rcases h1:EU w with _ | _
 ·have e1:Fb w k=false:=by simp only[Fb,h1]; rfl
  have e2:Du w k id=w:=by simp[Du,e1]
  simp only[go_sem,h1,e1,e2]
  exact EndH.self (by simp only[go_sem]; simp[AU,AO])
 simp only[go_sem,h1]
 refine CW (rF w k h1) fun _=>?_
 rcases h2:Ac k 0 2&&(opAt w k==0) with _ | _
 ·have e1:Fb w k=false:=by simp only[Fb,L_,h1,← Bool.and_assoc,h2]; rfl
  have e2:Du w k id=w:=by simp[Du,e1]
  simp only[go_sem,h1,h2,e1,e2]
  exact EndH.self (by simp only[go_sem]; simp[AU,AO])
 simp only[go_sem,h1,h2]
 refine InlK.zz _ _ (ACB w rfl) ?_
 rcases h3:uu w with _ | _
 ·have e1:Fb w k=false:=by simp only[Fb,L_,h3,aH]
  have e2:Du w k id=w:=by simp[Du,e1]
  simp only[go_sem,h1,h2,h3,e1,e2]
  exact EndH.self (by simp only[go_sem]; simp[AU,AO])
 have e1:Fb w k=true:=by simp only[Fb,L_,h1,← Bool.and_assoc,h2,h3]; rfl
 have e2:Du w k id=QS w k id:=by simp[Du,e1]
 obtain⟨n,rfl,hn,hlt,hlp,hz,hld⟩:=VX hf h1 h2
 simp only[go_sem,h1,h2,h3,e1,e2]
 refine InlK.mk (fn:=f36) call36 func36 rfl mixed ntmps36 results36 (by kernel_rfl) rfl ?_
 unfold QS
 rcases h5:decide (id<0) with _ | _
 ·simp only[go_sem,h5]
  refine InlK.mk (fn:=f97) call97 func97 rfl mixed ntmps97 results97 (by kernel_rfl) rfl ?_
  simp only[go_sem,ae]
  refine DrawK.mkE ?_
  simp only[go_sem]
  refine CallE.mk _ (Ov (Ky w (Ap id)) (ACD _ _)) ?_
  simp only[go_sem,ae,hlt,AA _ hlt,DTask.o_eq w.tasks[n]]
  refine DrawK.mkE ?_
  simp only[go_sem,ae,hlt]
  refine CallE.mk _ (Ox (SN w n (Ap id) (B_ id)) (vO _ _ _ _)) ?_
  simp only[go_sem,ae,hlt,hld,nrD,aC]
  refine EndH.close 8 n [13,14,15,16,17] (row':=DTask.o (Ky w (Ap id))) rfl (abv (by simpa using hlt)) rfl (by decide) ?_ ?_
  ·simp only[go_sem,DTask.o_eq,DQuery.o_eq,DPred.o_eq]
   simp[AO]
  simp only[Ee,Q3,go_sem,cu,← aa6]
  refine EndH.close 23 (w.deeds.map DDeed.o).length [18,19,20,21] (row':=DDeed.o (SN w n (Ap id) (B_ id))) rfl abm rfl (by decide) ?_ ?_
  ·simp only[go_sem,DDeed.o_eq,DQuery.o_eq,DPred.o_eq,DResult.o_eq]
   simp[AO]
  simp only[Ee,Q3,go_sem,BJ]
  refine EndH.self ?_
  have e3:w.deeds.map DDeed.o ++ [DDeed.o (SN w n (Ap id) (B_ id))]=(w.deeds ++ [SN w n (Ap id) (B_ id)]).map DDeed.o:=by simp
  have e4:Je w n (Ap id) (B_ id) 0=⟨w.c0,IntKind.i64.wrap (w.time+1),w.t,w.e,w.d,w.b,w.m,w.x,w.p,w.tasks.set n (Ky w (Ap id)),w.deeds ++ [SN w n (Ap id) (B_ id)]⟩:=by simp[Je]; rfl
  have e5:(w.tasks.map DTask.o).set n (DTask.o (Ky w (Ap id)))=(w.tasks.set n (Ky w (Ap id))).map DTask.o:=aa6.symm
  simp only[go_sem] at e3 e5
  simp only[go_sem,e3,e4,e5]
  simp[AO]
  rfl
 simp only[go_sem,h5]
 refine InlK.mk (fn:=f97) call97 func97 rfl mixed ntmps97 results97 (by kernel_rfl) rfl ?_
 simp only[go_sem,ae]
 refine DrawK.mkE ?_
 simp only[go_sem]
 refine CallE.mk _ (Ov (Ky w (Ap 0)) (ACD _ _)) ?_
 simp only[go_sem,ae,hlt,AA _ hlt,DTask.o_eq w.tasks[n]]
 refine DrawK.mkE ?_
 simp only[go_sem,ae,hlt]
 refine CallE.mk _ (Ox (SN w n (Ap 0) (B_ (-1))) (vO _ _ _ _)) ?_
 have hgt:∀ row,((w.tasks.map DTask.o).set n row)[n]?=some row:=fun row=>abv (by simpa using hlt)
 have hgd:∀ row,(w.deeds.map DDeed.o ++ [row])[w.deeds.length]?=some row:=fun row=>by simp
 have hsd:∀ row row2:List Cl,(w.deeds.map DDeed.o ++ [row]).set w.deeds.length row2=w.deeds.map DDeed.o ++ [row2]:=fun row row2=>by simp
 have hh:(Ky w (Ap 0)).h=(w.deeds.length:Int):=rfl
 have hgp:=AA intC hlp
 have hsp:∀ x,(w.p.map intC).set n [.v (.int .i64 x)]=(w.p.set n x).map intC:=fun x=>aa6.symm
 simp only[go_sem,ae,hlt,hld,nrD,aC]
 refine InlK.mk (fn:=f98) call98 func98 rfl mixed ntmps98 results98 (by kernel_rfl) rfl ?_
 simp only[go_sem,ae,bu,aW,bU,X5,Zj,hlt,hlp,hgt,hgd,hsd,hh,hgp,hsp,W_]
 repeat (refine DrawK.mkE ?_; simp only[go_sem,ae,bu,aW,bU,X5,Zj,hlt,hlp,hgt,hgd,hsd,hh,hgp,hsp,W_])
 refine InlK.mk (fn:=f99) call99 func99 rfl mixed ntmps99 results99 (by kernel_rfl) rfl ?_
 simp only[go_sem,ae,bu,aW,bU,X5,Zj,hlt,hlp,hgt,hgd,hsd,hh,hgp,hsp,W_]
 repeat (refine DrawK.mkE ?_; simp only[go_sem,ae,bu,aW,bU,X5,Zj,hlt,hlp,hgt,hgd,hsd,hh,hgp,hsp,W_])
 simp only[cu]
 refine EndH.close 8 n [] (row':=DTask.o J9) rfl (abv (by simpa using hlt)) rfl (by decide) ?_ ?_
 ·simp only[go_sem,DTask.o_eq,DQuery.o_eq,DPred.o_eq,J9]
  simp[AO,Ih,Me,DPred.kind,DPred.col,DPred.op,DPred.v,DPred.l]
 simp only[Ee,Q3,go_sem,cu]
 refine EndH.close 23 (w.deeds.map DDeed.o).length [18,19,20,21] (row':=DDeed.o (GZ w n)) rfl abm rfl (by decide) ?_ ?_
 ·simp only[go_sem,DDeed.o_eq,DQuery.o_eq,DPred.o_eq,DResult.o_eq,SN,B_,Ap,Ky,GZ]
  simp[AO,Ih,Me,NC,DPred.kind,DPred.col,DPred.op,DPred.v,DPred.l]
 simp only[Ee,Q3,go_sem,BJ]
 refine EndH.self ?_
 have hT:w.tasks.set n J9=w.tasks:=by
  obtain⟨h,e⟩:=az.1 hz
  rw[← e]; exact List.set_getElem_self h
 have e3:w.deeds.map DDeed.o ++ [DDeed.o (GZ w n)]=(w.deeds ++ [GZ w n]).map DDeed.o:=by simp
 have e4:Je w n (Ap 0) (B_ (-1)) 4=⟨w.c0,IntKind.i64.wrap (w.time+1),w.t,w.e,w.d,w.b,w.m,w.x,w.p.set n (-1),w.tasks,w.deeds ++ [GZ w n]⟩:=by simp[Je,Ap,B_,GZ]
 have e5:(w.tasks.map DTask.o).set n (DTask.o J9)=w.tasks.map DTask.o:=by rw[← aa6,hT]
 simp only[go_sem] at e3 e5
 simp only[go_sem,e3,e4,e5]
 simp[AO]
 try rfl
end Go.Proofs.YtnfbaclikokapaaGreat
