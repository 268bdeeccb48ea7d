/- A part. -/
import Derived.Test.YthmifbbmgnhddaaGreatVmT
set_option linter.unusedSimpArgs false
set_option linter.unusedVariables false
namespace Go.Vm
open Go.RowKit
variable {P:Program} {w0:Bs} {St0 St:Nat→Nat→Prop} {β:Nat→Option Nat} {s:MS} {a:Act} {w:World}
theorem yw {xs:List (List Cl)} {sz:Nat} (hl:∀ x∈xs,x.length=sz):∀ {k:Nat} {c:Cl},xs.flatten[k]?=some c→∃ (i j:Nat) (x:List Cl),xs[i]?=some x∧x[j]?=some c∧k=i*sz+j∧j<sz:=by
 induction xs with
 | nil=>intro k c h; simp at h
 | cons x xs ih =>
  intro k c h
  have hx:x.length=sz:=hl x AQ3
  simp only[lL] at h
  rcases bZ k x.length with h' | h'
  ·rw[bM h'] at h
   exact⟨0,k,x,AQ3,h,AQ2,AQ2⟩
  ·rw[bf h'] at h
   obtain⟨i,j,y,q1,q2,q3,q4⟩:=ih (fun y hy=>hl y ASE) h
   exact⟨i+1,j,y,by simpa using q1,q2,by rw[sD]; omega,q4⟩
theorem AKP {i i' j j' sz:Nat} (hj:j<sz) (hj':j'<sz) (h:i*sz+j=i'*sz+j'):i=i'∧j=j':=by
 have h1:(i*sz+j)/sz=i:=by rw[Nat.mul_comm,Nat.mul_add_div AQ2,Nat.div_eq_of_lt hj]; rfl
 have h2:(i'*sz+j')/sz=i':=by rw[Nat.mul_comm,Nat.mul_add_div AQ2,Nat.div_eq_of_lt hj']; rfl
 have:i=i':=by rw[← h1,h,h2]
 subst this
 exact⟨rfl,AQ2⟩
def KZ (l:Nat) (st:List Ob):List Ob:=match st[l]? with
 | some ob=>st.set l ⟨ob.ty,ob.sz,ob.xs,ob.wr,false⟩
 | none=>st
def ZY:List Nat→List Ob→List Ob
 | [],st=>st
 | l::ls,st=>ZY ls (KZ l st)
theorem AGm (l:Nat) (st:List Ob) (l':Nat):(KZ l st)[l']?=(st[l']?).map fun ob=>if l=l' then⟨ob.ty,ob.sz,ob.xs,ob.wr,false⟩ else ob:=by
 unfold KZ
 grind
theorem yx:∀ (ls:List Nat) (st:List Ob) (l':Nat),(ZY ls st)[l']?=(st[l']?).map fun ob=>if l'∈ls then⟨ob.ty,ob.sz,ob.xs,ob.wr,false⟩ else ob
 | [],st,l'=>by simp[ZY]
 | l::ls,st,l'=>by
  rw[ZY,yx ls,AGm]
  grind
def Dl (used:List Nat) (l0 i:Nat) (row':List Cl) (ob:Ob) (st:List Ob):List Ob:=ZY used (st.set l0 ⟨ob.ty,ob.sz,ob.xs.set i row',ob.wr,ob.live⟩)
theorem Core.closeRow (h:Core w0 St0 St β s a w) {l0 i:Nat} {ob:Ob} {row row':List Cl} {used:List Nat} (hob:EH s.st l0=some ob) (hrw:ob.xs[i]?=some row) (hwr:ob.wr=true) (hl0:l0∉used)
  (ho:OwnL s.st row row' [l0] fun us=>∀ l∈us,l=l0∨l∈used):Core w0 St0 St β ⟨s.n,s.env,Dl used l0 i row' ob s.st⟩ a w:=by
 obtain⟨hl,hlive⟩:=Ci hob
 obtain⟨φ,hφ⟩:=h.own
 have hi:i<ob.xs.length:=(aP.1 hrw).1
 obtain⟨R,hR⟩:∃ R,R=ob.xs:=⟨_,rfl⟩
 have hxs:ob.xs=R.set i row:=by
  subst hR
  apply abE
  intro m
  rw[vG]
  by_cases e:i=m
  ·grind
  ·simp[e]
 have hi:i<R.length:=by rw[hR]; exact hi
 have hlN:l0<s.st.length:=(aP.1 hl).1
 have hst0:∀ l,(Dl used l0 i row' ob s.st)[l]?=((if l0=l then some (⟨ob.ty,ob.sz,R.set i row',ob.wr,ob.live⟩:Ob) else s.st[l]?)).map fun o=>if l∈used then⟨o.ty,o.sz,o.xs,o.wr,false⟩ else o:=fun l=>by
  unfold Dl
  grind [yx]
 have hget:∀ (l:Nat) (o2:Ob),(Dl used l0 i row' ob s.st)[l]?=some o2→o2.live=true→l∉used∧((l=l0∧o2=⟨ob.ty,ob.sz,R.set i row',ob.wr,ob.live⟩)∨(l≠l0∧s.st[l]?=some o2)):=by
  intro l o2 h2 hlv
  rw[hst0 l] at h2
  by_cases e:l0=l
  ·grind
  ·grind
 have hmk:∀ (l:Nat) (o2:Ob),s.st[l]?=some o2→∃ o3,(Dl used l0 i row' ob s.st)[l]?=some o3∧(o3.live=true→o2.live=true)∧(l∉used→o3.live=o2.live)∧o3.sz=o2.sz∧o3.ty=o2.ty∧o3.xs.length=o2.xs.length∧(o2.xs = []→o3.xs = []):=by
  intro l o2 h2
  rw[hst0 l]
  by_cases e:l0=l
  ·grind
  ·grind
 have hr:∀ (l:Nat) (u:Value),BZ w s.st β l u→BZ w (Dl used l0 i row' ob s.st) β l u:=by
  intro l u hu
  unfold BZ at hu ⊢
  exact APe
 have hBB:∀ (c:Cl) (u:Value),RdB w St s.st β c u→RdB w St (Dl used l0 i row' ob s.st) β c u:=fun c u hu=>RdB.mono (fun _ _ h=>h) (fun _ _ _=>rfl) hr c u hu
 have hp:∀ l i2 off u,AVR w St s.st β (.lp l i2 off) u→AVR w St (Dl used l0 i row' ob s.st) β (.lp l i2 off) u:=by
  intro l i2 off u hu
  simp only[AVR] at hu ⊢
  exact APe
 have hrow:(R.set i row)[i]?=some row:=by rw[vG]; simp[hi]
 have hrow':(R.set i row')[i]?=some row':=by rw[vG]; simp[hi]
 have hβcases:∀ b,β l0=some b→∃ (cs:Array Value),w.heap[b]?=some (.cells cs ob.ty (0,0))∧row.length=ob.sz∧row'.length=ob.sz∧(∀ x∈R.set i row',x.length=ob.sz) ∧
   ∃ (used1:List Nat) (Φ:Nat→Nat→Prop),(∀ l∈used1,l=l0∨l∈used)∧(∀ (j:Nat) (c:Cl),row'[j]?=some c→∃ y,cs[i*ob.sz+j]?=some y∧RdO w St c y (Φ j))∧(∀ k x,Φ k x→∃ l,l≠l0∧l∈used1∧Fp s.st β φ l x∧∀ o2,s.st[l]?=some o2→o2.wr=true) ∧
    (∀ k k' x,Φ k x→Φ k' x→k=k')∧∀ (k:Nat) (c:Cl),(R.set i row').flatten[k]?=some c→(∃ j,j<ob.sz∧k=i*ob.sz+j∧row'[j]?=some c)∨((∀ j,j<ob.sz→k≠i*ob.sz+j)∧ob.xs.flatten[k]?=some c):=by
  intro b hb
  obtain⟨_,_,cs,g1,g2,g3⟩:=h.obs l0 ob b hl hlive hb
  have hrl:row.length=ob.sz:=g2 row AQ6
  have hcr:∀ (j:Nat) (c:Cl),row[j]?=some c→∃ y,cs[i*ob.sz+j]?=some y∧RdB w St s.st β c y:=fun j c hj=>g3 _ c (G8 g2 i j row c AQ2 hj)
  have hvs:∃ vs:List Value,vs.length=row.length∧∀ (j:Nat),j<row.length→vs[j]?=cs[i*ob.sz+j]?:=by
   refine⟨(List.range row.length).map fun j=>(cs[i*ob.sz+j]?).getD Go.undef,AQ3,fun j hj=>?_⟩
   obtain⟨y,hy,_⟩:=hcr j _ (aC hj)
   simp[hj,hy]
  obtain⟨vs,hv1,hv2⟩:=hvs
  have hnow:∀ (j:Nat) (c:Cl),row[j]?=some c→G7 c=false:=by
   have gen:∀ (xs ys:List Cl) (us:List Nat) (K:List Nat→Prop),OwnL s.st xs ys us K→∀ (j:Nat) (c:Cl),xs[j]?=some c→G7 c=false:=by
    intro xs
    induction xs with
    | nil=>grind
    | cons x xs ih =>
     intro ys us K ho j c hj
     cases ys with
     | nil=>simp[OwnL] at ho
     | cons y ys =>
      have pl:x=y∧AC y=true∧OwnL s.st xs ys us K→G7 c=false:=by
       rintro⟨rfl,hp,hrest⟩
       cases j with
       | zero=>grind [aX,ai,MV]
       | succ j=>grind
      cases y with
      | v z=>exact pl ARI
      | sl z=>exact pl ARI
      | ref z=>exact pl ARI
      | ow ty sz zs =>
       simp only[OwnL] at ho
       split at ho
       ·rename_i l
        split at ho
        ·exact AQb
        grind
       ·exact AQb
       grind
   exact gen row row' [l0] _ ho
  obtain⟨used1,Φ,r1,r2,r3,r4,r5,r6⟩:=tV h hφ row row' vs [l0] _ hv1 (fun j c hj=>by
   obtain⟨y,hy,hr⟩:=hcr j c hj
   exact⟨y,AQ6,hr.toC (hnow j c hj)⟩) ho
  have hset:∀ x∈R.set i row',x.length=ob.sz:=fun x hx=>by
   grind
  refine⟨cs,g1,hrl,by rw[r3,hrl],hset,used1,Φ,r1,fun j c hj=>?_,fun k x hx=>?_,r6,fun k c hk=>?_⟩
  ·grind
  ·grind
  ·obtain⟨i',j,x,q1,q2,q3,q4⟩:=yw hset hk
   grind [AKP,G8]
 exact {
  defers:=h.defers
  size:=h.size
  lim:=h.lim
  env:=fun k=>AVR.mono (fun _ _ h=>h) (fun _ _ _=>rfl) hr hp _ _ (h.env k)
  below:=h.below,st0:=h.st0,stOld:=h.stOld,stIn:=h.stIn
  obs:=fun l o2 b h2 hlv hβ=>by
   obtain⟨hlt,⟨rfl,rfl⟩ | ⟨hne,h3⟩⟩:=hget l o2 h2 hlv
   ·obtain⟨q1,q2,_⟩:=h.obs l ob b hl hlive hβ
    obtain⟨cs,g1,g2,g3,g4,used1,Φ,r1,r2,r3,r4,r5⟩:=hβcases b hβ
    refine⟨q1,q2,cs,g1,g4,fun k c hk=>?_⟩
    rcases r5 k c hk with ⟨j,hj,rfl,hc⟩ | ⟨_,hc⟩
    ·obtain⟨y,hy,hr⟩:=r2 j c hc
     exact⟨y,hy,hr.toB⟩
    ·obtain⟨_,_,cs',p1,p2,p3⟩:=h.obs l ob b hl hlive hβ
     grind
   ·obtain⟨q1,q2,cs,g1,g2,g3⟩:=h.obs l o2 b h3 hlv hβ
    exact AQT
  nil:=fun l o2 h2 hlv hβ=>by
   obtain⟨hlt,⟨rfl,rfl⟩ | ⟨hne,h3⟩⟩:=hget l o2 h2 hlv
   ·have:=h.nil l ob hl hlive hβ
    grind
   ·exact h.nil l o2 h3 hlv hβ
  inj:=fun l l' o1 o2 b h1 h2 h3 h4 h5 h6=>by
   have key:∀ (l:Nat) (o1:Ob),(Dl used l0 i row' ob s.st)[l]?=some o1→o1.live=true→∃ o,s.st[l]?=some o∧o.live=true:=by
    intro l o1 h1 h3
    obtain⟨_,⟨rfl,rfl⟩ | ⟨_,q⟩⟩:=hget l o1 h1 h3
    ·grind
    ·grind
   exact APY
  sep:=fun l o2 b o h2 hlv hβ hbo=>by
   obtain⟨hlt,⟨rfl,rfl⟩ | ⟨hne,h3⟩⟩:=hget l o2 h2 hlv
   ·have:=h.sep l ob b o hl hlive hβ hbo
    grind
   ·exact h.sep l o2 b o h3 hlv hβ hbo
  own:=by
   cases hβ0:β l0 with
   | none =>
    have:=h.nil l0 ob hl hlive hβ0
    grind
   | some b0 =>
    obtain⟨cs,g1,g2,g3,g4,used1,Φ,r1,r2,r3,r4,r5⟩:=hβcases b0 hβ0
    have hΦN:∀ k x,Φ k x→∃ l,l∈used∧Fp s.st β φ l x∧∀ o2,s.st[l]?=some o2→o2.wr=true:=fun k x hx=>by
     grind
    refine⟨fun l k x=>(l=l0∧∃ j,j<ob.sz∧k=i*ob.sz+j∧Φ j x)∨(l∉used∧(l=l0→∀ j,j<ob.sz→k≠i*ob.sz+j)∧φ l k x), ?_, ?_, ?_⟩
    ·intro l o2 b k c h2 hlv hβ hk hc
     obtain⟨hlt,⟨rfl,rfl⟩ | ⟨hne,h3⟩⟩:=hget l o2 h2 hlv
     ·rw[hβ0] at hβ
      cases hβ
      rcases r5 k c hk with ⟨j,hj,rfl,hcj⟩ | ⟨hnj,hck⟩
      ·obtain⟨y,hy,hr⟩:=r2 j c hcj
       exact⟨y,by simp[World.cell?,g1,hy],RdO.mono (fun _ _ h=>h) (fun _ _ _=>rfl) c y _ _ (fun x hx=>.inl ⟨rfl,j,hj,rfl,hx⟩) (fun _ _=>rfl) hr⟩
      ·obtain⟨u,hu,hr⟩:=hφ.1 l ob b0 k c hl hlive hβ0 hck hc
       exact⟨u,hu,RdO.mono (fun _ _ h=>h) (fun _ _ _=>rfl) c u _ _ (fun x hx=>.inr ⟨hlt,fun _=>hnj,hx⟩) (fun _ _=>rfl) hr⟩
     ·obtain⟨u,hu,hr⟩:=hφ.1 l o2 b k c h3 hlv hβ hk hc
      exact⟨u,hu,RdO.mono (fun _ _ h=>h) (fun _ _ _=>rfl) c u _ _ (fun x hx=>.inr ⟨hlt,fun e=>absurd e hne,hx⟩) (fun _ _=>rfl) hr⟩
    ·rintro l k x (⟨rfl,j,hj,rfl,hx⟩ | ⟨hlt,hnj,hx⟩)
     ·obtain⟨l2,q1,q2,q3⟩:=hΦN j x hx
      obtain⟨t1,t2,t3⟩:=XJ h hφ q2 q3
      obtain⟨o3,p1,_,p2,_⟩:=hmk l ob hl
      refine⟨⟨o3,b0,p1,AQ6,hβ0⟩,t1,fun h=>h,t2,t3,fun l' o2 h2 hlv hb=>?_⟩
      obtain⟨hlt',hcase⟩:=hget l' o2 h2 hlv
      have:Fp s.st β φ l' x:=by
       rcases hcase with ⟨rfl,rfl⟩ | ⟨_,q⟩
       ·exact⟨ob,hl,hlive,.inl hb⟩
       ·exact⟨o2,q,hlv,.inl hb⟩
      have:=Jp h hφ q2 this
      grind
     ·obtain⟨⟨o2,b,p1,p2,p3⟩,q1,q2,q3,q4,q5⟩:=hφ.2.1 l k x hx
      obtain⟨o3,s1,_,s2,_⟩:=hmk l o2 p1
      refine⟨⟨o3,b,s1,AQ6,p3⟩,q1,q2,q3,q4,fun l' o4 h4 hlv=>?_⟩
      grind
    ·rintro l l' k k' x (⟨rfl,j,hj,rfl,hx⟩ | ⟨hlt,hnj,hx⟩) (⟨rfl,j',hj',rfl,hx'⟩ | ⟨hlt',hnj',hx'⟩)
     ·grind
     ·obtain⟨l2,q1,q2,_⟩:=hΦN j x hx
      obtain⟨⟨o2,b,p1,p2,p3⟩,_⟩:=hφ.2.1 l' k' x hx'
      have:=Jp h hφ q2 ⟨o2,p1,p2,.inr ⟨k',hx'⟩⟩
      grind
     ·obtain⟨l2,q1,q2,_⟩:=hΦN j' x hx'
      obtain⟨⟨o2,b,p1,p2,p3⟩,_⟩:=hφ.2.1 l k x hx
      have:=Jp h hφ q2 ⟨o2,p1,p2,.inr ⟨k,hx⟩⟩
      grind
     grind }
theorem ABk {l N:Nat} (h:N≤l) (st:List Ob):(KZ l st).take N=st.take N:=by
 unfold KZ
 split
 ·rw[List.take_set_of_le h]
 ·rfl
theorem jO {N:Nat}:∀ (used:List Nat) (_:∀ l∈used,N≤l) (st:List Ob),(ZY used st).take N=st.take N
 | [],_,st=>rfl
 | l::ls,h,st=>by rw[ZY,jO ls (fun x hx=>h x ARS),ABk (h l AQ3)]
theorem OwnL.mono {st:List Ob}:∀ (xs ys:List Cl) (us:List Nat) (K K':List Nat→Prop),(∀ us',(∀ l∈us',l∈us∨l<st.length)→K us'→K' us')→OwnL st xs ys us K→OwnL st xs ys us K'
 | [],[],us,K,K',h,ho=>h us (fun l hl=>.inl hl) ho
 | [],y::ys,_,_,_,_,ho=>by cases y<;>simp[OwnL] at ho
 | x::xs,[],_,_,_,_,ho=>ASW
 | x::xs,y::ys,us,K,K',h,ho=>by
  cases y with
  | ow ty sz zs =>
   cases x with
   | ref l =>
    simp only[OwnL] at ho ⊢
    split at ho
    ·rename_i ob hob
     obtain⟨h1,h2,h3,h4,h5,h6,h7⟩:=ho
     have hl:l<st.length:=by
      obtain⟨hl,_⟩:=Ci hob
      exact(aP.1 hl).1
     exact⟨h1,h2,h3,h4,h5,h6,OwnL.mono xs ys _ K K' (fun us' hu hk=>h us' (fun m hm=>by
      rcases hu m hm with q | q
      ·rcases Rx.1 q with rfl | q
       ·exact .inr hl
       ·exact .inl q
      ·exact .inr q) hk) h7⟩
    ·exact ho.elim
   | v x =>
    cases x with
    | slice a n c =>
     cases a with
     | none =>
      match n,c,ho with
      | 0,0,ho=>simp only[OwnL] at ho ⊢; exact⟨ho.1,OwnL.mono xs ys us K K' h ho.2⟩
      | 0,c+1,ho=>simp[OwnL] at ho
      | n+1,_,ho=>simp[OwnL] at ho
     | some a=>simp[OwnL] at ho
    | _=>simp[OwnL] at ho
   | _=>simp[OwnL] at ho
  | v y=>simp only[OwnL] at ho ⊢; exact⟨ho.1,ho.2.1,OwnL.mono xs ys us K K' h ho.2.2⟩
  | sl y=>simp only[OwnL] at ho ⊢; exact⟨ho.1,ho.2.1,OwnL.mono xs ys us K K' h ho.2.2⟩
  | ref y=>simp only[OwnL] at ho ⊢; exact⟨ho.1,ho.2.1,OwnL.mono xs ys us K K' h ho.2.2⟩
def PR (P:Program) (s:MS):List ResultVar→Option (List AV)
 | []=>some []
 | .tmp t::r=>if t<1000000 then match PR P s r with
  | some xs=>some (CV s.env t::xs)
  | none=>none
  else none
 | .cell t T::r=>if t<1000000 then match JJ P s (.load T (.tmp t)),PR P s r with
  | some x,some xs=>some (x::xs)
  | _,_=>none
  else none
def QG (st:List Ob):List AV→List Res→List Nat→Prop
 | [],[],_=>True
 | _::xs,.val _::rs,us=>QG st xs rs us
 | x::xs,.own ty sz ys wr::rs,us=>match x with
  | .c (.ref l)=>match EH st l with
   | some ob=>ob.ty=ty∧ob.sz=sz∧ob.xs=ys∧(wr=true→ob.wr=true)∧D7 ys=true∧l∉us∧QG st xs rs (l::us)
   | none=>False
  | .c (.v (.slice none 0 0))=>ys = []∧QG st xs rs us
  | _=>False
 | x::xs,.agg ys::rs,us=>match x with
  | .agg zs=>OwnL st zs ys us fun us'=>QG st xs rs us'
  | _=>False
 | _,_,_=>False
def TP (st:List Ob):List AV→List Res→(List Ob→Prop)→Prop
 | [],[],K=>K st
 | x::xs,.val y::rs,K=>match fzA st x with
  | some (y',st')=>y'=y∧TP st' xs rs K
  | none=>False
 | _::xs,.own _ _ _ _::rs,K=>TP st xs rs K
 | _::xs,.agg _::rs,K=>TP st xs rs K
 | _,_,_=>False
def Post (P:Program) (vars:List ResultVar) (rs:List Res) (s:MS):Prop:=match PR P s vars with
 | some xs=>TP s.st xs rs fun st=>QG st xs rs []
 | none=>False
theorem jP {w':World} {St':Nat→Nat→Prop} {st st':List Ob} {β':Nat→Option Nat} (hA:∀ x u,AVR w St st β x u→AVR w' St' st' β' x u):∀ {xs:List AV} {us:List Value},AVRs w St st β xs us→AVRs w' St' st' β' xs us
 | [],us,h=>ASO
 | x::xs,us,h=>by
  simp only[AVRs] at h ⊢
  obtain⟨y,ys,h1,h2,h3⟩:=h
  exact⟨y,ys,h1,hA x y h2,jP hA h3⟩
theorem XY:∀ (xs:List AV) (rs:List Res) (us:List Value) (st:List Ob) (St:Nat→Nat→Prop) (K:List Ob→Prop),Core w0 St0 St β ⟨s.n,s.env,st⟩ a w→AVRs w St st β xs us→TP st xs rs K →
  ∃ st' St',K st'∧Core w0 St0 St' β ⟨s.n,s.env,st'⟩ a w∧(∀ b o,St b o→St' b o)∧(∀ x u,AVR w St st β x u→AVR w St' st' β x u) ∧
   (∀ (j:Nat) (y:AV),rs[j]?=some (.val y)→∃ u,us[j]?=some u∧RdA w St' y u)
 | [],rs,us,st,St,K,h,hx,hv=>by
  cases rs with
  | nil=>exact⟨st,St,hv,h,fun _ _ h=>h,fun _ _ h=>h,fun j y hj=>by simp at hj⟩
  | cons r rs=>cases r<;>simp[TP] at hv
 | x::xs,rs,us,st,St,K,h,hx,hv=>by
  cases rs with
  | nil=>simp[TP] at hv
  | cons r rs =>
   simp only[AVRs] at hx
   obtain⟨u,us',rfl,h1,h2⟩:=hx
   cases r with
   | val y =>
    simp only[TP] at hv
    split at hv
    ·rename_i y' st1 hf
     obtain⟨rfl,hv⟩:=hv
     obtain⟨St1,q1,q2,q3,q4⟩:=AGJ h hf
     have hm:=Ve (w:=w) (w':=w) (β:=β) (St:=St) (St':=St1) fun l ob hl=>ACn hf hl
     have hA:∀ x u,AVR w St st β x u→AVR w St1 st1 β x u:=fun x u hx=>AVR.mono q2 (fun _ _ _=>rfl) q3 hm x u hx
     obtain⟨st',St',r1,r2,r3,r4,r5⟩:=XY xs rs us' st1 St1 K q1 (jP hA h2) hv
     refine⟨st',St',r1,r2,fun b o hbo=>r3 b o (q2 b o hbo),fun x u hx=>r4 x u (hA x u hx),fun j z hj=>?_⟩
     cases j with
     | zero =>
      simp only[aX,ai,Res.val.injEq] at hj
      subst hj
      exact⟨u,rfl,(q4 u h1).mono r3 (fun _ _ _=>rfl)⟩
     | succ j=>grind
    grind
   | own ty sz ys wr =>
    exact AQB
   | agg ys =>
    exact AQB
section owns
variable {φ:Nat→Nat→Nat→Prop}
theorem yz (h:Core w0 St0 St β s a w) (hφ:Z9 w0 w St s.st β φ) (hno:∀ x,¬ w0.own x):∀ (xs:List AV) (rs:List Res) (us:List Value) (used:List Nat),AVRs w St s.st β xs us→QG s.st xs rs used →
  (∀ (j:Nat) (y:AV),rs[j]?=some (.val y)→∃ u,us[j]?=some u∧RdA w St y u) →
  ∃ bs Φs,ResR w St w0.heap.size rs us bs Φs∧FpOk w St w0.heap.size bs Φs ∧
   (∀ (i b:Nat),bs[i]?=some (some b)→∃ l ob,s.st[l]?=some ob∧ob.live=true∧β l=some b∧l∉used) ∧
   ∀ (i:Nat) (Φ:Nat→Nat→Prop) (k x:Nat),Φs[i]?=some Φ→Φ k x→∃ l,l∉used∧Fp s.st β φ l x
 | [],rs,us,used,hx,ho,hv=>by
  cases rs with
  | nil =>
   simp only[AVRs] at hx
   subst hx
   exact⟨[],[],⟨rfl,rfl,rfl⟩,⟨fun i j b hi=>by simp at hi,fun i Φ k x hi=>by simp at hi,fun i i' Φ Φ' k k' x hi=>by simp at hi⟩,fun i b hi=>by simp at hi,fun i Φ k x hi=>by simp at hi⟩
  | cons r rs=>cases r<;>simp[QG] at ho
 | x::xs,rs,us,used,hx,ho,hv=>by
  cases rs with
  | nil=>simp[QG] at ho
  | cons r rs =>
   simp only[AVRs] at hx
   obtain⟨u,us',rfl,h1,h2⟩:=hx
   have hv':∀ (j:Nat) (y:AV),rs[j]?=some (.val y)→∃ u,us'[j]?=some u∧RdA w St y u:=fun j y hj=>by
    simpa using hv (j+1) y AQ6
   have cons:∀ (used1:List Nat) (b:Option Nat) (Φ:Nat→Nat→Prop),(∀ l∈used,l∈used1)→Res1 w St w0.heap.size r u b Φ→QG s.st xs rs used1 →
     (∀ b0,b=some b0→∃ l ob,s.st[l]?=some ob∧ob.live=true∧β l=some b0∧l∉used∧l∈used1) →
     (∀ k x,Φ k x→∃ l,l∉used∧l∈used1∧Fp s.st β φ l x∧w0.may x∧x<w.heap.size∧(∀ o,¬ St x o)∧b≠some x)→(∀ k k' x,Φ k x→Φ k' x→k=k') →
     ∃ bs Φs,ResR w St w0.heap.size (r::rs) (u::us') bs Φs∧FpOk w St w0.heap.size bs Φs∧(∀ (i b:Nat),bs[i]?=some (some b)→∃ l ob,s.st[l]?=some ob∧ob.live=true∧β l=some b∧l∉used) ∧
      ∀ (i:Nat) (Φ:Nat→Nat→Prop) (k x:Nat),Φs[i]?=some Φ→Φ k x→∃ l,l∉used∧Fp s.st β φ l x:=by
    intro used1 b Φ hu hr hrest hb hΦ hdis
    obtain⟨bs,Φs,q1,q2,q3,q4⟩:=yz h hφ hno xs rs us' used1 h2 hrest hv'
    refine⟨b::bs,Φ::Φs,⟨u,us',b,bs,Φ,Φs,rfl,rfl,rfl,hr,q1⟩,⟨fun i j b0 hi hj=>?_,fun i Ψ k x hi hk=>?_,fun i i' Ψ Ψ' k k' x hi hi' hk hk'=>?_⟩,fun i b0 hi=>?_,fun i Ψ k x hi hk=>?_⟩
    ·have hclash:∀ m b1,b=some b1→bs[m]?=some (some b1)→False:=fun m b1 hb1 hm=>by
      obtain⟨l,ob,p1,p2,p3,p4,p5⟩:=hb b1 hb1
      obtain⟨l2,ob2,k1,k2,k3,k4⟩:=q3 m b1 hm
      have:=h.inj l l2 ob ob2 b1 p1 k1 p2 k2 p3 k3
      grind
     cases i with
     | zero =>
      grind
     | succ i =>
      cases j with
      | zero =>
       grind
      | succ j=>have:=q2.nodup i j b0 AQ6 AQ6; omega
    ·cases i with
     | zero =>
      simp only[aX,ai] at hi
      subst hi
      obtain⟨l,p1,p2,p3,p4,p5,p6,p7⟩:=hΦ k x hk
      refine⟨p4.resolve_right (hno _),p5,p6,fun j hj=>?_⟩
      cases j with
      | zero=>grind
      | succ j =>
       obtain⟨l2,ob2,k1,k2,k3,k4⟩:=q3 j x AQ6
       have:=Jp h hφ p3 ⟨ob2,k1,k2,.inl k3⟩
       grind
     | succ i =>
      obtain⟨g1,g2,g3,g4⟩:=q2.fresh i Ψ k x AQ6 hk
      refine⟨g1,g2,g3,fun j hj=>?_⟩
      cases j with
      | zero =>
       simp only[aX,ai] at hj
       obtain⟨l,ob,p1,p2,p3,p4,p5⟩:=hb x hj
       obtain⟨l2,k1,k2⟩:=q4 i Ψ k x AQ6 hk
       have:=Jp h hφ ⟨ob,p1,p2,.inl p3⟩ k2
       grind
      | succ j=>grind
    ·have hx2:∀ (m:Nat) (Ψ:Nat→Nat→Prop) (k k' x:Nat),Φ k x→Φs[m]?=some Ψ→Ψ k' x→False:=fun m Ψ k k' x hk hm hk'=>by
      obtain⟨l,p1,p2,p3,_⟩:=hΦ k x hk
      obtain⟨l2,k1,k2⟩:=q4 m Ψ k' x hm hk'
      grind [Jp]
     cases i with
     | zero =>
      simp only[aX,ai] at hi
      subst hi
      cases i' with
      | zero =>
       simp only[aX,ai] at hi'
       subst hi'
       grind
      | succ i'=>exact(hx2 i' Ψ' k k' x hk AQ6 hk').elim
     | succ i =>
      cases i' with
      | zero =>
       simp only[aX,ai] at hi'
       subst hi'
       exact(hx2 i Ψ k' k x hk' AQ6 hk).elim
      | succ i' =>
       have:=q2.dis i i' Ψ Ψ' k k' x AQ6 AQ6 hk hk'
       omega
    ·grind
    ·cases i with
     | zero =>
      simp only[aX,ai] at hi
      subst hi
      grind
     | succ i =>
      obtain⟨l,p1,p2⟩:=q4 i Ψ k x AQ6 hk
      grind
   cases r with
   | val y =>
    obtain⟨u2,hu2,hr⟩:=hv 0 y rfl
    simp only[aX,ai] at hu2
    subst hu2
    exact cons used none (fun _ _=>False) (fun _ h=>h) ⟨hr,rfl⟩ (by simpa only[QG] using ho) (fun b0 h=>AR0) (fun _ _ h=>h.elim) (fun _ _ _ h=>h.elim)
   | agg ys =>
    simp only[QG] at ho
    split at ho
    ·rename_i zs
     simp only[AVR] at h1
     obtain⟨vs,rfl,hl,hc⟩:=h1
     obtain⟨used',Φ,r1,r2,r3,r4,r5,r6⟩:=tV h hφ zs ys vs used _ hl hc ho
     refine cons used' none Φ r2 ⟨rfl,vs,rfl,AQ2,r4⟩ r1 (fun b0 h=>AR0) (fun k x hx=>?_) r6
     grind [XJ]
    grind
   | own ty sz ys wr =>
    simp only[QG] at ho
    split at ho
    ·rename_i l
     split at ho
     ·rename_i ob hob
      obtain⟨rfl,rfl,rfl,hwr,hp,hnu,ho⟩:=ho
      obtain⟨hl,hlive⟩:=Ci hob
      simp only[AVR,RdC,BZ,hl] at h1
      have h1':=h1.2 hlive
      cases hβ:β l with
      | none =>
       simp only[hβ] at h1'
       exact cons (l::used) none (fun _ _=>False) (fun l' hl'=>by simp[hl']) h1' ho (fun b0 h=>AR0) (fun _ _ h=>h.elim) (fun _ _ _ h=>h.elim)
      | some b0 =>
       simp only[hβ] at h1'
       obtain⟨cap,cs,e1,e2,e3,e4,e5⟩:=h1'
       obtain⟨g1,g2,cs',g3,g4,g5⟩:=h.obs l ob b0 hl hlive hβ
       refine cons (l::used) (some b0) (φ l) (fun l' hl'=>by simp[hl']) ⟨g1.resolve_right (hno _),g2,g4,fun o hbo=>?_,cap,cs,e1,e2,e3,e4,e5,iy h hφ hl hlive hβ hp e4⟩ ho (fun b1 h=>AQ6) (fun k x hx=>?_) (fun k k' x hx hx'=>(hφ.2.2 l l k k' x hx hx').2)
       ·have:=h.sep l ob b0 o hl hlive hβ hbo
        grind
       ·have hf:=(hφ.2.1 l k x hx).2
        refine⟨l,hnu,AQ3,⟨ob,hl,hlive,.inr ⟨k,hx⟩⟩,hf.1,hf.2.2.1,hf.2.2.2.1,fun e=>?_⟩
        cases e
        exact hf.2.2.2.2 l ob hl hlive hβ
     grind
    ·obtain⟨rfl,ho⟩:=ho
     obtain⟨hu,_⟩:=QF h1
     exact cons used none (fun _ _=>False) (fun _ h=>h) ⟨hu,rfl⟩ ho (fun b0 h=>AR0) (fun _ _ h=>h.elim) (fun _ _ _ h=>h.elim)
    grind
end owns
def uA (tmps:Array Value):ResultVar→Sem Value
 | .tmp t=>pure (tmps.getD t Go.undef)
 | .cell t T=>do loadVar T (← asAddr (tmps.getD t Go.undef))
theorem Vj (fn:Func) (tmps:Array Value):results fn tmps=(do
  let vs ← fn.results.mapM (uA tmps)
  pure (if h:vs.size=1 then vs[0] else .tuple vs)):=by
 unfold results
 congr 1
theorem TQ (h:Core w0 St0 St β s a w):∀ (vars:List ResultVar) (xs:List AV),PR P s vars=some xs →
  ∃ us,AVRs w St s.st β xs us∧(vars.mapM (uA a.tmps)).run P w = .ok us w
 | [],xs,hr=>by
  simp only[PR,ai] at hr
  subst hr
  exact⟨[],by simp[AVRs],AQ3⟩
 | .tmp t::vars,xs,hr=>by
  simp only[PR] at hr
  split at hr
  rotate_left
  ·cases hr
  rename_i ht
  split at hr
  ·rename_i ys hys
   simp only[ai] at hr
   subst hr
   obtain⟨us,h1,h2⟩:=TQ h vars ys hys
   refine⟨a.tmps.getD t Go.undef::us,by simp only[AVRs]; exact⟨_,_,rfl,by rw[← Wy (w0:=w0) ht]; exact h.env t,h1⟩, ?_⟩
   simp only[List.mapM_cons,uA,Sem.run_bind,Sem.run_pure,Result.andThen_ok,h2]
  ·cases hr
 | .cell t T::vars,xs,hr=>by
  simp only[PR] at hr
  split at hr
  rotate_left
  ·cases hr
  rename_i ht
  split at hr
  ·rename_i x ys hx hys
   simp only[ai] at hr
   subst hr
   obtain⟨us,h1,h2⟩:=TQ h vars ys hys
   obtain ⟨v, g1, g2⟩ := sJ (P := P) h { dst := none, op := .load T (.tmp t), type := 0, pos := "", after := #[], guard := none } (by simp [Op.operands, BD, ht]) hx
   refine⟨v::us,by simp only[AVRs]; exact⟨_,_,rfl,g2,h1⟩, ?_⟩
   have hload:(do loadVar T (← asAddr (a.tmps.getD t Go.undef)):Sem Value).run P w = .ok v w:=by
    simp only[execOp,Act.eval,Instr.loadAt,Sem.run_bind] at g1
    generalize a.tmps.getD t Go.undef=z at g1 ⊢
    cases z with
    | pointer ad =>
     cases ad with
     | none=>simp[Instr.sureAddr] at g1
     | some ad =>
      simp only[Instr.sureAddr,Sem.run_pure,Result.andThen_ok,asAddr] at g1 ⊢
      simp only[Sem.run_bind,Sem.run_pure,Result.andThen_ok]
      generalize (loadVar T ad).run P w=r at g1 ⊢
      cases r with
      | ok v2 w2=>simp_all
      | halt hh w2=>simp at g1
    | _=>simp[Instr.sureAddr] at g1
   have hload':(uA a.tmps (.cell t T)).run P w = .ok v w:=hload
   simp_all
  ·cases hr
theorem dW {w0:World} {fn:Func} {rs:List Res} (hs:Sim ⟨w0,fun _=>False,fun _=>Go.undef⟩ St0 s a w) (hp:Post P fn.results.toList rs s):∃ us bs St',(results fn a.tmps).run P w = .ok (YT us) w∧a.defers = []∧Back w0 St0 rs (.returned (YT us)) w us bs St':=by
 obtain⟨St,β,h⟩:=hs
 unfold Post at hp
 split at hp
 ·rename_i xs hxs
  obtain⟨us,h1,h2⟩:=TQ h fn.results.toList xs hxs
  obtain⟨st',St',r1,r2,r3,r4,r5⟩:=XY xs rs us s.st St _ h h1 hp
  obtain⟨φ,hφ⟩:=r2.own
  obtain⟨bs,Φs,o1,o2,_⟩:=yz r2 hφ (fun _ h=>h) xs rs us [] (jP r4 h1) r1 r5
  refine⟨us,bs,St', ?_,h.defers,⟨rfl,h.below.plain,fun b o hbo=>r3 b o (h.st0 b o hbo),fun b o hbo hlt=>r2.stOld b o hbo hlt (fun h=>h),r2.stIn,Φs,o1,o2⟩⟩
  rw[Vj,Sem.run_bind,abA,Sem.run_map,h2]
  simp only[Result.andThen_ok,Sem.run_pure]
  congr 1
  match us with
  | []=>rfl
  | [u]=>rfl
  | u::u2::us=>simp[YT]
 grind
def Ol:List AV→Nat→List (Nat×AV)
 | [],_=>[]
 | x::xs,k=>(k,x)::Ol xs (k+1)
theorem Qz:∀ (xs:List AV) (k i:Nat),CV (Ol xs k) i=if k≤i then xs.getD (i-k) .un else .un
 | [],k,i=>by simp[Ol,CV]
 | x::xs,k,i=>by
  simp only[Ol,CV,Qz xs (k+1) i]
  grind
theorem dX {w:World} {St:Nat→Nat→Prop}:∀ {xs:List AV} {us:List Value},RdAs w St xs us→us.length=xs.length∧∀ (j:Nat) (x:AV),xs[j]?=some x→∃ u,us[j]?=some u∧RdA w St x u
 | [],us,h=>by simp only[RdAs] at h; grind
 | x::xs,us,h=>by
  obtain⟨y,ys,rfl,h1,h2⟩:=h
  obtain⟨q1,q2⟩:=dX h2
  grind
def AIO (P:Program) (vars:List ResultVar) (rs:List Res) (e:Ex) (s:MS):Prop:=match e with
 | .exit _=>False
 | _=>Post P vars rs s
theorem Ctr.mk {f:FuncId} {fn:Func} {c:Code} {args:List AV} {rs:List Res} (hin:CallsIn P f) (hf:P.funcs[f]?=some fn) (hb:fn.body=some c) (hm:P.follows .mixedOrders=true) {n:Nat} (hn:fn.ntmps=n) {vars:Array ResultVar} (hvars:fn.results=vars) (hc:codeOk n c=true) (hlen0:(Nat.ble args.length n&&Nat.ble n 1000000)=true)
  (h:AEN args→vp P c ⟨n,Ol args 0,[]⟩ (AIO P vars.toList rs)):Ctr P f args rs:=by
 subst hn
 subst hvars
 obtain⟨hlen0,hlim0⟩:=Bool.and_eq_true_iff.1 hlen0
 have hlim:fn.ntmps≤1000000:=aa4 hlim0
 have hlen:args.length≤fn.ntmps:=aa4 hlen0
 refine⟨hin,fun w St vs hSt hrd=>?_⟩
 obtain⟨hvl,hva⟩:=dX hrd
 refine calls_of_wp hf hb (wp_mono (ACz (w0:=⟨w,fun _=>False,fun _=>Go.undef⟩) (St0:=St) hm fn.ntmps c hc ⟨fn.ntmps,Ol args 0,[]⟩ _ { tmps:=vs.toArray++Array.replicate (fn.ntmps-vs.toArray.size) Go.undef,defers:=[] } w rfl (h hrd.wf) ⟨St,fun _=>none, ?_⟩) ?_)
 ·exact AHF
 ·rintro e a' w' ⟨ex,s',rfl,hq,_,hs'⟩
  cases ex with
  | exit i=>exact hq.elim
  | normal =>
   obtain⟨us,bs,St',p1,p2,p3⟩:=dW hs' hq
   exact⟨p2,_,p1,us,bs,St',p3⟩
  | ret =>
   obtain⟨us,bs,St',p1,p2,p3⟩:=dW hs' hq
   exact⟨p2,_,p1,us,bs,St',p3⟩
def EndH (P:Program) (vars:List ResultVar) (rs:List Res) (e:Ex) (s:MS):Prop:=match e with
 | .exit _=>False
 | _=>∃ t,Head s t∧Post P vars rs t
theorem AEJ {f:FuncId} {fn:Func} {c:Code} {args:List AV} {rs:List Res} (hin:CallsIn P f) (hf:P.funcs[f]?=some fn) (hb:fn.body=some c) (hm:P.follows .mixedOrders=true) {n:Nat} (hn:fn.ntmps=n) {vars:Array ResultVar} (hvars:fn.results=vars) (hc:codeOk n c=true) (hlen0:(Nat.ble args.length n&&Nat.ble n 1000000)=true)
  (h:AEN args→vp P c ⟨n,Ol args 0,[]⟩ (EndH P vars.toList rs)):Ctr P f args rs:=by
 subst hn
 subst hvars
 obtain⟨hlen0,hlim0⟩:=Bool.and_eq_true_iff.1 hlen0
 have hlim:fn.ntmps≤1000000:=aa4 hlim0
 have hlen:args.length≤fn.ntmps:=aa4 hlen0
 refine⟨hin,fun w St vs hSt hrd=>?_⟩
 obtain⟨hvl,hva⟩:=dX hrd
 refine calls_of_wp hf hb (wp_mono (ACz (w0:=⟨w,fun _=>False,fun _=>Go.undef⟩) (St0:=St) hm fn.ntmps c hc ⟨fn.ntmps,Ol args 0,[]⟩ _ { tmps:=vs.toArray++Array.replicate (fn.ntmps-vs.toArray.size) Go.undef,defers:=[] } w rfl (h hrd.wf) ⟨St,fun _=>none, ?_⟩) ?_)
 ·exact AHF
 ·rintro e a' w' ⟨ex,s',rfl,hq,_,hs'⟩
  cases ex with
  | exit i=>exact hq.elim
  | normal =>
   exact AOf
  | ret =>
   exact AOf
theorem Core.tell (h:Core w0 St0 St β s a w) (i:Nat) {x:AV} (hx:AVR w St s.st β x (nm w0 a i)):Core w0 St0 St β ⟨s.n,(i,x)::s.env,s.st⟩ a w:=
 have he:∀ j,AVR w St s.st β (CV ((i,x)::s.env) j) (nm w0 a j):=fun j=>by
  simp only[CV]
  by_cases e:i=j
  ·grind
  ·simpa [e] using h.env j
 { h with env:=he }
theorem AC0 {St':Nat→Nat→Prop}:∀ {xs:List AV} {us:List Value},xs.all isV=true→RdAs w St xs us→RdAs w St' xs us
 | [],us,_,h=>h
 | x::xs,us,hx,h=>by
  simp only[aW,az] at hx
  obtain⟨y,ys,h1,h2,h3⟩:=h
  refine⟨y,ys,h1, ?_,AC0 hx.2 h3⟩
  cases x with
  | c c =>
   cases c with
   | v v=>exact h2
   | _=>simp[isV] at hx
  | _=>simp[isV] at hx
theorem AGn {g:Bool} {zs:List Cl} {us:List Value} {st:List Ob} (hg:g=true∨zs.length=1) (hg2:g=true∨us.length=1) (h:AVR w St st β (mkA g zs) (mkV g us)) :
  us.length=zs.length∧∀ (k:Nat) (c:Cl),zs[k]?=some c→∃ y,us[k]?=some y∧RdC w St st β c y:=by
 cases g with
 | true =>
  simp only[mkA,bH,AVR,mkV] at h
  grind
 | false =>
  have hz:zs.length=1:=by simpa using hg
  have hu:us.length=1:=by simpa using hg2
  match zs,us,hz,hu with
  | [z],[u],_,_ =>
   simp only[mkA,mkV,ay,aY,AVR,List.headD_cons] at h
   grind
theorem AKQ {g:Bool} {zs:List Cl} {us:List Value} {st:List Ob} (hl:us.length=zs.length) (hg:g=true∨zs.length=1) (h:∀ (k:Nat) (c:Cl),zs[k]?=some c→∃ y,us[k]?=some y∧RdC w St st β c y):AVR w St st β (mkA g zs) (mkV g us):=by
 cases g with
 | true =>
  simp only[mkA,bH,AVR,mkV]
  grind
 | false =>
  have hz:zs.length=1:=by simpa using hg
  match zs,us,hz,hl with
  | [z],[u],_,_ =>
   simp only[mkA,mkV,ay,aY,AVR,List.headD_cons]
   grind [aX,ai]
def AC1 (P:Program) (vars:List ResultVar) (g:Bool) (us:List Value) (Q:List Cl→List AV→Prop) (s:MS):Prop:=
 ∃ zs cl' rs,CV s.env 0 = .pin (mkA g zs) (mkV g us)∧(g=true∨zs.length=1)∧OwnL s.st zs cl' [] (fun _=>True)∧EP cl'=true∧rs.all isV=true∧PR P s vars=some rs∧Q cl' rs
def AKR (P:Program) (vars:List ResultVar) (g:Bool) (us:List Value) (Q:List Cl→List AV→Prop) (e:Ex) (s:MS):Prop:=match e with
 | .exit _=>False
 | _=>AC1 P vars g us Q s
theorem y7 {w0:World} {fn:Func} {g:Bool} {us:List Value} {Q:List Cl→List AV→Prop} {G:Nat→Nat→Prop} (hg:g=true∨us.length=1) (hs:Sim ⟨w0,fun x=>∃ k,G k x,fun _=>Go.undef⟩ St0 s a w) (hp:AC1 P fn.results.toList g us Q s) :
  ∃ cl' rs rv,Q cl' rs∧(results fn a.tmps).run P w = .ok (YT rv) w∧a.defers = []∧∃ G',Below 0 w0 w∧(∀ k,k<w0.heap.size→(∀ j,¬ G j k)→w.heap[k]?=w0.heap[k]?)∧(∀ k,k<w0.heap.size→bsz w k=bsz w0 k)∧RdAs w St0 rs rv∧RdL2 w St0 cl' us G'∧∀ k x,G' k x→(∃ j,G j x)∨(w0.heap.size≤x∧x<w.heap.size):=by
 obtain⟨St,β,h⟩:=hs
 obtain⟨zs,cl',rs,e0,hg2,ho,hclo,hrs,hret,hQ⟩:=hp
 have he:=h.env 0
 rw[Wy ARJ] at he
 rw[e0] at he
 simp only[AVR] at he
 obtain⟨he1,he2⟩:=he
 rw[he1] at he2
 obtain⟨hul,hur⟩:=AGn hg2 hg he2
 obtain⟨φ,hφ⟩:=h.own
 have hrd:=ACv h hφ ho hul hur
 obtain⟨rv,h1,h2⟩:=TQ h fn.results.toList rs hret
 refine⟨cl',rs,rv,hQ, ?_,h.defers,_,h.below.rest,fun k hk hno=>h.below.blk k hk fun⟨j,hj⟩=>hno j hj,h.below.siz,AC0 hrs (ACo hrs h1),⟨hrd.len,hrd.dis,fun k c hk=>?_⟩, ?_⟩
 ·rw[Vj,Sem.run_bind,abA,Sem.run_map,h2]
  exact APb
 ·obtain⟨y,hy,hr⟩:=hrd.rd k c hk
  grind [RdO.clo,TG,bI]
 ·rintro k x ⟨l,q1,q2⟩
  obtain⟨_,ob,p1,p2,_⟩:=PP zs cl' [] _ ho k l q1
  obtain⟨r1,r2,r3⟩:=XJ h hφ q2 fun ob' hob'=>by
   grind [Ci]
  rcases r1 with r1 | ⟨j,hj⟩
  ·exact .inr ⟨r1,r2⟩
  grind
theorem ACf {f:FuncId} {fn:Func} {c:Code} {g:Bool} {cl:List Cl} {args:List AV} {Q:List Cl→List AV→Prop} (hin:CallsIn P f) (hf:P.funcs[f]?=some fn) (hb:fn.body=some c) (hm:P.follows .mixedOrders=true) {n:Nat} (hn:fn.ntmps=n) {vars:Array ResultVar} (hvars:fn.results=vars) (hc:codeOk n c=true) (hlen0:(Nat.ble (args.length+1) n&&Nat.ble n 1000000)=true)
  (hg:g=true∨cl.length=1)
  (h:∀ us:List Value,YR cl→AEN args→vp P c ⟨n,(0,.pin (mkA g (KD 0 cl)) (mkV g us))::Ol args 1,H7 cl⟩ (AKR P vars.toList g us Q)):MCtr P f g cl args Q:=by
 subst hn
 subst hvars
 obtain⟨hlen0,hlim0⟩:=Bool.and_eq_true_iff.1 hlen0
 have hlim:fn.ntmps≤1000000:=aa4 hlim0
 have hlen:args.length+1≤fn.ntmps:=aa4 hlen0
 refine⟨hin,hg,fun w St us G vs hSt hG hrd hvs=>?_⟩
 obtain⟨hvl,hva⟩:=dX hvs
 have hcore0:Core ⟨w,fun x=>∃ k,G k x,fun _=>Go.undef⟩ St St (fun _=>none) ⟨fn.ntmps,Ol (.un::args) 0,[]⟩ { tmps:=(mkV g us::vs).toArray++Array.replicate (fn.ntmps-(mkV g us::vs).toArray.size) Go.undef,defers:=[] } w:={
  defers:=rfl
  size:=AQ5
  lim:=hlim
  env:=fun i=>by
   rw[ABS AQ5 rfl]
   simp only[Qz,au,bH,vH]
   cases i with
   | zero=>simp only[List.getD_cons_zero,AVR]
   | succ i =>
    simp only[List.getD_cons_succ]
    rcases bZ i args.length with hi | hi
    ·obtain⟨u,hu,hr⟩:=hva i args[i] ASb
     have e1:args.getD i .un=args[i]:=ASb
     have e2:((mkV g us::vs).toArray++Array.replicate (fn.ntmps-(mkV g us::vs).toArray.size) Go.undef).getD (i+1) Go.undef=u:=by
      have hiv:i<vs.length:=AQ2
      simp only[abj]
      rw[aaO AQ6]
      simp[hu]
     rw[e1,e2]
     exact hr.toAVR
    ·have e1:args.getD i .un = .un:=by simp[hi]
     rw[e1]
     simp only[AVR]
  below:=BelowB.refl _ _
  st0:=fun _ _ h=>h
  stOld:=fun _ _ h _ _=>h
  stIn:=hSt
  obs:=fun l ob b hl=>ASN
  nil:=fun l ob hl=>ASN
  inj:=fun l l' ob ob' b hl=>ASN
  sep:=fun l ob b o hl=>ASN
  own:=⟨fun _ _ _=>False,fun l ob b k c hl=>ASN,fun _ _ _ h=>h.elim,fun _ _ _ _ _ h=>h.elim⟩ }
 have hN:Own ⟨w,fun x=>∃ k,G k x,fun _=>Go.undef⟩ (fun x=>∃ k,G k x) w St [] (fun _=>none):=⟨fun _ _ _=>False,fun l ob b k c hl=>ASN,fun _ _ _ h=>h.elim,fun _ _ _ _ _ h=>h.elim⟩
 obtain⟨β',q1,q2,q3,q4,q5,q6⟩:=XI (s:=⟨fn.ntmps,Ol (.un::args) 0,[]⟩) cl us G [] (fun _=>none) _ hcore0 hN hrd.len hrd.rd (fun k x hx=>⟨⟨k,hx⟩,.inr ⟨k,hx⟩,(hG k x hx).1,(hG k x hx).2,fun l o2 hl=>ASN⟩) hrd.dis
 simp only[aG,bV] at q1 q3 q4
 have hgu:g=true∨us.length=1:=by rw[hrd.len]; exact hg
 have hval:=AKQ (g:=g) (by rw[q4]; exact hrd.len) AQ6 q3
 have hcore1:=q1.tell 0 (x:=.pin (mkA g (KD 0 cl)) (mkV g us)) (by
  have:((mkV g us::vs).toArray++Array.replicate (fn.ntmps-(mkV g us::vs).toArray.size) Go.undef).getD 0 Go.undef=mkV g us:=by
   simp only[abj]
   rw[aaO AQ3]
   simp
  simp only[AVR]
  rw[Wy ARJ,this]
  exact⟨by first | trivial | rfl,hval⟩)
 have hcore2:=hcore1.congr (s':=⟨fn.ntmps,(0,.pin (mkA g (KD 0 cl)) (mkV g us))::Ol args 1,H7 cl⟩) rfl rfl (fun t=>by
  simp only[CV,Ol]
  grind)
 have hwf:YR cl:=iq cl fun k c hk=>by
  obtain⟨y,_,hr⟩:=hrd.rd k c hk
  exact RdO.wf c y _ hr
 refine calls_of_wp hf hb (wp_mono (ACz (w0:=⟨w,fun x=>∃ k,G k x,fun _=>Go.undef⟩) (St0:=St) hm fn.ntmps c hc _ _ _ w rfl (h us hwf hvs.wf) ⟨St,β',hcore2⟩) ?_)
 rintro e a' w' ⟨ex,s',rfl,hq,_,hs'⟩
 cases ex with
 | exit i=>exact hq.elim
 | normal =>
  exact AQD
 | ret =>
  exact AQD
def uB:List AV→Nat→List (Nat×AV)→List (Nat×AV)
 | [],_,e=>e
 | x::xs,k,e=>(k,x)::uB xs (k+1) e
def shE:List (Nat×AV)→List (Nat×AV)
 | []=>[]
 | (k,x)::r=>(k+1000000,x)::shE r
def unE:List (Nat×AV)→List (Nat×AV)
 | []=>[]
 | (k,x)::r=>if k<1000000 then unE r else(k-1000000,x)::unE r
theorem AC2:∀ e,unE (shE e)=e
 | []=>rfl
 | (k,x)::r=>by simp[shE,unE,AC2 r]
theorem y8:∀ (e:List (Nat×AV)) (i:Nat),CV (shE e) i=if i<1000000 then .un else CV e (i-1000000)
 | [],i=>by simp[shE,CV]
 | (k,x)::r,i=>by
  simp only[shE,CV,y8 r i]
  by_cases h:i<1000000
  ·have:¬ k+1000000=i:=by omega
   simp only[h,this,bH,aY]
  ·by_cases e:k+1000000=i
   ·have:k=i-1000000:=by omega
    simp only[h,e,← this,bH,aY]
   ·have:¬ k=i-1000000:=by omega
    simp only[h,e,this,aY]
theorem jQ:∀ (e:List (Nat×AV)) (i:Nat),CV (unE e) i=CV e (i+1000000)
 | [],i=>rfl
 | (k,x)::r,i=>by
  simp only[unE,CV]
  by_cases h:k<1000000
  ·rw[bG h,bu AQ2]
   exact jQ r i
  ·rw[bu h]
   simp only[CV]
   by_cases e:k=i+1000000
   ·rw[bG AQ2,bG e]
   ·rw[bu AQ2,bu e]
    exact jQ r i
theorem oV:∀ (xs:List AV) (k:Nat) (e:List (Nat×AV)) (i:Nat),CV (uB xs k e) i=if k≤i∧i<k+xs.length then xs.getD (i-k) .un else CV e i
 | [],k,e,i=>by
  have:¬ (k≤i∧i<k+([]:List AV).length):=AQ3
  simp only[uB,this,aY]
 | x::xs,k,e,i=>by
  simp only[uB,CV,oV xs (k+1) e i,bz]
  by_cases h:k=i
  ·subst h; simp
  ·by_cases h2:k+1≤i∧i<k+1+xs.length
   ·have e1:k≤i∧i<k+(xs.length+1):=by omega
    simp only[h,h2,e1,aY,vI,bH]
    rw[show i-k=(i-(k+1))+1 from AQ2,List.getD_cons_succ]
   ·have e1:¬ (k≤i∧i<k+(xs.length+1)):=by omega
    simp only[h,h2,e1,aY]
def Pj (P:Program) (vars:List ResultVar) (m:Nat) (KK:AV→MS→Prop) (e:Ex) (t:MS):Prop:=match e with
 | .exit _=>False
 | _=>match PR P t vars with
  | some xs=>KK (retA xs) ⟨m,unE t.env,t.st⟩
  | none=>False
def AMD (dst:Option Nat) (K:MS→Prop) (x:AV) (t:MS):Prop:=K (t.put dst x)
def AME (st:List Ob) (env:List (Nat×AV)) (r x:AV) (t:MS):Prop:=t.st=st∧t.env=env∧x=r
theorem y9:∀ {xs:List AV} {us:List Value},AVRs w St s.st β xs us→us.length=xs.length
 | [],us,h=>by simp only[AVRs] at h; subst h; rfl
 | x::xs,us,h=>by
  simp only[AVRs] at h
  obtain⟨y,ys,rfl,_,h2⟩:=h
  simp[y9 h2]
theorem oW {f:FuncId} {fn:Func} {c:Code} {args:List AV} {KK:AV→MS→Prop} (hf:P.funcs[f]?=some fn) (hb:fn.body=some c) (hm:P.follows .mixedOrders=true) {n:Nat} (hn:fn.ntmps=n) {vars:Array ResultVar} (hvars:fn.results=vars) (hc:codeOk n c=true)
  (hlen0:(Nat.ble args.length n&&Nat.ble n 1000000)=true) (h:vp P c ⟨n,uB args 0 (shE s.env),s.st⟩ (Pj P vars.toList s.n KK)) {us:List Value} (hcore:Core w0 St0 St β s a w) (hargs:AVRs w St s.st β args us) :
  Calls P f us.toArray w fun e w'=>∃ u,e = .returned u∧∃ (t:MS) (x:AV),t.n=s.n∧KK x t∧∃ St' β',Core w0 St0 St' β' t a w'∧AVR w' St' t.st β' x u:=by
 subst hn
 subst hvars
 obtain⟨hlen0,hlim0⟩:=Bool.and_eq_true_iff.1 hlen0
 have hlim:fn.ntmps≤1000000:=aa4 hlim0
 have hlen:args.length≤fn.ntmps:=aa4 hlen0
 have hul:=y9 hargs
 have hua:=sG hargs
 have hcore2:Core ⟨w0.w,w0.own,nm w0 a⟩ St0 St β ⟨fn.ntmps,uB args 0 (shE s.env),s.st⟩ { tmps:=us.toArray++Array.replicate (fn.ntmps-us.toArray.size) Go.undef,defers:=[] } w:={
  defers:=rfl
  size:=AQ5
  lim:=hlim
  env:=fun i=>by
   rw[oV,y8]
   by_cases hi:i<args.length
   ·obtain⟨u,hu,hr⟩:=hua i args[i] ASb
    have e1:args.getD (i-0) .un=args[i]:=ASb
    have e2:(us.toArray++Array.replicate (fn.ntmps-us.toArray.size) Go.undef).getD i Go.undef=u:=by
     have hiv:i<us.length:=AQ2
     simp only[abj]
     rw[aaO (by simpa using hiv)]
     simp[hu]
    rw[bG ⟨au _,AQ2⟩,Wy AQ2,e1,e2]
    exact hr
   ·rw[bu AQ2]
    by_cases h2:i<1000000
    ·rw[bG h2]; simp only[AVR]
    ·rw[bu h2]
     rw[AI2 h2]
     generalize i-1000000=j
     exact hcore.env j
  below:=⟨hcore.below.rest,hcore.below.blk,hcore.below.siz⟩
  st0:=hcore.st0
  stOld:=hcore.stOld
  stIn:=hcore.stIn
  obs:=hcore.obs
  nil:=hcore.nil
  inj:=hcore.inj
  sep:=hcore.sep
  own:=hcore.own }
 refine calls_of_wp hf hb (wp_mono (ACz (w0:=⟨w0.w,w0.own,nm w0 a⟩) (St0:=St0) hm fn.ntmps c hc _ _ _ w rfl h ⟨St,β,hcore2⟩) ?_)
 rintro e a' w' ⟨ex,s',rfl,hq,_,St1,β1,h1⟩
 have key:∀ xs,PR P s' fn.results.toList=some xs→KK (retA xs) ⟨s.n,unE s'.env,s'.st⟩→∃ v,(results fn a'.tmps).run P w' = .ok v w'∧∃ (t:MS) (x:AV),t.n=s.n∧KK x t∧∃ St' β',Core w0 St0 St' β' t a w'∧AVR w' St' t.st β' x v:=fun xs hxs hK=>by
  obtain⟨rv,g1,g2⟩:=TQ h1 fn.results.toList xs hxs
  refine⟨YT rv, ?_,⟨s.n,unE s'.env,s'.st⟩,retA xs,rfl,hK,St1,β1, ?_,PL g1⟩
  ·rw[Vj,Sem.run_bind,abA,Sem.run_map,g2]
   exact APb
  ·exact {
    defers:=hcore.defers
    size:=hcore.size
    lim:=hcore.lim
    env:=fun i=>by
     have:=h1.env (i+1000000)
     rw[← jQ] at this
     have e:nm ⟨w0.w,w0.own,nm w0 a⟩ a' (i+1000000)=nm w0 a i:=by
      rw[AI2 AQ2,Nat.add_sub_cancel]
     rwa [e] at this
    below:=⟨h1.below.rest,h1.below.blk,h1.below.siz⟩
    st0:=h1.st0
    stOld:=h1.stOld
    stIn:=h1.stIn
    obs:=h1.obs
    nil:=h1.nil
    inj:=h1.inj
    sep:=h1.sep
    own:=h1.own }
 have fin:∀ ex,Pj P fn.results.toList s.n KK ex s'→∃ xs,PR P s' fn.results.toList=some xs∧KK (retA xs) ⟨s.n,unE s'.env,s'.st⟩:=fun ex hq=>by
  cases ex with
  | exit i=>exact hq.elim
  | normal =>
   exact AQs
  | ret =>
   exact AQs
 obtain⟨xs,hxs,hK⟩:=fin ex hq
 obtain⟨v,k1,k2⟩:=key xs hxs hK
 cases ex with
 | exit i=>exact hq.elim
 | normal=>exact⟨h1.defers,_,k1,v,rfl,k2⟩
 | ret=>exact⟨h1.defers,_,k1,v,rfl,k2⟩
theorem AD9 {f:FuncId} {fn:Func} {c:Code} {args:List AV} {dst:Option Nat} {K:MS→Prop} {A B C:Prop} (hin:CallsIn P f) (hf:P.funcs[f]?=some fn) (hb:fn.body=some c) (hm:P.follows .mixedOrders=true) {n:Nat} (hn:fn.ntmps=n) {vars:Array ResultVar} (hvars:fn.results=vars) (hc:codeOk n c=true)
  (hlen0:(Nat.ble args.length n&&Nat.ble n 1000000)=true) (h:vp P c ⟨n,uB args 0 (shE s.env),s.st⟩ (Pj P vars.toList s.n (AMD dst K))):QS A (QS B (QS C (InlK P f s args dst K))):=
 .inr (.inr (.inr ⟨hin,fun w0 St0 St β a w us hcore hargs=>oW hf hb hm hn hvars hc hlen0 h hcore hargs⟩))
theorem AEc {f:FuncId} {fn:Func} {c:Code} {args:List AV} {st st':List Ob} {y:AV} (hin:CallsIn P f) (hf:P.funcs[f]?=some fn) (hb:fn.body=some c) (hm:P.follows .mixedOrders=true) {n:Nat} (hn:fn.ntmps=n) {vars:Array ResultVar} (hvars:fn.results=vars) (hc:codeOk n c=true)
  (hlen0:(Nat.ble args.length n&&Nat.ble n 1000000)=true) (h:∀ (m:Nat) (env:List (Nat×AV)),vp P c ⟨n,uB args 0 (shE env),st⟩ (Pj P vars.toList m (AME st' env y))):InlS P f st args y st':=
 ⟨hin,fun w0 St0 St β s a w us hst hcore hargs=>by
  subst hst
  refine(oW hf hb hm hn hvars hc hlen0 (h s.n s.env) hcore hargs).mono fun e w' hx=>?_
  obtain⟨u,e1,t,x,q1,⟨q2,q3,rfl⟩,St',β',q4,q5⟩:=hx
  subst q2
  have:t=⟨s.n,s.env,t.st⟩:=by rw[← q1,← q3]
  rw[this] at q4
  exact⟨u,e1,St',β',q4,q5⟩⟩
end Go.Vm
