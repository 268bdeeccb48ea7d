/- A part. -/
import Derived.Test.YtnoldekcdlaahaaGreatVmT
set_option linter.unusedSimpArgs false
set_option linter.unusedVariables false
namespace Go.Vm
open Go.RowKit
variable {P:Program} {w0:Bs} {St0 St:Nat→Nat→Prop} {β:Nat→Option Nat} {s:MS} {a:Act} {w:World}
theorem vJ {xs:List (List Cl)} {sz:Nat} (hl:∀ x∈xs,x.length=sz):∀ {k:Nat} {c:Cl},xs.flatten[k]?=some c→∃ (i j:Nat) (x:List Cl),xs[i]?=some x∧x[j]?=some c∧k=i*sz+j∧j<sz:=by
 induction xs with
 | nil=>intro k c h; simp at h
 | cons x xs ih =>
  intro k c h
  have hx:x.length=sz:=hl x AOi
  simp only[dm] at h
  rcases bQ k x.length with h' | h'
  ·rw[bG h'] at h
   exact⟨0,k,x,AOi,h,AOh,AOh⟩
  ·rw[aY h'] at h
   obtain⟨i,j,y,q1,q2,q3,q4⟩:=ih (fun y hy=>hl y AP1) h
   exact⟨i+1,j,y,by simpa using q1,q2,by rw[jH]; omega,q4⟩
theorem AHn {i i' j j' sz:Nat} (hj:j<sz) (hj':j'<sz) (h:i*sz+j=i'*sz+j'):i=i'∧j=j':=by
 have h1:(i*sz+j)/sz=i:=by rw[Nat.mul_comm,Nat.mul_add_div AOh,Nat.div_eq_of_lt hj]; rfl
 have h2:(i'*sz+j')/sz=i':=by rw[Nat.mul_comm,Nat.mul_add_div AOh,Nat.div_eq_of_lt hj']; rfl
 have:i=i':=by rw[← h1,h,h2]
 subst this
 exact⟨rfl,AOh⟩
def EG (l:Nat) (st:List Ob):List Ob:=match st[l]? with
 | some ob=>st.set l ⟨ob.ty,ob.sz,ob.xs,ob.wr,false⟩
 | none=>st
def YR:List Nat→List Ob→List Ob
 | [],st=>st
 | l::ls,st=>YR ls (EG l st)
theorem AES (l:Nat) (st:List Ob) (l':Nat):(EG l st)[l']?=(st[l']?).map fun ob=>if l=l' then⟨ob.ty,ob.sz,ob.xs,ob.wr,false⟩ else ob:=by
 unfold EG
 grind
theorem vK:∀ (ls:List Nat) (st:List Ob) (l':Nat),(YR ls st)[l']?=(st[l']?).map fun ob=>if l'∈ls then⟨ob.ty,ob.sz,ob.xs,ob.wr,false⟩ else ob
 | [],st,l'=>by simp[YR]
 | l::ls,st,l'=>by
  rw[YR,vK ls,AES]
  grind
def Ar (used:List Nat) (l0 i:Nat) (row':List Cl) (ob:Ob) (st:List Ob):List Ob:=YR used (st.set l0 ⟨ob.ty,ob.sz,ob.xs.set i row',ob.wr,ob.live⟩)
theorem Core.closeRow (h:Core w0 St0 St β s a w) {l0 i:Nat} {ob:Ob} {row row':List Cl} {used:List Nat} (hob:DT s.st l0=some ob) (hrw:ob.xs[i]?=some row) (hwr:ob.wr=true) (hl0:l0∉used)
  (ho:OwnL s.st row row' [l0] fun us=>∀ l∈us,l=l0∨l∈used):Core w0 St0 St β ⟨s.n,s.env,Ar used l0 i row' ob s.st⟩ a w:=by
 obtain⟨hl,hlive⟩:=CS hob
 obtain⟨φ,hφ⟩:=h.own
 have hi:i<ob.xs.length:=(aF.1 hrw).1
 obtain⟨R,hR⟩:∃ R,R=ob.xs:=⟨_,rfl⟩
 have hxs:ob.xs=R.set i row:=by
  subst hR
  apply abp
  intro m
  rw[yz]
  by_cases e:i=m
  ·grind
  ·simp[e]
 have hi:i<R.length:=by rw[hR]; exact hi
 have hlN:l0<s.st.length:=(aF.1 hl).1
 have hst0:∀ l,(Ar used l0 i row' ob s.st)[l]?=((if l0=l then some (⟨ob.ty,ob.sz,R.set i row',ob.wr,ob.live⟩:Ob) else s.st[l]?)).map fun o=>if l∈used then⟨o.ty,o.sz,o.xs,o.wr,false⟩ else o:=fun l=>by
  unfold Ar
  grind [vK]
 have hget:∀ (l:Nat) (o2:Ob),(Ar used l0 i row' ob s.st)[l]?=some o2→o2.live=true→l∉used∧((l=l0∧o2=⟨ob.ty,ob.sz,R.set i row',ob.wr,ob.live⟩)∨(l≠l0∧s.st[l]?=some o2)):=by
  intro l o2 h2 hlv
  rw[hst0 l] at h2
  by_cases e:l0=l
  ·grind
  ·grind
 have hmk:∀ (l:Nat) (o2:Ob),s.st[l]?=some o2→∃ o3,(Ar used l0 i row' ob s.st)[l]?=some o3∧(o3.live=true→o2.live=true)∧(l∉used→o3.live=o2.live)∧o3.sz=o2.sz∧o3.ty=o2.ty∧o3.xs.length=o2.xs.length∧(o2.xs = []→o3.xs = []):=by
  intro l o2 h2
  rw[hst0 l]
  by_cases e:l0=l
  ·grind
  ·grind
 have hr:∀ (l:Nat) (u:Value),BN w s.st β l u→BN w (Ar used l0 i row' ob s.st) β l u:=by
  intro l u hu
  unfold BN at hu ⊢
  exact ANI
 have hBB:∀ (c:Cl) (u:Value),RdB w St s.st β c u→RdB w St (Ar used l0 i row' ob s.st) β c u:=fun c u hu=>RdB.mono (fun _ _ h=>h) (fun _ _ _=>rfl) hr c u hu
 have hp:∀ l i2 off u,AVR w St s.st β (.lp l i2 off) u→AVR w St (Ar used l0 i row' ob s.st) β (.lp l i2 off) u:=by
  intro l i2 off u hu
  simp only[AVR] at hu ⊢
  exact ANI
 have hrow:(R.set i row)[i]?=some row:=by rw[yz]; simp[hi]
 have hrow':(R.set i row')[i]?=some row':=by rw[yz]; simp[hi]
 have hβcases:∀ b,β l0=some b→∃ (cs:Array Value),w.heap[b]?=some (.cells cs ob.ty (0,0))∧row.length=ob.sz∧row'.length=ob.sz∧(∀ x∈R.set i row',x.length=ob.sz) ∧
   ∃ (used1:List Nat) (Φ:Nat→Nat→Prop),(∀ l∈used1,l=l0∨l∈used)∧(∀ (j:Nat) (c:Cl),row'[j]?=some c→∃ y,cs[i*ob.sz+j]?=some y∧RdO w St c y (Φ j))∧(∀ k x,Φ k x→∃ l,l≠l0∧l∈used1∧Fp s.st β φ l x∧∀ o2,s.st[l]?=some o2→o2.wr=true) ∧
    (∀ k k' x,Φ k x→Φ k' x→k=k')∧∀ (k:Nat) (c:Cl),(R.set i row').flatten[k]?=some c→(∃ j,j<ob.sz∧k=i*ob.sz+j∧row'[j]?=some c)∨((∀ j,j<ob.sz→k≠i*ob.sz+j)∧ob.xs.flatten[k]?=some c):=by
  intro b hb
  obtain⟨_,_,cs,g1,g2,g3⟩:=h.obs l0 ob b hl hlive hb
  have hrl:row.length=ob.sz:=g2 row AOk
  have hcr:∀ (j:Nat) (c:Cl),row[j]?=some c→∃ y,cs[i*ob.sz+j]?=some y∧RdB w St s.st β c y:=fun j c hj=>g3 _ c (FZ g2 i j row c AOh hj)
  have hvs:∃ vs:List Value,vs.length=row.length∧∀ (j:Nat),j<row.length→vs[j]?=cs[i*ob.sz+j]?:=by
   refine⟨(List.range row.length).map fun j=>(cs[i*ob.sz+j]?).getD Go.undef,AOi,fun j hj=>?_⟩
   obtain⟨y,hy,_⟩:=hcr j _ (au hj)
   simp[hj,hy]
  obtain⟨vs,hv1,hv2⟩:=hvs
  have hnow:∀ (j:Nat) (c:Cl),row[j]?=some c→Gi c=false:=by
   have gen:∀ (xs ys:List Cl) (us:List Nat) (K:List Nat→Prop),OwnL s.st xs ys us K→∀ (j:Nat) (c:Cl),xs[j]?=some c→Gi c=false:=by
    intro xs
    induction xs with
    | nil=>grind
    | cons x xs ih =>
     intro ys us K ho j c hj
     cases ys with
     | nil=>simp[OwnL] at ho
     | cons y ys =>
      have pl:x=y∧AB y=true∧OwnL s.st xs ys us K→Gi c=false:=by
       rintro⟨rfl,hp,hrest⟩
       cases j with
       | zero=>grind [aQ,ak,Lc]
       | succ j=>grind
      cases y with
      | v z=>exact pl AOu
      | sl z=>exact pl AOu
      | ref z=>exact pl AOu
      | ow ty sz zs =>
       simp only[OwnL] at ho
       split at ho
       ·rename_i l
        split at ho
        ·exact AOI
        grind
       ·exact AOI
       grind
   exact gen row row' [l0] _ ho
  obtain⟨used1,Φ,r1,r2,r3,r4,r5,r6⟩:=pI h hφ row row' vs [l0] _ hv1 (fun j c hj=>by
   obtain⟨y,hy,hr⟩:=hcr j c hj
   exact⟨y,AOk,hr.toC (hnow j c hj)⟩) ho
  have hset:∀ x∈R.set i row',x.length=ob.sz:=fun x hx=>by
   grind
  refine⟨cs,g1,hrl,by rw[r3,hrl],hset,used1,Φ,r1,fun j c hj=>?_,fun k x hx=>?_,r6,fun k c hk=>?_⟩
  ·grind
  ·grind
  ·obtain⟨i',j,x,q1,q2,q3,q4⟩:=vJ hset hk
   grind [AHn,FZ]
 exact {
  defers:=h.defers
  size:=h.size
  lim:=h.lim
  env:=fun k=>AVR.mono (fun _ _ h=>h) (fun _ _ _=>rfl) hr hp _ _ (h.env k)
  below:=h.below,st0:=h.st0,stOld:=h.stOld,stIn:=h.stIn
  obs:=fun l o2 b h2 hlv hβ=>by
   obtain⟨hlt,⟨rfl,rfl⟩ | ⟨hne,h3⟩⟩:=hget l o2 h2 hlv
   ·obtain⟨q1,q2,_⟩:=h.obs l ob b hl hlive hβ
    obtain⟨cs,g1,g2,g3,g4,used1,Φ,r1,r2,r3,r4,r5⟩:=hβcases b hβ
    refine⟨q1,q2,cs,g1,g4,fun k c hk=>?_⟩
    rcases r5 k c hk with ⟨j,hj,rfl,hc⟩ | ⟨_,hc⟩
    ·obtain⟨y,hy,hr⟩:=r2 j c hc
     exact⟨y,hy,hr.toB⟩
    ·obtain⟨_,_,cs',p1,p2,p3⟩:=h.obs l ob b hl hlive hβ
     grind
   ·obtain⟨q1,q2,cs,g1,g2,g3⟩:=h.obs l o2 b h3 hlv hβ
    exact AN_
  nil:=fun l o2 h2 hlv hβ=>by
   obtain⟨hlt,⟨rfl,rfl⟩ | ⟨hne,h3⟩⟩:=hget l o2 h2 hlv
   ·have:=h.nil l ob hl hlive hβ
    grind
   ·exact h.nil l o2 h3 hlv hβ
  inj:=fun l l' o1 o2 b h1 h2 h3 h4 h5 h6=>by
   have key:∀ (l:Nat) (o1:Ob),(Ar used l0 i row' ob s.st)[l]?=some o1→o1.live=true→∃ o,s.st[l]?=some o∧o.live=true:=by
    intro l o1 h1 h3
    obtain⟨_,⟨rfl,rfl⟩ | ⟨_,q⟩⟩:=hget l o1 h1 h3
    ·grind
    ·grind
   exact ANC
  sep:=fun l o2 b o h2 hlv hβ hbo=>by
   obtain⟨hlt,⟨rfl,rfl⟩ | ⟨hne,h3⟩⟩:=hget l o2 h2 hlv
   ·have:=h.sep l ob b o hl hlive hβ hbo
    grind
   ·exact h.sep l o2 b o h3 hlv hβ hbo
  own:=by
   cases hβ0:β l0 with
   | none =>
    have:=h.nil l0 ob hl hlive hβ0
    grind
   | some b0 =>
    obtain⟨cs,g1,g2,g3,g4,used1,Φ,r1,r2,r3,r4,r5⟩:=hβcases b0 hβ0
    have hΦN:∀ k x,Φ k x→∃ l,l∈used∧Fp s.st β φ l x∧∀ o2,s.st[l]?=some o2→o2.wr=true:=fun k x hx=>by
     grind
    refine⟨fun l k x=>(l=l0∧∃ j,j<ob.sz∧k=i*ob.sz+j∧Φ j x)∨(l∉used∧(l=l0→∀ j,j<ob.sz→k≠i*ob.sz+j)∧φ l k x), ?_, ?_, ?_⟩
    ·intro l o2 b k c h2 hlv hβ hk hc
     obtain⟨hlt,⟨rfl,rfl⟩ | ⟨hne,h3⟩⟩:=hget l o2 h2 hlv
     ·rw[hβ0] at hβ
      cases hβ
      rcases r5 k c hk with ⟨j,hj,rfl,hcj⟩ | ⟨hnj,hck⟩
      ·obtain⟨y,hy,hr⟩:=r2 j c hcj
       exact⟨y,by simp[World.cell?,g1,hy],RdO.mono (fun _ _ h=>h) (fun _ _ _=>rfl) c y _ _ (fun x hx=>.inl ⟨rfl,j,hj,rfl,hx⟩) (fun _ _=>rfl) hr⟩
      ·obtain⟨u,hu,hr⟩:=hφ.1 l ob b0 k c hl hlive hβ0 hck hc
       exact⟨u,hu,RdO.mono (fun _ _ h=>h) (fun _ _ _=>rfl) c u _ _ (fun x hx=>.inr ⟨hlt,fun _=>hnj,hx⟩) (fun _ _=>rfl) hr⟩
     ·obtain⟨u,hu,hr⟩:=hφ.1 l o2 b k c h3 hlv hβ hk hc
      exact⟨u,hu,RdO.mono (fun _ _ h=>h) (fun _ _ _=>rfl) c u _ _ (fun x hx=>.inr ⟨hlt,fun e=>absurd e hne,hx⟩) (fun _ _=>rfl) hr⟩
    ·rintro l k x (⟨rfl,j,hj,rfl,hx⟩ | ⟨hlt,hnj,hx⟩)
     ·obtain⟨l2,q1,q2,q3⟩:=hΦN j x hx
      obtain⟨t1,t2,t3⟩:=Va h hφ q2 q3
      obtain⟨o3,p1,_,p2,_⟩:=hmk l ob hl
      refine⟨⟨o3,b0,p1,AOk,hβ0⟩,t1,fun h=>h,t2,t3,fun l' o2 h2 hlv hb=>?_⟩
      obtain⟨hlt',hcase⟩:=hget l' o2 h2 hlv
      have:Fp s.st β φ l' x:=by
       rcases hcase with ⟨rfl,rfl⟩ | ⟨_,q⟩
       ·exact⟨ob,hl,hlive,.inl hb⟩
       ·exact⟨o2,q,hlv,.inl hb⟩
      have:=JQ h hφ q2 this
      grind
     ·obtain⟨⟨o2,b,p1,p2,p3⟩,q1,q2,q3,q4,q5⟩:=hφ.2.1 l k x hx
      obtain⟨o3,s1,_,s2,_⟩:=hmk l o2 p1
      refine⟨⟨o3,b,s1,AOk,p3⟩,q1,q2,q3,q4,fun l' o4 h4 hlv=>?_⟩
      grind
    ·rintro l l' k k' x (⟨rfl,j,hj,rfl,hx⟩ | ⟨hlt,hnj,hx⟩) (⟨rfl,j',hj',rfl,hx'⟩ | ⟨hlt',hnj',hx'⟩)
     ·grind
     ·obtain⟨l2,q1,q2,_⟩:=hΦN j x hx
      obtain⟨⟨o2,b,p1,p2,p3⟩,_⟩:=hφ.2.1 l' k' x hx'
      have:=JQ h hφ q2 ⟨o2,p1,p2,.inr ⟨k',hx'⟩⟩
      grind
     ·obtain⟨l2,q1,q2,_⟩:=hΦN j' x hx'
      obtain⟨⟨o2,b,p1,p2,p3⟩,_⟩:=hφ.2.1 l k x hx
      have:=JQ h hφ q2 ⟨o2,p1,p2,.inr ⟨k,hx⟩⟩
      grind
     grind }
theorem zV {l N:Nat} (h:N≤l) (st:List Ob):(EG l st).take N=st.take N:=by
 unfold EG
 split
 ·rw[List.take_set_of_le h]
 ·rfl
theorem fA {N:Nat}:∀ (used:List Nat) (_:∀ l∈used,N≤l) (st:List Ob),(YR used st).take N=st.take N
 | [],_,st=>rfl
 | l::ls,h,st=>by rw[YR,fA ls (fun x hx=>h x APe),zV (h l AOi)]
theorem OwnL.mono {st:List Ob}:∀ (xs ys:List Cl) (us:List Nat) (K K':List Nat→Prop),(∀ us',(∀ l∈us',l∈us∨l<st.length)→K us'→K' us')→OwnL st xs ys us K→OwnL st xs ys us K'
 | [],[],us,K,K',h,ho=>h us (fun l hl=>.inl hl) ho
 | [],y::ys,_,_,_,_,ho=>by cases y<;>simp[OwnL] at ho
 | x::xs,[],_,_,_,_,ho=>AP6
 | x::xs,y::ys,us,K,K',h,ho=>by
  cases y with
  | ow ty sz zs =>
   cases x with
   | ref l =>
    simp only[OwnL] at ho ⊢
    split at ho
    ·rename_i ob hob
     obtain⟨h1,h2,h3,h4,h5,h6,h7⟩:=ho
     have hl:l<st.length:=by
      obtain⟨hl,_⟩:=CS hob
      exact(aF.1 hl).1
     exact⟨h1,h2,h3,h4,h5,h6,OwnL.mono xs ys _ K K' (fun us' hu hk=>h us' (fun m hm=>by
      rcases hu m hm with q | q
      ·rcases dh.1 q with rfl | q
       ·exact .inr hl
       ·exact .inl q
      ·exact .inr q) hk) h7⟩
    ·exact ho.elim
   | v x =>
    cases x with
    | slice a n c =>
     cases a with
     | none =>
      match n,c,ho with
      | 0,0,ho=>simp only[OwnL] at ho ⊢; exact⟨ho.1,OwnL.mono xs ys us K K' h ho.2⟩
      | 0,c+1,ho=>simp[OwnL] at ho
      | n+1,_,ho=>simp[OwnL] at ho
     | some a=>simp[OwnL] at ho
    | _=>simp[OwnL] at ho
   | _=>simp[OwnL] at ho
  | v y=>simp only[OwnL] at ho ⊢; exact⟨ho.1,ho.2.1,OwnL.mono xs ys us K K' h ho.2.2⟩
  | sl y=>simp only[OwnL] at ho ⊢; exact⟨ho.1,ho.2.1,OwnL.mono xs ys us K K' h ho.2.2⟩
  | ref y=>simp only[OwnL] at ho ⊢; exact⟨ho.1,ho.2.1,OwnL.mono xs ys us K K' h ho.2.2⟩
def OU (P:Program) (s:MS):List ResultVar→Option (List AV)
 | []=>some []
 | .tmp t::r=>if t<1000000 then match OU P s r with
  | some xs=>some (Cb s.env t::xs)
  | none=>none
  else none
 | .cell t T::r=>if t<1000000 then match Ip P s (.load T (.tmp t)),OU P s r with
  | some x,some xs=>some (x::xs)
  | _,_=>none
  else none
def PL (st:List Ob):List AV→List Res→List Nat→Prop
 | [],[],_=>True
 | _::xs,.val _::rs,us=>PL st xs rs us
 | x::xs,.own ty sz ys wr::rs,us=>match x with
  | .c (.ref l)=>match DT st l with
   | some ob=>ob.ty=ty∧ob.sz=sz∧ob.xs=ys∧(wr=true→ob.wr=true)∧DI ys=true∧l∉us∧PL st xs rs (l::us)
   | none=>False
  | .c (.v (.slice none 0 0))=>ys = []∧PL st xs rs us
  | _=>False
 | x::xs,.agg ys::rs,us=>match x with
  | .agg zs=>OwnL st zs ys us fun us'=>PL st xs rs us'
  | _=>False
 | _,_,_=>False
def RN (st:List Ob):List AV→List Res→(List Ob→Prop)→Prop
 | [],[],K=>K st
 | x::xs,.val y::rs,K=>match fzA st x with
  | some (y',st')=>y'=y∧RN st' xs rs K
  | none=>False
 | _::xs,.own _ _ _ _::rs,K=>RN st xs rs K
 | _::xs,.agg _::rs,K=>RN st xs rs K
 | _,_,_=>False
def Post (P:Program) (vars:List ResultVar) (rs:List Res) (s:MS):Prop:=match OU P s vars with
 | some xs=>RN s.st xs rs fun st=>PL st xs rs []
 | none=>False
theorem fB {w':World} {St':Nat→Nat→Prop} {st st':List Ob} {β':Nat→Option Nat} (hA:∀ x u,AVR w St st β x u→AVR w' St' st' β' x u):∀ {xs:List AV} {us:List Value},AVRs w St st β xs us→AVRs w' St' st' β' xs us
 | [],us,h=>APx
 | x::xs,us,h=>by
  simp only[AVRs] at h ⊢
  obtain⟨y,ys,h1,h2,h3⟩:=h
  exact⟨y,ys,h1,hA x y h2,fB hA h3⟩
theorem Vs:∀ (xs:List AV) (rs:List Res) (us:List Value) (st:List Ob) (St:Nat→Nat→Prop) (K:List Ob→Prop),Core w0 St0 St β ⟨s.n,s.env,st⟩ a w→AVRs w St st β xs us→RN st xs rs K →
  ∃ st' St',K st'∧Core w0 St0 St' β ⟨s.n,s.env,st'⟩ a w∧(∀ b o,St b o→St' b o)∧(∀ x u,AVR w St st β x u→AVR w St' st' β x u) ∧
   (∀ (j:Nat) (y:AV),rs[j]?=some (.val y)→∃ u,us[j]?=some u∧RdA w St' y u)
 | [],rs,us,st,St,K,h,hx,hv=>by
  cases rs with
  | nil=>exact⟨st,St,hv,h,fun _ _ h=>h,fun _ _ h=>h,fun j y hj=>by simp at hj⟩
  | cons r rs=>cases r<;>simp[RN] at hv
 | x::xs,rs,us,st,St,K,h,hx,hv=>by
  cases rs with
  | nil=>simp[RN] at hv
  | cons r rs =>
   simp only[AVRs] at hx
   obtain⟨u,us',rfl,h1,h2⟩:=hx
   cases r with
   | val y =>
    simp only[RN] at hv
    split at hv
    ·rename_i y' st1 hf
     obtain⟨rfl,hv⟩:=hv
     obtain⟨St1,q1,q2,q3,q4⟩:=AD3 h hf
     have hm:=UR (w:=w) (w':=w) (β:=β) (St:=St) (St':=St1) fun l ob hl=>AAr hf hl
     have hA:∀ x u,AVR w St st β x u→AVR w St1 st1 β x u:=fun x u hx=>AVR.mono q2 (fun _ _ _=>rfl) q3 hm x u hx
     obtain⟨st',St',r1,r2,r3,r4,r5⟩:=Vs xs rs us' st1 St1 K q1 (fB hA h2) hv
     refine⟨st',St',r1,r2,fun b o hbo=>r3 b o (q2 b o hbo),fun x u hx=>r4 x u (hA x u hx),fun j z hj=>?_⟩
     cases j with
     | zero =>
      simp only[aQ,ak,Res.val.injEq] at hj
      subst hj
      exact⟨u,rfl,(q4 u h1).mono r3 (fun _ _ _=>rfl)⟩
     | succ j=>grind
    grind
   | own ty sz ys wr =>
    exact ANr
   | agg ys =>
    exact ANr
section owns
variable {φ:Nat→Nat→Nat→Prop}
theorem vM (h:Core w0 St0 St β s a w) (hφ:VZ w0 w St s.st β φ) (hno:∀ x,¬ w0.own x):∀ (xs:List AV) (rs:List Res) (us:List Value) (used:List Nat),AVRs w St s.st β xs us→PL s.st xs rs used →
  (∀ (j:Nat) (y:AV),rs[j]?=some (.val y)→∃ u,us[j]?=some u∧RdA w St y u) →
  ∃ bs Φs,ResR w St w0.heap.size rs us bs Φs∧FpOk w St w0.heap.size bs Φs ∧
   (∀ (i b:Nat),bs[i]?=some (some b)→∃ l ob,s.st[l]?=some ob∧ob.live=true∧β l=some b∧l∉used) ∧
   ∀ (i:Nat) (Φ:Nat→Nat→Prop) (k x:Nat),Φs[i]?=some Φ→Φ k x→∃ l,l∉used∧Fp s.st β φ l x
 | [],rs,us,used,hx,ho,hv=>by
  cases rs with
  | nil =>
   simp only[AVRs] at hx
   subst hx
   exact⟨[],[],⟨rfl,rfl,rfl⟩,⟨fun i j b hi=>by simp at hi,fun i Φ k x hi=>by simp at hi,fun i i' Φ Φ' k k' x hi=>by simp at hi⟩,fun i b hi=>by simp at hi,fun i Φ k x hi=>by simp at hi⟩
  | cons r rs=>cases r<;>simp[PL] at ho
 | x::xs,rs,us,used,hx,ho,hv=>by
  cases rs with
  | nil=>simp[PL] at ho
  | cons r rs =>
   simp only[AVRs] at hx
   obtain⟨u,us',rfl,h1,h2⟩:=hx
   have hv':∀ (j:Nat) (y:AV),rs[j]?=some (.val y)→∃ u,us'[j]?=some u∧RdA w St y u:=fun j y hj=>by
    simpa using hv (j+1) y AOk
   have cons:∀ (used1:List Nat) (b:Option Nat) (Φ:Nat→Nat→Prop),(∀ l∈used,l∈used1)→Res1 w St w0.heap.size r u b Φ→PL s.st xs rs used1 →
     (∀ b0,b=some b0→∃ l ob,s.st[l]?=some ob∧ob.live=true∧β l=some b0∧l∉used∧l∈used1) →
     (∀ k x,Φ k x→∃ l,l∉used∧l∈used1∧Fp s.st β φ l x∧w0.may x∧x<w.heap.size∧(∀ o,¬ St x o)∧b≠some x)→(∀ k k' x,Φ k x→Φ k' x→k=k') →
     ∃ bs Φs,ResR w St w0.heap.size (r::rs) (u::us') bs Φs∧FpOk w St w0.heap.size bs Φs∧(∀ (i b:Nat),bs[i]?=some (some b)→∃ l ob,s.st[l]?=some ob∧ob.live=true∧β l=some b∧l∉used) ∧
      ∀ (i:Nat) (Φ:Nat→Nat→Prop) (k x:Nat),Φs[i]?=some Φ→Φ k x→∃ l,l∉used∧Fp s.st β φ l x:=by
    intro used1 b Φ hu hr hrest hb hΦ hdis
    obtain⟨bs,Φs,q1,q2,q3,q4⟩:=vM h hφ hno xs rs us' used1 h2 hrest hv'
    refine⟨b::bs,Φ::Φs,⟨u,us',b,bs,Φ,Φs,rfl,rfl,rfl,hr,q1⟩,⟨fun i j b0 hi hj=>?_,fun i Ψ k x hi hk=>?_,fun i i' Ψ Ψ' k k' x hi hi' hk hk'=>?_⟩,fun i b0 hi=>?_,fun i Ψ k x hi hk=>?_⟩
    ·have hclash:∀ m b1,b=some b1→bs[m]?=some (some b1)→False:=fun m b1 hb1 hm=>by
      obtain⟨l,ob,p1,p2,p3,p4,p5⟩:=hb b1 hb1
      obtain⟨l2,ob2,k1,k2,k3,k4⟩:=q3 m b1 hm
      have:=h.inj l l2 ob ob2 b1 p1 k1 p2 k2 p3 k3
      grind
     cases i with
     | zero =>
      grind
     | succ i =>
      cases j with
      | zero =>
       grind
      | succ j=>have:=q2.nodup i j b0 AOk AOk; omega
    ·cases i with
     | zero =>
      simp only[aQ,ak] at hi
      subst hi
      obtain⟨l,p1,p2,p3,p4,p5,p6,p7⟩:=hΦ k x hk
      refine⟨p4.resolve_right (hno _),p5,p6,fun j hj=>?_⟩
      cases j with
      | zero=>grind
      | succ j =>
       obtain⟨l2,ob2,k1,k2,k3,k4⟩:=q3 j x AOk
       have:=JQ h hφ p3 ⟨ob2,k1,k2,.inl k3⟩
       grind
     | succ i =>
      obtain⟨g1,g2,g3,g4⟩:=q2.fresh i Ψ k x AOk hk
      refine⟨g1,g2,g3,fun j hj=>?_⟩
      cases j with
      | zero =>
       simp only[aQ,ak] at hj
       obtain⟨l,ob,p1,p2,p3,p4,p5⟩:=hb x hj
       obtain⟨l2,k1,k2⟩:=q4 i Ψ k x AOk hk
       have:=JQ h hφ ⟨ob,p1,p2,.inl p3⟩ k2
       grind
      | succ j=>grind
    ·have hx2:∀ (m:Nat) (Ψ:Nat→Nat→Prop) (k k' x:Nat),Φ k x→Φs[m]?=some Ψ→Ψ k' x→False:=fun m Ψ k k' x hk hm hk'=>by
      obtain⟨l,p1,p2,p3,_⟩:=hΦ k x hk
      obtain⟨l2,k1,k2⟩:=q4 m Ψ k' x hm hk'
      grind [JQ]
     cases i with
     | zero =>
      simp only[aQ,ak] at hi
      subst hi
      cases i' with
      | zero =>
       simp only[aQ,ak] at hi'
       subst hi'
       grind
      | succ i'=>exact(hx2 i' Ψ' k k' x hk AOk hk').elim
     | succ i =>
      cases i' with
      | zero =>
       simp only[aQ,ak] at hi'
       subst hi'
       exact(hx2 i Ψ k' k x hk' AOk hk).elim
      | succ i' =>
       have:=q2.dis i i' Ψ Ψ' k k' x AOk AOk hk hk'
       omega
    ·grind
    ·cases i with
     | zero =>
      simp only[aQ,ak] at hi
      subst hi
      grind
     | succ i =>
      obtain⟨l,p1,p2⟩:=q4 i Ψ k x AOk hk
      grind
   cases r with
   | val y =>
    obtain⟨u2,hu2,hr⟩:=hv 0 y rfl
    simp only[aQ,ak] at hu2
    subst hu2
    exact cons used none (fun _ _=>False) (fun _ h=>h) ⟨hr,rfl⟩ (by simpa only[PL] using ho) (fun b0 h=>APk) (fun _ _ h=>h.elim) (fun _ _ _ h=>h.elim)
   | agg ys =>
    simp only[PL] at ho
    split at ho
    ·rename_i zs
     simp only[AVR] at h1
     obtain⟨vs,rfl,hl,hc⟩:=h1
     obtain⟨used',Φ,r1,r2,r3,r4,r5,r6⟩:=pI h hφ zs ys vs used _ hl hc ho
     refine cons used' none Φ r2 ⟨rfl,vs,rfl,AOh,r4⟩ r1 (fun b0 h=>APk) (fun k x hx=>?_) r6
     grind [Va]
    grind
   | own ty sz ys wr =>
    simp only[PL] at ho
    split at ho
    ·rename_i l
     split at ho
     ·rename_i ob hob
      obtain⟨rfl,rfl,rfl,hwr,hp,hnu,ho⟩:=ho
      obtain⟨hl,hlive⟩:=CS hob
      simp only[AVR,RdC,BN,hl] at h1
      have h1':=h1.2 hlive
      cases hβ:β l with
      | none =>
       simp only[hβ] at h1'
       exact cons (l::used) none (fun _ _=>False) (fun l' hl'=>by simp[hl']) h1' ho (fun b0 h=>APk) (fun _ _ h=>h.elim) (fun _ _ _ h=>h.elim)
      | some b0 =>
       simp only[hβ] at h1'
       obtain⟨cap,cs,e1,e2,e3,e4,e5⟩:=h1'
       obtain⟨g1,g2,cs',g3,g4,g5⟩:=h.obs l ob b0 hl hlive hβ
       refine cons (l::used) (some b0) (φ l) (fun l' hl'=>by simp[hl']) ⟨g1.resolve_right (hno _),g2,g4,fun o hbo=>?_,cap,cs,e1,e2,e3,e4,e5,dW h hφ hl hlive hβ hp e4⟩ ho (fun b1 h=>AOk) (fun k x hx=>?_) (fun k k' x hx hx'=>(hφ.2.2 l l k k' x hx hx').2)
       ·have:=h.sep l ob b0 o hl hlive hβ hbo
        grind
       ·have hf:=(hφ.2.1 l k x hx).2
        refine⟨l,hnu,AOi,⟨ob,hl,hlive,.inr ⟨k,hx⟩⟩,hf.1,hf.2.2.1,hf.2.2.2.1,fun e=>?_⟩
        cases e
        exact hf.2.2.2.2 l ob hl hlive hβ
     grind
    ·obtain⟨rfl,ho⟩:=ho
     obtain⟨hu,_⟩:=PI h1
     exact cons used none (fun _ _=>False) (fun _ h=>h) ⟨hu,rfl⟩ ho (fun b0 h=>APk) (fun _ _ h=>h.elim) (fun _ _ _ h=>h.elim)
    grind
end owns
def pU (tmps:Array Value):ResultVar→Sem Value
 | .tmp t=>pure (tmps.getD t Go.undef)
 | .cell t T=>do loadVar T (← asAddr (tmps.getD t Go.undef))
theorem UW (fn:Func) (tmps:Array Value):results fn tmps=(do
  let vs ← fn.results.mapM (pU tmps)
  pure (if h:vs.size=1 then vs[0] else .tuple vs)):=by
 unfold results
 congr 1
theorem RP (h:Core w0 St0 St β s a w):∀ (vars:List ResultVar) (xs:List AV),OU P s vars=some xs →
  ∃ us,AVRs w St s.st β xs us∧(vars.mapM (pU a.tmps)).run P w = .ok us w
 | [],xs,hr=>by
  simp only[OU,ak] at hr
  subst hr
  exact⟨[],by simp[AVRs],AOi⟩
 | .tmp t::vars,xs,hr=>by
  simp only[OU] at hr
  split at hr
  rotate_left
  ·cases hr
  rename_i ht
  split at hr
  ·rename_i ys hys
   simp only[ak] at hr
   subst hr
   obtain⟨us,h1,h2⟩:=RP h vars ys hys
   refine⟨a.tmps.getD t Go.undef::us,by simp only[AVRs]; exact⟨_,_,rfl,by rw[← Tc (w0:=w0) ht]; exact h.env t,h1⟩, ?_⟩
   simp only[List.mapM_cons,pU,Sem.run_bind,Sem.run_pure,Result.andThen_ok,h2]
  ·cases hr
 | .cell t T::vars,xs,hr=>by
  simp only[OU] at hr
  split at hr
  rotate_left
  ·cases hr
  rename_i ht
  split at hr
  ·rename_i x ys hx hys
   simp only[ak] at hr
   subst hr
   obtain⟨us,h1,h2⟩:=RP h vars ys hys
   obtain ⟨v, g1, g2⟩ := oU (P := P) h { dst := none, op := .load T (.tmp t), type := 0, pos := "", after := #[], guard := none } (by simp [Op.operands, Au, ht]) hx
   refine⟨v::us,by simp only[AVRs]; exact⟨_,_,rfl,g2,h1⟩, ?_⟩
   have hload:(do loadVar T (← asAddr (a.tmps.getD t Go.undef)):Sem Value).run P w = .ok v w:=by
    simp only[execOp,Act.eval,Instr.loadAt,Sem.run_bind] at g1
    generalize a.tmps.getD t Go.undef=z at g1 ⊢
    cases z with
    | pointer ad =>
     cases ad with
     | none=>simp[Instr.sureAddr] at g1
     | some ad =>
      simp only[Instr.sureAddr,Sem.run_pure,Result.andThen_ok,asAddr] at g1 ⊢
      simp only[Sem.run_bind,Sem.run_pure,Result.andThen_ok]
      generalize (loadVar T ad).run P w=r at g1 ⊢
      cases r with
      | ok v2 w2=>simp_all
      | halt hh w2=>simp at g1
    | _=>simp[Instr.sureAddr] at g1
   have hload':(pU a.tmps (.cell t T)).run P w = .ok v w:=hload
   simp_all
  ·cases hr
theorem ZM {w0:World} {fn:Func} {rs:List Res} (hs:Sim ⟨w0,fun _=>False,fun _=>Go.undef⟩ St0 s a w) (hp:Post P fn.results.toList rs s):∃ us bs St',(results fn a.tmps).run P w = .ok (XK us) w∧a.defers = []∧Back w0 St0 rs (.returned (XK us)) w us bs St':=by
 obtain⟨St,β,h⟩:=hs
 unfold Post at hp
 split at hp
 ·rename_i xs hxs
  obtain⟨us,h1,h2⟩:=RP h fn.results.toList xs hxs
  obtain⟨st',St',r1,r2,r3,r4,r5⟩:=Vs xs rs us s.st St _ h h1 hp
  obtain⟨φ,hφ⟩:=r2.own
  obtain⟨bs,Φs,o1,o2,_⟩:=vM r2 hφ (fun _ h=>h) xs rs us [] (fB r4 h1) r1 r5
  refine⟨us,bs,St', ?_,h.defers,⟨rfl,h.below.plain,fun b o hbo=>r3 b o (h.st0 b o hbo),fun b o hbo hlt=>r2.stOld b o hbo hlt (fun h=>h),r2.stIn,Φs,o1,o2⟩⟩
  rw[UW,Sem.run_bind,abl,Sem.run_map,h2]
  simp only[Result.andThen_ok,Sem.run_pure]
  congr 1
  match us with
  | []=>rfl
  | [u]=>rfl
  | u::u2::us=>simp[XK]
 grind
def Nb:List AV→Nat→List (Nat×AV)
 | [],_=>[]
 | x::xs,k=>(k,x)::Nb xs (k+1)
theorem QC:∀ (xs:List AV) (k i:Nat),Cb (Nb xs k) i=if k≤i then xs.getD (i-k) .un else .un
 | [],k,i=>by simp[Nb,Cb]
 | x::xs,k,i=>by
  simp only[Nb,Cb,QC xs (k+1) i]
  grind
theorem ZN {w:World} {St:Nat→Nat→Prop}:∀ {xs:List AV} {us:List Value},RdAs w St xs us→us.length=xs.length∧∀ (j:Nat) (x:AV),xs[j]?=some x→∃ u,us[j]?=some u∧RdA w St x u
 | [],us,h=>by simp only[RdAs] at h; grind
 | x::xs,us,h=>by
  obtain⟨y,ys,rfl,h1,h2⟩:=h
  obtain⟨q1,q2⟩:=ZN h2
  grind
def AF2 (P:Program) (vars:List ResultVar) (rs:List Res) (e:Ex) (s:MS):Prop:=match e with
 | .exit _=>False
 | _=>Post P vars rs s
theorem Ctr.mk {f:FuncId} {fn:Func} {c:Code} {args:List AV} {rs:List Res} (hin:CallsIn P f) (hf:P.funcs[f]?=some fn) (hb:fn.body=some c) (hm:P.follows .mixedOrders=true) {n:Nat} (hn:fn.ntmps=n) {vars:Array ResultVar} (hvars:fn.results=vars) (hc:codeOk n c=true) (hlen0:(Nat.ble args.length n&&Nat.ble n 1000000)=true)
  (h:ACA args→vp P c ⟨n,Nb args 0,[]⟩ (AF2 P vars.toList rs)):Ctr P f args rs:=by
 subst hn
 subst hvars
 obtain⟨hlen0,hlim0⟩:=Bool.and_eq_true_iff.1 hlen0
 have hlim:fn.ntmps≤1000000:=aaS hlim0
 have hlen:args.length≤fn.ntmps:=aaS hlen0
 refine⟨hin,fun w St vs hSt hrd=>?_⟩
 obtain⟨hvl,hva⟩:=ZN hrd
 refine calls_of_wp hf hb (wp_mono (AA3 (w0:=⟨w,fun _=>False,fun _=>Go.undef⟩) (St0:=St) hm fn.ntmps c hc ⟨fn.ntmps,Nb args 0,[]⟩ _ { tmps:=vs.toArray++Array.replicate (fn.ntmps-vs.toArray.size) Go.undef,defers:=[] } w rfl (h hrd.wf) ⟨St,fun _=>none, ?_⟩) ?_)
 ·exact AHY
 ·rintro e a' w' ⟨ex,s',rfl,hq,_,hs'⟩
  cases ex with
  | exit i=>exact hq.elim
  | normal =>
   obtain⟨us,bs,St',p1,p2,p3⟩:=ZM hs' hq
   exact⟨p2,_,p1,us,bs,St',p3⟩
  | ret =>
   obtain⟨us,bs,St',p1,p2,p3⟩:=ZM hs' hq
   exact⟨p2,_,p1,us,bs,St',p3⟩
def EndH (P:Program) (vars:List ResultVar) (rs:List Res) (e:Ex) (s:MS):Prop:=match e with
 | .exit _=>False
 | _=>∃ t,Head s t∧Post P vars rs t
theorem ADq {f:FuncId} {fn:Func} {c:Code} {args:List AV} {rs:List Res} (hin:CallsIn P f) (hf:P.funcs[f]?=some fn) (hb:fn.body=some c) (hm:P.follows .mixedOrders=true) {n:Nat} (hn:fn.ntmps=n) {vars:Array ResultVar} (hvars:fn.results=vars) (hc:codeOk n c=true) (hlen0:(Nat.ble args.length n&&Nat.ble n 1000000)=true)
  (h:ACA args→vp P c ⟨n,Nb args 0,[]⟩ (EndH P vars.toList rs)):Ctr P f args rs:=by
 subst hn
 subst hvars
 obtain⟨hlen0,hlim0⟩:=Bool.and_eq_true_iff.1 hlen0
 have hlim:fn.ntmps≤1000000:=aaS hlim0
 have hlen:args.length≤fn.ntmps:=aaS hlen0
 refine⟨hin,fun w St vs hSt hrd=>?_⟩
 obtain⟨hvl,hva⟩:=ZN hrd
 refine calls_of_wp hf hb (wp_mono (AA3 (w0:=⟨w,fun _=>False,fun _=>Go.undef⟩) (St0:=St) hm fn.ntmps c hc ⟨fn.ntmps,Nb args 0,[]⟩ _ { tmps:=vs.toArray++Array.replicate (fn.ntmps-vs.toArray.size) Go.undef,defers:=[] } w rfl (h hrd.wf) ⟨St,fun _=>none, ?_⟩) ?_)
 ·exact AHY
 ·rintro e a' w' ⟨ex,s',rfl,hq,_,hs'⟩
  cases ex with
  | exit i=>exact hq.elim
  | normal =>
   exact AMJ
  | ret =>
   exact AMJ
theorem Core.tell (h:Core w0 St0 St β s a w) (i:Nat) {x:AV} (hx:AVR w St s.st β x (nm w0 a i)):Core w0 St0 St β ⟨s.n,(i,x)::s.env,s.st⟩ a w:=
 have he:∀ j,AVR w St s.st β (Cb ((i,x)::s.env) j) (nm w0 a j):=fun j=>by
  simp only[Cb]
  by_cases e:i=j
  ·grind
  ·simpa [e] using h.env j
 { h with env:=he }
theorem AA4 {St':Nat→Nat→Prop}:∀ {xs:List AV} {us:List Value},xs.all isV=true→RdAs w St xs us→RdAs w St' xs us
 | [],us,_,h=>h
 | x::xs,us,hx,h=>by
  simp only[bC,ay] at hx
  obtain⟨y,ys,h1,h2,h3⟩:=h
  refine⟨y,ys,h1, ?_,AA4 hx.2 h3⟩
  cases x with
  | c c =>
   cases c with
   | v v=>exact h2
   | _=>simp[isV] at hx
  | _=>simp[isV] at hx
theorem AET {g:Bool} {zs:List Cl} {us:List Value} {st:List Ob} (hg:g=true∨zs.length=1) (hg2:g=true∨us.length=1) (h:AVR w St st β (mkA g zs) (mkV g us)) :
  us.length=zs.length∧∀ (k:Nat) (c:Cl),zs[k]?=some c→∃ y,us[k]?=some y∧RdC w St st β c y:=by
 cases g with
 | true =>
  simp only[mkA,aX,AVR,mkV] at h
  grind
 | false =>
  have hz:zs.length=1:=by simpa using hg
  have hu:us.length=1:=by simpa using hg2
  match zs,us,hz,hu with
  | [z],[u],_,_ =>
   simp only[mkA,mkV,aC,aW,AVR,List.headD_cons] at h
   grind
theorem AHo {g:Bool} {zs:List Cl} {us:List Value} {st:List Ob} (hl:us.length=zs.length) (hg:g=true∨zs.length=1) (h:∀ (k:Nat) (c:Cl),zs[k]?=some c→∃ y,us[k]?=some y∧RdC w St st β c y):AVR w St st β (mkA g zs) (mkV g us):=by
 cases g with
 | true =>
  simp only[mkA,aX,AVR,mkV]
  grind
 | false =>
  have hz:zs.length=1:=by simpa using hg
  match zs,us,hz,hl with
  | [z],[u],_,_ =>
   simp only[mkA,mkV,aC,aW,AVR,List.headD_cons]
   grind [aQ,ak]
def AA5 (P:Program) (vars:List ResultVar) (g:Bool) (us:List Value) (Q:List Cl→List AV→Prop) (s:MS):Prop:=
 ∃ zs cl' rs,Cb s.env 0 = .pin (mkA g zs) (mkV g us)∧(g=true∨zs.length=1)∧OwnL s.st zs cl' [] (fun _=>True)∧Fa cl'=true∧rs.all isV=true∧OU P s vars=some rs∧Q cl' rs
def AHp (P:Program) (vars:List ResultVar) (g:Bool) (us:List Value) (Q:List Cl→List AV→Prop) (e:Ex) (s:MS):Prop:=match e with
 | .exit _=>False
 | _=>AA5 P vars g us Q s
theorem vN {w0:World} {fn:Func} {g:Bool} {us:List Value} {Q:List Cl→List AV→Prop} {G:Nat→Nat→Prop} (hg:g=true∨us.length=1) (hs:Sim ⟨w0,fun x=>∃ k,G k x,fun _=>Go.undef⟩ St0 s a w) (hp:AA5 P fn.results.toList g us Q s) :
  ∃ cl' rs rv,Q cl' rs∧(results fn a.tmps).run P w = .ok (XK rv) w∧a.defers = []∧∃ G',Below 0 w0 w∧(∀ k,k<w0.heap.size→(∀ j,¬ G j k)→w.heap[k]?=w0.heap[k]?)∧(∀ k,k<w0.heap.size→qx w k=qx w0 k)∧RdAs w St0 rs rv∧RdL2 w St0 cl' us G'∧∀ k x,G' k x→(∃ j,G j x)∨(w0.heap.size≤x∧x<w.heap.size):=by
 obtain⟨St,β,h⟩:=hs
 obtain⟨zs,cl',rs,e0,hg2,ho,hclo,hrs,hret,hQ⟩:=hp
 have he:=h.env 0
 rw[Tc AOq] at he
 rw[e0] at he
 simp only[AVR] at he
 obtain⟨he1,he2⟩:=he
 rw[he1] at he2
 obtain⟨hul,hur⟩:=AET hg2 hg he2
 obtain⟨φ,hφ⟩:=h.own
 have hrd:=AAy h hφ ho hul hur
 obtain⟨rv,h1,h2⟩:=RP h fn.results.toList rs hret
 refine⟨cl',rs,rv,hQ, ?_,h.defers,_,h.below.rest,fun k hk hno=>h.below.blk k hk fun⟨j,hj⟩=>hno j hj,h.below.siz,AA4 hrs (AAs hrs h1),⟨hrd.len,hrd.dis,fun k c hk=>?_⟩, ?_⟩
 ·rw[UW,Sem.run_bind,abl,Sem.run_map,h2]
  exact ANF
 ·obtain⟨y,hy,hr⟩:=hrd.rd k c hk
  grind [RdO.clo,Q9,bF]
 ·rintro k x ⟨l,q1,q2⟩
  obtain⟨_,ob,p1,p2,_⟩:=OQ zs cl' [] _ ho k l q1
  obtain⟨r1,r2,r3⟩:=Va h hφ q2 fun ob' hob'=>by
   grind [CS]
  rcases r1 with r1 | ⟨j,hj⟩
  ·exact .inr ⟨r1,r2⟩
  grind
theorem AC0 {f:FuncId} {fn:Func} {c:Code} {g:Bool} {cl:List Cl} {args:List AV} {Q:List Cl→List AV→Prop} (hin:CallsIn P f) (hf:P.funcs[f]?=some fn) (hb:fn.body=some c) (hm:P.follows .mixedOrders=true) {n:Nat} (hn:fn.ntmps=n) {vars:Array ResultVar} (hvars:fn.results=vars) (hc:codeOk n c=true) (hlen0:(Nat.ble (args.length+1) n&&Nat.ble n 1000000)=true)
  (hg:g=true∨cl.length=1)
  (h:∀ us:List Value,XH cl→ACA args→vp P c ⟨n,(0,.pin (mkA g (Jf 0 cl)) (mkV g us))::Nb args 1,G6 cl⟩ (AHp P vars.toList g us Q)):MCtr P f g cl args Q:=by
 subst hn
 subst hvars
 obtain⟨hlen0,hlim0⟩:=Bool.and_eq_true_iff.1 hlen0
 have hlim:fn.ntmps≤1000000:=aaS hlim0
 have hlen:args.length+1≤fn.ntmps:=aaS hlen0
 refine⟨hin,hg,fun w St us G vs hSt hG hrd hvs=>?_⟩
 obtain⟨hvl,hva⟩:=ZN hvs
 have hcore0:Core ⟨w,fun x=>∃ k,G k x,fun _=>Go.undef⟩ St St (fun _=>none) ⟨fn.ntmps,Nb (.un::args) 0,[]⟩ { tmps:=(mkV g us::vs).toArray++Array.replicate (fn.ntmps-(mkV g us::vs).toArray.size) Go.undef,defers:=[] } w:={
  defers:=rfl
  size:=AOj
  lim:=hlim
  env:=fun i=>by
   rw[y9 AOj rfl]
   simp only[QC,az,aX,aa8]
   cases i with
   | zero=>simp only[List.getD_cons_zero,AVR]
   | succ i =>
    simp only[List.getD_cons_succ]
    rcases bQ i args.length with hi | hi
    ·obtain⟨u,hu,hr⟩:=hva i args[i] AP_
     have e1:args.getD i .un=args[i]:=AP_
     have e2:((mkV g us::vs).toArray++Array.replicate (fn.ntmps-(mkV g us::vs).toArray.size) Go.undef).getD (i+1) Go.undef=u:=by
      have hiv:i<vs.length:=AOh
      simp only[aa2]
      rw[aaC AOk]
      simp[hu]
     rw[e1,e2]
     exact hr.toAVR
    ·have e1:args.getD i .un = .un:=by simp[hi]
     rw[e1]
     simp only[AVR]
  below:=BelowB.refl _ _
  st0:=fun _ _ h=>h
  stOld:=fun _ _ h _ _=>h
  stIn:=hSt
  obs:=fun l ob b hl=>APw
  nil:=fun l ob hl=>APw
  inj:=fun l l' ob ob' b hl=>APw
  sep:=fun l ob b o hl=>APw
  own:=⟨fun _ _ _=>False,fun l ob b k c hl=>APw,fun _ _ _ h=>h.elim,fun _ _ _ _ _ h=>h.elim⟩ }
 have hN:Own ⟨w,fun x=>∃ k,G k x,fun _=>Go.undef⟩ (fun x=>∃ k,G k x) w St [] (fun _=>none):=⟨fun _ _ _=>False,fun l ob b k c hl=>APw,fun _ _ _ h=>h.elim,fun _ _ _ _ _ h=>h.elim⟩
 obtain⟨β',q1,q2,q3,q4,q5,q6⟩:=VY (s:=⟨fn.ntmps,Nb (.un::args) 0,[]⟩) cl us G [] (fun _=>none) _ hcore0 hN hrd.len hrd.rd (fun k x hx=>⟨⟨k,hx⟩,.inr ⟨k,hx⟩,(hG k x hx).1,(hG k x hx).2,fun l o2 hl=>APw⟩) hrd.dis
 simp only[aN,y7] at q1 q3 q4
 have hgu:g=true∨us.length=1:=by rw[hrd.len]; exact hg
 have hval:=AHo (g:=g) (by rw[q4]; exact hrd.len) AOk q3
 have hcore1:=q1.tell 0 (x:=.pin (mkA g (Jf 0 cl)) (mkV g us)) (by
  have:((mkV g us::vs).toArray++Array.replicate (fn.ntmps-(mkV g us::vs).toArray.size) Go.undef).getD 0 Go.undef=mkV g us:=by
   simp only[aa2]
   rw[aaC AOi]
   simp
  simp only[AVR]
  rw[Tc AOq,this]
  exact⟨by first | trivial | rfl,hval⟩)
 have hcore2:=hcore1.congr (s':=⟨fn.ntmps,(0,.pin (mkA g (Jf 0 cl)) (mkV g us))::Nb args 1,G6 cl⟩) rfl rfl (fun t=>by
  simp only[Cb,Nb]
  grind)
 have hwf:XH cl:=dS cl fun k c hk=>by
  obtain⟨y,_,hr⟩:=hrd.rd k c hk
  exact RdO.wf c y _ hr
 refine calls_of_wp hf hb (wp_mono (AA3 (w0:=⟨w,fun x=>∃ k,G k x,fun _=>Go.undef⟩) (St0:=St) hm fn.ntmps c hc _ _ _ w rfl (h us hwf hvs.wf) ⟨St,β',hcore2⟩) ?_)
 rintro e a' w' ⟨ex,s',rfl,hq,_,hs'⟩
 cases ex with
 | exit i=>exact hq.elim
 | normal =>
  exact ANu
 | ret =>
  exact ANu
def fC:List AV→Nat→List (Nat×AV)→List (Nat×AV)
 | [],_,e=>e
 | x::xs,k,e=>(k,x)::fC xs (k+1) e
def shE:List (Nat×AV)→List (Nat×AV)
 | []=>[]
 | (k,x)::r=>(k+1000000,x)::shE r
def unE:List (Nat×AV)→List (Nat×AV)
 | []=>[]
 | (k,x)::r=>if k<1000000 then unE r else(k-1000000,x)::unE r
theorem AA6:∀ e,unE (shE e)=e
 | []=>rfl
 | (k,x)::r=>by simp[shE,unE,AA6 r]
theorem vO:∀ (e:List (Nat×AV)) (i:Nat),Cb (shE e) i=if i<1000000 then .un else Cb e (i-1000000)
 | [],i=>by simp[shE,Cb]
 | (k,x)::r,i=>by
  simp only[shE,Cb,vO r i]
  by_cases h:i<1000000
  ·have:¬ k+1000000=i:=by omega
   simp only[h,this,aX,aW]
  ·by_cases e:k+1000000=i
   ·have:k=i-1000000:=by omega
    simp only[h,e,← this,aX,aW]
   ·have:¬ k=i-1000000:=by omega
    simp only[h,e,this,aW]
theorem fD:∀ (e:List (Nat×AV)) (i:Nat),Cb (unE e) i=Cb e (i+1000000)
 | [],i=>rfl
 | (k,x)::r,i=>by
  simp only[unE,Cb]
  by_cases h:k<1000000
  ·rw[bu h,aZ AOh]
   exact fD r i
  ·rw[aZ h]
   simp only[Cb]
   by_cases e:k=i+1000000
   ·rw[bu AOh,bu e]
   ·rw[aZ AOh,aZ e]
    exact fD r i
theorem lC:∀ (xs:List AV) (k:Nat) (e:List (Nat×AV)) (i:Nat),Cb (fC xs k e) i=if k≤i∧i<k+xs.length then xs.getD (i-k) .un else Cb e i
 | [],k,e,i=>by
  have:¬ (k≤i∧i<k+([]:List AV).length):=AOi
  simp only[fC,this,aW]
 | x::xs,k,e,i=>by
  simp only[fC,Cb,lC xs (k+1) e i,df]
  by_cases h:k=i
  ·subst h; simp
  ·by_cases h2:k+1≤i∧i<k+1+xs.length
   ·have e1:k≤i∧i<k+(xs.length+1):=by omega
    simp only[h,h2,e1,aW,and_self,aX]
    rw[show i-k=(i-(k+1))+1 from AOh,List.getD_cons_succ]
   ·have e1:¬ (k≤i∧i<k+(xs.length+1)):=by omega
    simp only[h,h2,e1,aW]
def Ot (P:Program) (vars:List ResultVar) (m:Nat) (KK:AV→MS→Prop) (e:Ex) (t:MS):Prop:=match e with
 | .exit _=>False
 | _=>match OU P t vars with
  | some xs=>KK (retA xs) ⟨m,unE t.env,t.st⟩
  | none=>False
def AJl (dst:Option Nat) (K:MS→Prop) (x:AV) (t:MS):Prop:=K (t.put dst x)
def AJm (st:List Ob) (env:List (Nat×AV)) (r x:AV) (t:MS):Prop:=t.st=st∧t.env=env∧x=r
theorem vP:∀ {xs:List AV} {us:List Value},AVRs w St s.st β xs us→us.length=xs.length
 | [],us,h=>by simp only[AVRs] at h; subst h; rfl
 | x::xs,us,h=>by
  simp only[AVRs] at h
  obtain⟨y,ys,rfl,_,h2⟩:=h
  simp[vP h2]
theorem lD {f:FuncId} {fn:Func} {c:Code} {args:List AV} {KK:AV→MS→Prop} (hf:P.funcs[f]?=some fn) (hb:fn.body=some c) (hm:P.follows .mixedOrders=true) {n:Nat} (hn:fn.ntmps=n) {vars:Array ResultVar} (hvars:fn.results=vars) (hc:codeOk n c=true)
  (hlen0:(Nat.ble args.length n&&Nat.ble n 1000000)=true) (h:∃ st1,Head ⟨n,fC args 0 (shE s.env),s.st⟩ ⟨n,fC args 0 (shE s.env),st1⟩∧vp P c ⟨n,fC args 0 (shE s.env),st1⟩ (Ot P vars.toList s.n KK)) {us:List Value} (hcore:Core w0 St0 St β s a w) (hargs:AVRs w St s.st β args us) :
  Calls P f us.toArray w fun e w'=>∃ u,e = .returned u∧∃ (t:MS) (x:AV),t.n=s.n∧KK x t∧∃ St' β',Core w0 St0 St' β' t a w'∧AVR w' St' t.st β' x u:=by
 subst hn
 subst hvars
 obtain⟨hlen0,hlim0⟩:=Bool.and_eq_true_iff.1 hlen0
 have hlim:fn.ntmps≤1000000:=aaS hlim0
 have hlen:args.length≤fn.ntmps:=aaS hlen0
 have hul:=vP hargs
 have hua:=oP hargs
 have hcore2:Core ⟨w0.w,w0.own,nm w0 a⟩ St0 St β ⟨fn.ntmps,fC args 0 (shE s.env),s.st⟩ { tmps:=us.toArray++Array.replicate (fn.ntmps-us.toArray.size) Go.undef,defers:=[] } w:={
  defers:=rfl
  size:=AOj
  lim:=hlim
  env:=fun i=>by
   rw[lC,vO]
   by_cases hi:i<args.length
   ·obtain⟨u,hu,hr⟩:=hua i args[i] AP_
    have e1:args.getD (i-0) .un=args[i]:=AP_
    have e2:(us.toArray++Array.replicate (fn.ntmps-us.toArray.size) Go.undef).getD i Go.undef=u:=by
     have hiv:i<us.length:=AOh
     simp only[aa2]
     rw[aaC (by simpa using hiv)]
     simp[hu]
    rw[bu ⟨az _,AOh⟩,Tc AOh,e1,e2]
    exact hr
   ·rw[aZ AOh]
    by_cases h2:i<1000000
    ·rw[bu h2]; simp only[AVR]
    ·rw[aZ h2]
     rw[AGh h2]
     generalize i-1000000=j
     exact hcore.env j
  below:=⟨hcore.below.rest,hcore.below.blk,hcore.below.siz⟩
  st0:=hcore.st0
  stOld:=hcore.stOld
  stIn:=hcore.stIn
  obs:=hcore.obs
  nil:=hcore.nil
  inj:=hcore.inj
  sep:=hcore.sep
  own:=hcore.own }
 obtain⟨st1,hh,h⟩:=h
 obtain⟨St2,β2,hcore3⟩:=hh.2 _ _ _ _ _ _ hcore2
 refine calls_of_wp hf hb (wp_mono (AA3 (w0:=⟨w0.w,w0.own,nm w0 a⟩) (St0:=St0) hm fn.ntmps c hc _ _ _ w rfl h ⟨St2,β2,hcore3⟩) ?_)
 rintro e a' w' ⟨ex,s',rfl,hq,_,St1,β1,h1⟩
 have key:∀ xs,OU P s' fn.results.toList=some xs→KK (retA xs) ⟨s.n,unE s'.env,s'.st⟩→∃ v,(results fn a'.tmps).run P w' = .ok v w'∧∃ (t:MS) (x:AV),t.n=s.n∧KK x t∧∃ St' β',Core w0 St0 St' β' t a w'∧AVR w' St' t.st β' x v:=fun xs hxs hK=>by
  obtain⟨rv,g1,g2⟩:=RP h1 fn.results.toList xs hxs
  refine⟨XK rv, ?_,⟨s.n,unE s'.env,s'.st⟩,retA xs,rfl,hK,St1,β1, ?_,LD g1⟩
  ·rw[UW,Sem.run_bind,abl,Sem.run_map,g2]
   exact ANF
  ·exact {
    defers:=hcore.defers
    size:=hcore.size
    lim:=hcore.lim
    env:=fun i=>by
     have:=h1.env (i+1000000)
     rw[← fD] at this
     have e:nm ⟨w0.w,w0.own,nm w0 a⟩ a' (i+1000000)=nm w0 a i:=by
      rw[AGh AOh,Nat.add_sub_cancel]
     rwa [e] at this
    below:=⟨h1.below.rest,h1.below.blk,h1.below.siz⟩
    st0:=h1.st0
    stOld:=h1.stOld
    stIn:=h1.stIn
    obs:=h1.obs
    nil:=h1.nil
    inj:=h1.inj
    sep:=h1.sep
    own:=h1.own }
 have fin:∀ ex,Ot P fn.results.toList s.n KK ex s'→∃ xs,OU P s' fn.results.toList=some xs∧KK (retA xs) ⟨s.n,unE s'.env,s'.st⟩:=fun ex hq=>by
  cases ex with
  | exit i=>exact hq.elim
  | normal =>
   exact AOX
  | ret =>
   exact AOX
 obtain⟨xs,hxs,hK⟩:=fin ex hq
 obtain⟨v,k1,k2⟩:=key xs hxs hK
 cases ex with
 | exit i=>exact hq.elim
 | normal=>exact⟨h1.defers,_,k1,v,rfl,k2⟩
 | ret=>exact⟨h1.defers,_,k1,v,rfl,k2⟩
theorem ACK {f:FuncId} {fn:Func} {c:Code} {args:List AV} {dst:Option Nat} {K:MS→Prop} {A B C:Prop} (hin:CallsIn P f) (hf:P.funcs[f]?=some fn) (hb:fn.body=some c) (hm:P.follows .mixedOrders=true) {n:Nat} (hn:fn.ntmps=n) {vars:Array ResultVar} (hvars:fn.results=vars) (hc:codeOk n c=true)
  (hlen0:(Nat.ble args.length n&&Nat.ble n 1000000)=true) (h:vp P c ⟨n,fC args 0 (shE s.env),s.st⟩ (Ot P vars.toList s.n (AJl dst K))):PK A (PK B (PK C (InlK P f s args dst K))):=
 .inr (.inr (.inr ⟨hin,fun w0 St0 St β a w us hcore hargs=>lD hf hb hm hn hvars hc hlen0 ⟨_,⟨rfl,fun _ _ _ _ _ _ h=>⟨_,_,h⟩⟩,h⟩ hcore hargs⟩))
theorem ACR {f:FuncId} {fn:Func} {c:Code} {args:List AV} {st st':List Ob} {y:AV} (hin:CallsIn P f) (hf:P.funcs[f]?=some fn) (hb:fn.body=some c) (hm:P.follows .mixedOrders=true) {n:Nat} (hn:fn.ntmps=n) {vars:Array ResultVar} (hvars:fn.results=vars) (hc:codeOk n c=true)
  (hlen0:(Nat.ble args.length n&&Nat.ble n 1000000)=true) (h:∀ (m:Nat) (env:List (Nat×AV)),vp P c ⟨n,fC args 0 (shE env),st⟩ (Ot P vars.toList m (AJm st' env y))):InlS P f st args y st':=
 ⟨hin,fun w0 St0 St β s a w us hst hcore hargs=>by
  subst hst
  refine(lD hf hb hm hn hvars hc hlen0 ⟨_,⟨rfl,fun _ _ _ _ _ _ h=>⟨_,_,h⟩⟩,h s.n s.env⟩ hcore hargs).mono fun e w' hx=>?_
  obtain⟨u,e1,t,x,q1,⟨q2,q3,rfl⟩,St',β',q4,q5⟩:=hx
  subst q2
  have:t=⟨s.n,s.env,t.st⟩:=by rw[← q1,← q3]
  rw[this] at q4
  exact⟨u,e1,St',β',q4,q5⟩⟩
end Go.Vm
