/- A part. -/
import Derived.Test.YtnchiiikacemmaaGreatVmK
set_option linter.unusedSimpArgs false
set_option linter.unusedVariables false
namespace Go.Vm
open Go.RowKit
def RdA (w:World) (St:Nat→Nat→Prop):AV→Value→Prop
 | .c x,u=>RdD w St x u
 | .agg xs,u=>∃ us:List Value,u = .agg us.toArray∧us.length=xs.length∧∀ (k:Nat) (c:Cl),xs[k]?=some c→∃ y,us[k]?=some y∧RdD w St c y
 | _,_=>False
theorem RdA.mono {w w':World} {St St':Nat→Nat→Prop} (hS:∀ b o,St b o→St' b o) (hw:∀ b o,St b o→w'.cell? ⟨b,o,none⟩=w.cell? ⟨b,o,none⟩) {x:AV} {u:Value} (h:RdA w St x u):RdA w' St' x u:=by
 cases x with
 | c x=>exact RdD.mono hS hw _ _ h
 | agg xs =>
  obtain⟨us,h1,h2,h3⟩:=h
  refine⟨us,h1,h2,fun k c hk=>?_⟩
  obtain⟨y,hy,hc⟩:=h3 k c hk
  exact⟨y,hy,RdD.mono hS hw _ _ hc⟩
 | _=>exact h.elim
theorem RdA.toAVR {w:World} {St:Nat→Nat→Prop} {st:List Ob} {β:Nat→Option Nat} {x:AV} {u:Value} (h:RdA w St x u):AVR w St st β x u:=by
 cases x with
 | c x=>simp only[AVR]; exact RdD.toC h
 | agg xs =>
  obtain⟨us,h1,h2,h3⟩:=h
  simp only[AVR]
  refine⟨us,h1,h2,fun k c hk=>?_⟩
  obtain⟨y,hy,hc⟩:=h3 k c hk
  exact⟨y,hy,RdD.toC hc⟩
 | _=>exact h.elim
mutual
def oU:Cl→Prop
 | .v x=>Nu x=true
 | .ref _=>True
 | .ow _ _ xs=>xs.length≤maxLen∧eF xs
 | .sl xs=>xs.length≤maxLen∧eF xs
def eF:List (List Cl)→Prop
 | []=>True
 | x::xs=>TN x∧eF xs
def TN:List Cl→Prop
 | []=>True
 | c::cs=>oU c∧TN cs
end
def WfA:AV→Prop
 | .c x=>oU x
 | .agg xs=>TN xs
 | _=>True
mutual
theorem RdD.wf {w:World} {St:Nat→Nat→Prop}:∀ (c:Cl) (u:Value),RdD w St c u→oU c
 | .v x,u,h=>by simp only[RdD] at h; simp only[oU]; exact h.2
 | .ref _,_,h=>by simp[RdD] at h
 | .ow _ _ _,_,h=>by simp[RdD] at h
 | .sl xs,u,h=>by
  simp only[RdD] at h
  simp only[oU]
  obtain⟨a,cap,h1,h2,h3,h4,h5⟩:=h
  refine⟨by omega, ?_⟩
  rcases h5 with rfl | ⟨b,off,_,h6⟩
  ·simp[eF]
  ·exact RdE.wf xs b off h6
theorem RdE.wf {w:World} {St:Nat→Nat→Prop}:∀ (xs:List (List Cl)) (b off:Nat),RdE w St xs b off→eF xs
 | [],_,_,_=>by simp[eF]
 | x::xs,b,off,h=>by
  simp only[RdE] at h
  simp only[eF]
  exact⟨RdL.wf x b off h.1,RdE.wf xs b _ h.2⟩
theorem RdL.wf {w:World} {St:Nat→Nat→Prop}:∀ (cs:List Cl) (b off:Nat),RdL w St cs b off→TN cs
 | [],_,_,_=>by simp[TN]
 | c::cs,b,off,h=>by
  simp only[RdL] at h
  simp only[TN]
  obtain⟨⟨_,u,_,h3⟩,h4⟩:=h
  exact⟨RdD.wf c u h3,RdL.wf cs b _ h4⟩
end
theorem U3:∀ (cs:List Cl),(∀ (k:Nat) (c:Cl),cs[k]?=some c→oU c)→TN cs
 | [],_=>by simp[TN]
 | c::cs,h=>by
  simp only[TN]
  exact⟨h 0 c rfl,U3 cs fun k c hk=>h (k+1) c (by simpa using hk)⟩
theorem RdA.wf {w:World} {St:Nat→Nat→Prop} {x:AV} {u:Value} (h:RdA w St x u):WfA x:=by
 cases x with
 | c x=>exact RdD.wf _ _ h
 | agg xs =>
  obtain⟨us,_,_,h3⟩:=h
  refine U3 xs fun k c hk=>?_
  obtain⟨y,_,hc⟩:=h3 k c hk
  exact RdD.wf _ _ hc
 | _=>exact h.elim
theorem XO:∀ {xs:List (List Cl)},eF xs→∀ x∈xs,TN x
 | [],_,x,h=>by simp at h
 | y::xs,h,x,hx=>by
  simp only[eF] at h
  rcases bW.1 hx with rfl | hx
  ·exact h.1
  ·exact XO h.2 x hx
theorem ABK:∀ (xs:List (List Cl)),(∀ x∈xs,TN x)→eF xs
 | [],_=>by simp[eF]
 | y::xs,h=>by
  simp only[eF]
  exact⟨h y (by simp),ABK xs fun x hx=>h x (by simp[hx])⟩
def fzL (st:List Ob):List Cl→Option (List Cl×List Ob)
 | []=>some ([],st)
 | c::cs=>match fzC st c,fzL (oK st c) cs with
  | some c',some (cs',st')=>some (c'::cs',st')
  | _,_=>none
def fzA (st:List Ob):AV→Option (AV×List Ob)
 | .c x=>match fzC st x with
  | some y=>some (.c y,oK st x)
  | none=>none
 | .agg xs=>match fzL st xs with
  | some (ys,st')=>some (.agg ys,st')
  | none=>none
 | _=>none
def TP (st:List Ob):List AV→Option (List AV×List Ob)
 | []=>some ([],st)
 | x::xs=>match fzA st x with
  | some (y,st')=>match TP st' xs with
   | some (ys,st'')=>some (y::ys,st'')
   | none=>none
  | none=>none
variable {P:Program} {w0:Bs} {St0 St:Nat→Nat→Prop} {β:Nat→Option Nat} {s:MS} {a:Act} {w:World}
theorem jL (h:Core w0 St0 St β s a w) {c c':Cl} (hc:fzC s.st c=some c') :
  ∃ St',Core w0 St0 St' β ⟨s.n,s.env,oK s.st c⟩ a w∧(∀ b o,St b o→St' b o)∧(∀ l u,BD w s.st β l u→BD w (oK s.st c) β l u)∧∀ u,RdB w St s.st β c u→RdD w St' c' u:=by
 unfold fzC at hc
 split at hc
 ·simp only[ah] at hc
  subst hc
  refine⟨St,h,fun _ _ h=>h,fun _ _ h=>h,fun u hu=>?_⟩
  simp only[RdB,RdC,RdD] at hu ⊢
  obtain⟨rfl,_⟩:=hu
  exact⟨none,0,rfl,by simp,by simp[maxLen],⟨0,by simp⟩,.inl trivial⟩
 ·cases hc
 ·simp only[ah] at hc
  subst hc
  exact⟨St,h,fun _ _ h=>h,fun _ _ h=>h,fun u hu=>hu⟩
 ·simp only[ah] at hc
  subst hc
  exact⟨St,h,fun _ _ h=>h,fun _ _ h=>h,fun u hu=>hu⟩
 ·rename_i l
  split at hc
  ·rename_i ob hob
   split at hc
   ·rename_i hp
    simp only[ah] at hc
    subst hc
    obtain⟨St',h1,h2,h3⟩:=h.freeze l hob hp
    exact⟨St',h1,h2,fun l' u hu=>(dW l' u).2 hu,h3⟩
   ·cases hc
  ·cases hc
 ·cases hc
theorem jM:∀ (cs:List Cl) (st:List Ob) (cs':List Cl) (st':List Ob) (St:Nat→Nat→Prop),Core w0 St0 St β ⟨s.n,s.env,st⟩ a w→fzL st cs=some (cs',st') →
  ∃ St',Core w0 St0 St' β ⟨s.n,s.env,st'⟩ a w∧(∀ b o,St b o→St' b o)∧(∀ l u,BD w st β l u→BD w st' β l u)∧cs'.length=cs.length∧∀ (k:Nat) (c:Cl),cs'[k]?=some c→∃ d,cs[k]?=some d∧∀ u,RdB w St st β d u→RdD w St' c u
 | [],st,cs',st',St,h,hf=>by
  simp only[fzL,ah,bQ] at hf
  obtain⟨rfl,rfl⟩:=hf
  exact⟨St,h,fun _ _ h=>h,fun _ _ h=>h,rfl,fun k c hk=>by simp at hk⟩
 | c::cs,st,cs',st',St,h,hf=>by
  simp only[fzL] at hf
  split at hf
  ·rename_i c1 cs1 st1 hc1 hcs1
   simp only[ah,bQ] at hf
   obtain⟨rfl,rfl⟩:=hf
   obtain⟨St1,q1,q2,q3,q4⟩:=jL h hc1
   obtain⟨St2,r1,r2,r3,r4,r5⟩:=jM cs (oK st c) cs1 st1 St1 q1 hcs1
   refine⟨St2,r1,fun b o hbo=>r2 b o (q2 b o hbo),fun l u hu=>r3 l u (q3 l u hu),by simp[r4],fun k d hk=>?_⟩
   cases k with
   | zero =>
    simp only[aB,ah] at hk
    subst hk
    exact⟨c,rfl,fun u hu=>RdD.mono r2 (fun _ _ _=>rfl) _ _ (q4 u hu)⟩
   | succ k =>
    obtain⟨d',hd1,hd2⟩:=r5 k d (by simpa using hk)
    exact⟨d',by simpa using hd1,fun u hu=>hd2 u (RdB.mono q2 (fun _ _ _=>rfl) q3 _ _ hu)⟩
  ·cases hf
theorem Nw {st st':List Ob} (hlen:∀ (l:Nat) (ob:Ob),st[l]?=some ob→∃ ob':Ob,st'[l]?=some ob'∧ob'.sz=ob.sz∧(ob'.live=true→ob.live=true)) {St St':Nat→Nat→Prop} {w w':World} :
  ∀ l i off u,AVR w St st β (.lp l i off) u→AVR w' St' st' β (.lp l i off) u:=by
 intro l i off u hu
 simp only[AVR] at hu ⊢
 cases hq:st[l]? with
 | none=>simp[hq] at hu
 | some ob =>
  obtain⟨ob',h1,h2,h3⟩:=hlen l ob hq
  simp only[hq] at hu
  simp only[h1,h2]
  exact fun hl=>hu (h3 hl)
theorem ABL {x y:AV} {st st':List Ob} {St:Nat→Nat→Prop} (h:Core w0 St0 St β ⟨s.n,s.env,st⟩ a w) (hf:fzA st x=some (y,st')) :
  ∃ St',Core w0 St0 St' β ⟨s.n,s.env,st'⟩ a w∧(∀ b o,St b o→St' b o)∧(∀ l u,BD w st β l u→BD w st' β l u)∧∀ u,AVR w St st β x u→RdA w St' y u:=by
 unfold fzA at hf
 split at hf
 ·rename_i c
  split at hf
  ·rename_i c' hc
   simp only[ah,bQ] at hf
   obtain⟨rfl,rfl⟩:=hf
   obtain⟨St',q1,q2,q3,q4⟩:=jL h hc
   exact⟨St',q1,q2,q3,fun u hu=>q4 u (RdC.toB (by simpa only[AVR] using hu))⟩
  ·cases hf
 ·rename_i xs
  split at hf
  ·rename_i ys st1 hl
   simp only[ah,bQ] at hf
   obtain⟨rfl,rfl⟩:=hf
   obtain⟨St',q1,q2,q3,q4,q5⟩:=jM xs st ys st1 St h hl
   refine⟨St',q1,q2,q3,fun u hu=>?_⟩
   simp only[AVR] at hu
   obtain⟨us,h1,h2,h3⟩:=hu
   refine⟨us,h1,by rw[h2,q4],fun k c hk=>?_⟩
   obtain⟨d,hd1,hd2⟩:=q5 k c hk
   obtain⟨u,hu1,hu2⟩:=h3 k d hd1
   exact⟨u,hu1,hd2 u hu2.toB⟩
  ·cases hf
 ·cases hf
theorem ABM {st:List Ob} {l l':Nat} {ob:Ob} (h:st[l']?=some ob):∃ ob',(RY st l)[l']?=some ob'∧ob'.sz=ob.sz∧(ob'.live=true→ob.live=true):=by
 unfold RY
 rw[abe,h]
 by_cases e:l=l'
 ·simp[e]
 ·simp[e]
theorem oV {st:List Ob} {c:Cl} {l':Nat} {ob:Ob} (h:st[l']?=some ob):∃ ob',(oK st c)[l']?=some ob'∧ob'.sz=ob.sz∧(ob'.live=true→ob.live=true):=by
 cases c with
 | ref l=>exact ABM h
 | _=>exact⟨ob,h,rfl,id⟩
theorem XP:∀ {cs cs':List Cl} {st st':List Ob},fzL st cs=some (cs',st')→∀ {l':Nat} {ob:Ob},st[l']?=some ob→∃ ob',st'[l']?=some ob'∧ob'.sz=ob.sz∧(ob'.live=true→ob.live=true)
 | [],cs',st,st',hf,l',ob,h=>by
  simp only[fzL,ah,bQ] at hf
  obtain⟨_,rfl⟩:=hf
  exact⟨ob,h,rfl,id⟩
 | c::cs,cs',st,st',hf,l',ob,h=>by
  simp only[fzL] at hf
  split at hf
  ·rename_i c1 cs1 st1 hc1 hcs1
   simp only[ah,bQ] at hf
   obtain⟨_,rfl⟩:=hf
   obtain⟨o1,p1,p2,p3⟩:=oV (c:=c) h
   obtain⟨o2,r1,r2,r3⟩:=XP hcs1 p1
   exact⟨o2,r1,r2.trans p2,fun hl=>p3 (r3 hl)⟩
  ·cases hf
theorem xE {x y:AV} {st st':List Ob} (hf:fzA st x=some (y,st')) {l':Nat} {ob:Ob} (h:st[l']?=some ob):∃ ob',st'[l']?=some ob'∧ob'.sz=ob.sz∧(ob'.live=true→ob.live=true):=by
 unfold fzA at hf
 split at hf
 ·split at hf
  ·simp only[ah,bQ] at hf
   obtain⟨_,rfl⟩:=hf
   exact oV h
  ·cases hf
 ·split at hf
  ·rename_i hl
   simp only[ah,bQ] at hf
   obtain⟨_,rfl⟩:=hf
   exact XP hl h
  ·cases hf
 ·cases hf
def RdAs (w:World) (St:Nat→Nat→Prop):List AV→List Value→Prop
 | [],us=>us = []
 | x::xs,us=>∃ y ys,us=y::ys∧RdA w St x y∧RdAs w St xs ys
theorem RdAs.mono {w w':World} {St St':Nat→Nat→Prop} (hS:∀ b o,St b o→St' b o) (hw:∀ b o,St b o→w'.cell? ⟨b,o,none⟩=w.cell? ⟨b,o,none⟩):∀ {xs:List AV} {us:List Value},RdAs w St xs us→RdAs w' St' xs us
 | [],_,h=>h
 | x::xs,us,h=>by
  obtain⟨y,ys,h1,h2,h3⟩:=h
  exact⟨y,ys,h1,h2.mono hS hw,RdAs.mono hS hw h3⟩
def uH:List AV→Prop
 | []=>True
 | x::xs=>WfA x∧uH xs
theorem RdAs.wf {w:World} {St:Nat→Nat→Prop}:∀ {xs:List AV} {us:List Value},RdAs w St xs us→uH xs
 | [],_,_=>trivial
 | x::xs,us,h=>by
  obtain⟨y,ys,h1,h2,h3⟩:=h
  exact⟨h2.wf,h3.wf⟩
theorem TQ:∀ (xs ys:List AV) (st st':List Ob) (St:Nat→Nat→Prop),Core w0 St0 St β ⟨s.n,s.env,st⟩ a w→TP st xs=some (ys,st') →
  ∃ St',Core w0 St0 St' β ⟨s.n,s.env,st'⟩ a w∧(∀ b o,St b o→St' b o)∧∀ us,AVRs w St st β xs us→RdAs w St' ys us
 | [],ys,st,st',St,h,hf=>by
  simp only[TP,ah,bQ] at hf
  obtain⟨rfl,rfl⟩:=hf
  exact⟨St,h,fun _ _ h=>h,fun us hu=>by simpa only[AVRs,RdAs] using hu⟩
 | x::xs,ys,st,st',St,h,hf=>by
  simp only[TP] at hf
  split at hf
  ·rename_i y st1 hy
   split at hf
   ·rename_i ys1 st2 hys
    simp only[ah,bQ] at hf
    obtain⟨rfl,rfl⟩:=hf
    obtain⟨St1,q1,q2,q3,q4⟩:=ABL h hy
    obtain⟨St2,r1,r2,r3⟩:=TQ xs ys1 st1 st2 St1 q1 hys
    refine⟨St2,r1,fun b o hbo=>r2 b o (q2 b o hbo),fun us hu=>?_⟩
    simp only[AVRs] at hu
    obtain⟨u,us',rfl,h1,h2⟩:=hu
    refine⟨u,us',rfl,(q4 u h1).mono r2 (fun _ _ _=>rfl),r3 us' ?_⟩
    exact AVRs.mono q2 (fun _ _ _=>rfl) q3 (Nw fun l ob hl=>xE hy hl) xs us' h2
   ·cases hf
  ·cases hf
end Go.Vm
