/- The value machine, part Xa: loops whose head states are reached by any chain of changes; a nil slice taken as an object of its own. -/
import Derived.Test.YthoeeoddgkjkkaaGreatVmX
namespace Go.Vm
set_option linter.unusedSimpArgs false
set_option linter.unusedVariables false
variable {P : Program} {w0 : Bs} {St0 St : Nat → Nat → Prop} {β : Nat → Option Nat} {s t r : MS} {a : Act} {w : World}
theorem Core.reTell (h : Core w0 St0 St β s a w) (env' : List (Nat × AV)) (st' : List Ob)
  (hr : ∀ l u,RefR w s.st β l u → RefR w st' β l u) (hp : ∀ l i off u,AVR w St s.st β (.lp l i off) u → AVR w St st' β (.lp l i off) u)
  (henv : ∀ i u,AVR w St st' β (eget s.env i) u → AVR w St st' β (eget env' i) u)
  (hst : ∀ (l : Nat) (o' : Ob),st'[l]? = some o' → o'.live = true → ∃ o : Ob,s.st[l]? = some o ∧ o.live = true ∧ o'.ty = o.ty ∧ o'.sz = o.sz ∧ o'.wr = o.wr ∧ o'.xs.length = o.xs.length ∧ ((∀ x ∈ o.xs,x.length = o.sz) → ∀ x ∈ o'.xs,x.length = o.sz) ∧
   ∀ (k : Nat) (c' : Cl),o'.xs.flatten[k]? = some c' → ∃ c,o.xs.flatten[k]? = some c ∧ (∀ u,RdB w St st' β c u → RdB w St st' β c' u) ∧ (isOw c' = true → c = c')) :
  Core w0 St0 St β ⟨s.n,env',st'⟩ a w:=by
 have hA : ∀ x u,AVR w St s.st β x u → AVR w St st' β x u:=fun x u hx=>AVR.mono (fun _ _ h=>h) (fun _ _ _=>rfl) hr hp x u hx
 have hB : ∀ c u,RdB w St s.st β c u → RdB w St st' β c u:=fun c u hc=>RdB.mono (fun _ _ h=>h) (fun _ _ _=>rfl) hr c u hc
 exact {
  defers:=h.defers
  size:=h.size
  env:=fun i=>henv i _ (hA _ _ (h.env i))
  below:=h.below
  st0:=h.st0
  stOld:=h.stOld
  stIn:=h.stIn
  obs:=fun l o' b hl hlv hb=>by
   obtain ⟨o,q1,q2,q3,q4,q5,q6,q7,q8⟩:=hst l o' hl hlv
   obtain ⟨p1,p2,cs,p3,p4,p5⟩:=h.obs l o b q1 q2 hb
   refine ⟨p1,p2,cs,by rw [q3]; exact p3,by rw [q4]; exact q7 p4,fun k c' hk=>?_⟩
   obtain ⟨c,r1,r2,r3⟩:=q8 k c' hk
   obtain ⟨u,u1,u2⟩:=p5 k c r1
   exact ⟨u,u1,r2 u (hB c u u2)⟩
  nil:=fun l o' hl hlv hb=>by
   obtain ⟨o,q1,q2,q3,q4,q5,q6,q7,q8⟩:=hst l o' hl hlv
   have:=h.nil l o q1 q2 hb
   rw [this] at q6
   exact List.eq_nil_of_length_eq_zero q6
  inj:=fun l l' o1 o2 b h1 h2 g1 g2 hb hb'=>by
   obtain ⟨p1,q1,q2,_⟩:=hst l o1 h1 g1
   obtain ⟨p2,q3,q4,_⟩:=hst l' o2 h2 g2
   exact h.inj l l' p1 p2 b q1 q3 q2 q4 hb hb'
  sep:=fun l o' b o hl hlv hb hs=>by
   obtain ⟨p,q1,q2,q3,q4,q5,q6,q7,q8⟩:=hst l o' hl hlv
   rw [q4,q5,q6]
   exact h.sep l p b o q1 q2 hb hs
  own:=h.own.move id (fun x hx=>⟨⟨hx.1,fun h=>h,hx.2.2.1,hx.2.2.2.1,fun l o' hl hlv=>by
    obtain ⟨o,q1,q2,_⟩:=hst l o' hl hlv
    exact hx.2.2.2.2 l o q1 q2⟩,rfl⟩) (fun _ _ h=>h) (fun _ _ _=>rfl)
   (fun l o' b k c hl hlv hb hk hc=>by
    obtain ⟨o,q1,q2,q3,q4,q5,q6,q7,q8⟩:=hst l o' hl hlv
    obtain ⟨c0,r1,r2,r3⟩:=q8 k c hk
    have:=r3 hc
    subst this
    exact ⟨o,b,q1,q2,hb,r1,rfl⟩) (fun _ _ _ _ _ _ _ _ e=>e) }
def nilV : Cl:=.v (.slice none 0 0)
theorem Core.nilOb (h : Core w0 St0 St β s a w) (e n : Nat) : ∃ β',Core w0 St0 St β' ⟨s.n,s.env,s.st ++ [⟨e,n,[],true,true⟩]⟩ a w ∧ ∀ u,RdC w St (s.st ++ [⟨e,n,[],true,true⟩]) β' nilV u → RdC w St (s.st ++ [⟨e,n,[],true,true⟩]) β' (.ref s.st.length) u:=by
 obtain ⟨a1,a2,a3⟩:=h.addOb ⟨e,n,[],true,true⟩ none (fun _=>rfl) (by simp) h.own (by simp)
 refine ⟨_,a1,fun u hu=>?_⟩
 have hu' : u = .slice none 0 0:=by
  exact (v_ok (St:=St) (w:=w) (v:=(.slice none 0 0 : Value)) (u:=u) (by simp only [AVR]; exact hu)).1
 subst hu'
 have:=ref_mk (w:=w) (St:=St) (β:=fun l=>if l = s.st.length then none else β l) (st:=s.st) (ob:=⟨e,n,[],true,true⟩) (b:=none) (u:=.slice none 0 0) rfl (by simp) fun _=>⟨rfl,rfl⟩
 simpa only [AVR] using this
theorem Head.trans (h1 : Head s t) (h2 : Head t r) : Head s r:=⟨h2.1.trans h1.1,fun w0 St0 St β a w h=>by
 obtain ⟨St',β',h'⟩:=h1.2 w0 St0 St β a w h
 exact h2.2 w0 St0 St' β' a w h'⟩
theorem Head.rel (sel : List (Nat × Bool)) (keys : List Nat) (h : relOk sel keys s) (e : Go.Vm.rel sel keys s = t) : Head s t:=⟨by rw [← e]; rfl,fun w0 St0 St β a w hc=>⟨St,relB sel β,by rw [← e]; exact hc.rel h⟩⟩
theorem Head.abs (N l0 : Nat) (keys : List Nat) (h : AbsR N l0 keys s t) : Head s t:=by
 obtain ⟨i,R,row,row',ob,⟨g1,g2,g3,g4,g5⟩,g6,⟨g7,g8⟩,g9⟩:=h
 exact ⟨by rw [← g9],fun w0 St0 St β a w hc=>⟨St,β,by rw [← g9]; exact hc.absTrim g1 g2 g3 g4 g5 g6 g7 g8⟩⟩
theorem LoopG.mk {s : MS} {body : MS → (MS → Prop) → Prop} {A : Type} (f : A → MS) (p : A → Prop) (μ : A → Nat) (x0 : A) (h0 : Head s (f x0)) (hp : p x0)
  (h : ∀ x,p x → body (f x) fun s'=>∃ y,True ∧ Head s' (f y) ∧ p y ∧ μ y < μ x) : LoopK s body :=
 ⟨fun _=>True,fun s t=>Head s t,A,f,p,μ,fun s t _ h=>h,⟨x0,trivial,h0,hp⟩,h⟩
def hasK (k : Nat) : List Nat → Bool
 | []=>false
 | x :: xs=>if x = k then true else hasK k xs
def addK : Bool → Nat → List Nat → List Nat
 | true,_,l=>l
 | false,k,l=>k :: l
def keysOf : List Nat → List (Nat × AV) → List Nat
 | _,[]=>[]
 | seen,(k,_) :: r=>addK (hasK k seen) k (keysOf (k :: seen) r)
def selK : List Nat → List (Nat × AV) → List (Nat × AV)
 | [],_=>[]
 | k :: ks,e=>(k,eget e k) :: selK ks e
def headS (dr : List Nat) (up : List (Nat × AV)) (s : MS) (st : List Ob) : MS:=⟨s.n,selK (keysOf dr s.env) (up ++ s.env),st⟩
attribute [go_sem] hasK addK keysOf selK headS
theorem LoopU.mk {s : MS} {body : MS → (MS → Prop) → Prop} (N : Nat) {A : Type} (up : A → List (Nat × AV)) (stf : A → List Ob) (p : A → Prop) (μ : A → Nat) (x0 : A)
  (h0 : trimOk N (keysOf [] s.env) s ∧ trim N (keysOf [] s.env) s = headS [] (up x0) s (stf x0) ∧ p x0)
  (h : ∀ x,p x → body (headS [] (up x) s (stf x)) fun s'=>∃ y,trimOk N (keysOf [] s.env) s' ∧ trim N (keysOf [] s.env) s' = headS [] (up y) s (stf y) ∧ p y ∧ μ y < μ x) : LoopK s body :=
 LoopK.mk N (keysOf [] s.env) (fun x=>headS [] (up x) s (stf x)) p μ x0 h0 h
theorem LoopH.mk {s : MS} {body : MS → (MS → Prop) → Prop} (dr : List Nat) {A : Type} (up : A → List (Nat × AV)) (stf : A → List Ob) (p : A → Prop) (μ : A → Nat) (x0 : A)
  (h0 : Head s (headS dr (up x0) s (stf x0))) (hp : p x0)
  (h : ∀ x,p x → body (headS dr (up x) s (stf x)) fun s'=>∃ y,True ∧ Head s' (headS dr (up y) s (stf y)) ∧ p y ∧ μ y < μ x) : LoopK s body :=
 LoopG.mk (fun x=>headS dr (up x) s (stf x)) p μ x0 h0 hp h
theorem Head.sel (sel : List (Nat × Bool)) {n : Nat} {env : List (Nat × AV)} {st : List Ob} (h : relOk sel (env.map Prod.fst) s) (e : Go.Vm.rel sel (env.map Prod.fst) s = ⟨n,env,st⟩) : Head s ⟨n,env,st⟩:=Head.rel sel _ h e
theorem Head.selAbs (sel : List (Nat × Bool)) (N l0 : Nat) {n : Nat} {env : List (Nat × AV)} {st : List Ob} (h : relOk sel (env.map Prod.fst) s) (h2 : AbsR N l0 (env.map Prod.fst) (Go.Vm.rel sel (env.map Prod.fst) s) ⟨n,env,st⟩) : Head s ⟨n,env,st⟩:=Head.trans (Head.rel sel _ h rfl) (Head.abs N l0 _ h2)
theorem rn_nrE {sel : List (Nat × Bool)} {xs : List (List Cl)} (h : nrE xs = true) : xs.map (fun x=>x.map (rnC sel)) = xs:=by
 conv=>rhs; rw [← List.map_id xs]
 exact List.map_congr_left fun x hx=>nr_rn (List.all_eq_true.1 h x hx)
theorem nr_noRefOb {N ty sz : Nat} {R : List (List Cl)} {wr live : Bool} (h : nrE R = true) : noRefOb N ⟨ty,sz,R,wr,live⟩ = true:=by
 simp only [noRefOb,Bool.or_eq_true]
 refine .inr (List.all_eq_true.2 fun x hx=>List.all_eq_true.2 fun c hc=>?_)
 have:=List.all_eq_true.1 (List.all_eq_true.1 h x hx) c hc
 cases c <;> simp_all [nrC,noRefC]
theorem all2 {N : Nat} {a b : Ob} (ha : noRefOb N a = true) (hb : noRefOb N b = true) : [a,b].all (noRefOb N) = true:=by simp [ha,hb]
theorem nr_inE {sel : List (Nat × Bool)} {xs : List (List Cl)} (h : nrE xs = true) : (xs.all fun x=>x.all (inC sel)) = true:=List.all_eq_true.2 fun x hx=>nr_in (List.all_eq_true.1 h x hx)
theorem nr_ref2 (a : Value) (l : Nat) : nrE [[.v a,.ref l]] = false:=rfl
end Go.Vm
