/- The value machine, part Ma: objects told by their blocks; what is read where it lies. -/
import Derived.Test.YtepjgnlinjlehaaGreatVmM
namespace Go.Vm
set_option linter.unusedSimpArgs false
set_option linter.unusedVariables false
open Go.RowKit

variable {P : Program} {w0 : Bs} {St0 St : Nat → Nat → Prop} {β : Nat → Option Nat} {s : MS} {a : Act} {w : World}

def nrC : Cl → Bool
  | .ref _ => false
  | _ => true
def nrE (xs : List (List Cl)) : Bool := xs.all fun x => x.all nrC
/-- The blocks of an object, all told. -/
def Fp (st : List Ob) (β : Nat → Option Nat) (φ : Nat → Nat → Nat → Prop) (l x : Nat) : Prop := ∃ ob, st[l]? = some ob ∧ ob.live = true ∧ (β l = some x ∨ ∃ k, φ l k x)

section owns
variable {φ : Nat → Nat → Nat → Prop}
def OwnD (w0 : Bs) (w : World) (St : Nat → Nat → Prop) (st : List Ob) (β : Nat → Option Nat) (φ : Nat → Nat → Nat → Prop) : Prop :=
  (∀ (l : Nat) (ob : Ob) (b k : Nat) (c : Cl), st[l]? = some ob → ob.live = true → β l = some b → ob.xs.flatten[k]? = some c → isOw c = true → ∃ u, w.cell? ⟨b, k, none⟩ = some u ∧ RdO w St c u (φ l k)) ∧
  (∀ l k x, φ l k x → (∃ ob b, st[l]? = some ob ∧ ob.live = true ∧ β l = some b) ∧ FreeB w0 (fun _ => False) w St st β x) ∧
  ∀ l l' k k' x, φ l k x → φ l' k' x → l = l' ∧ k = k'

theorem Fp_disj (h : Core w0 St0 St β s a w) (hφ : OwnD w0 w St s.st β φ) {l l' x : Nat} (h1 : Fp s.st β φ l x) (h2 : Fp s.st β φ l' x) : l = l' := by
  obtain ⟨ob, p1, p2, p3⟩ := h1
  obtain ⟨ob', q1, q2, q3⟩ := h2
  rcases p3 with p3 | ⟨k, p3⟩ <;> rcases q3 with q3 | ⟨k', q3⟩
  · exact h.inj l l' ob ob' x p1 q1 p2 q2 p3 q3
  · exact absurd p3 ((hφ.2.1 l' k' x q3).2.2.2.2.2 l ob p1 p2)
  · exact absurd q3 ((hφ.2.1 l k x p3).2.2.2.2.2 l' ob' q1 q2)
  · exact (hφ.2.2 l l' k k' x p3 q3).1

theorem Fp_free (h : Core w0 St0 St β s a w) (hφ : OwnD w0 w St s.st β φ) {l x : Nat} (h1 : Fp s.st β φ l x) (hwr : ∀ ob, s.st[l]? = some ob → ob.wr = true) : w0.may x ∧ x < w.heap.size ∧ ∀ o, ¬ St x o := by
  obtain ⟨ob, p1, p2, p3⟩ := h1
  rcases p3 with p3 | ⟨k, p3⟩
  · obtain ⟨q1, q2, _⟩ := h.obs l ob x p1 p2 p3
    refine ⟨q1, q2, fun o ho => ?_⟩
    have := (h.sep l ob x o p1 p2 p3 ho).1
    rw [hwr ob p1] at this
    cases this
  · obtain ⟨q1, _, q3, q4, _⟩ := (hφ.2.1 l k x p3).2
    exact ⟨q1, q3, q4⟩

/-- The cells of an object that refers to no object: as of its own. -/
theorem ob_cells (h : Core w0 St0 St β s a w) (hφ : OwnD w0 w St s.st β φ) {l b : Nat} {ob : Ob} (hl : s.st[l]? = some ob) (hlive : ob.live = true) (hβ : β l = some b) (hnr : nrE ob.xs = true) {cs : Array Value} (hcs : w.heap[b]? = some (.cells cs ob.ty (0, 0))) :
    ∀ (k : Nat) (c : Cl), ob.xs.flatten[k]? = some c → ∃ y, cs[k]? = some y ∧ RdO w St c y (φ l k) := by
  intro k c hk
  obtain ⟨_, _, cs', g1, g2, g3⟩ := h.obs l ob b hl hlive hβ
  rw [hcs] at g1
  simp only [Option.some.injEq, Obj.cells.injEq, and_true] at g1
  subst g1
  obtain ⟨y, hy, hr⟩ := g3 k c hk
  cases ho : isOw c with
  | true =>
    obtain ⟨u, hu, hro⟩ := hφ.1 l ob b k c hl hlive hβ hk ho
    simp only [World.cell?, hcs, Option.isSome_none, Bool.false_eq_true, if_false] at hu
    rw [hy] at hu
    cases hu
    exact ⟨y, hy, hro⟩
  | false =>
    refine ⟨y, hy, (RdO.plain ho).2 ?_⟩
    have hrc := hr.toC ho
    obtain ⟨x, hx, hcx⟩ := List.mem_flatten.1 (List.mem_of_getElem? hk)
    have hn := List.all_eq_true.1 (List.all_eq_true.1 hnr x hx) c hcx
    cases c with
    | ref l => simp [nrC] at hn
    | v x => exact hrc
    | sl x => exact hrc
    | ow ty sz x => simp [isOw] at ho

end owns
/-- An object's slice, read as of its own. -/
theorem ref_ow (h : Core w0 St0 St β s a w) {φ : Nat → Nat → Nat → Prop} (hφ : OwnD w0 w St s.st β φ) {l : Nat} {ob : Ob} (hob : obAt s.st l = some ob) (hnr : nrE ob.xs = true) {u : Value} (hu : RefR w s.st β l u) : RdO w St (.ow ob.ty ob.sz ob.xs) u (Fp s.st β φ l) := by
  obtain ⟨hl, hlive⟩ := obAt_some hob
  simp only [RefR, hl] at hu
  have hx2 := hu.2 hlive
  simp only [RdO]
  cases hβ : β l with
  | none => simp only [hβ] at hx2; exact .inl hx2
  | some b =>
    simp only [hβ] at hx2
    obtain ⟨cap, cs, e1, e2, e3, e4, e5⟩ := hx2
    obtain ⟨_, _, _, _, g2, _⟩ := h.obs l ob b hl hlive hβ
    refine .inr ⟨b, cap, cs, φ l, e1, e2, e3, e4, e5, g2, ⟨ob, hl, hlive, .inl hβ⟩, fun k x hk => ⟨⟨ob, hl, hlive, .inr ⟨k, hk⟩⟩, fun e => ?_⟩, fun k k' x hk hk' => (hφ.2.2 l l k k' x hk hk').2, RdOE.mk fun k c hk => ?_⟩
    · exact (hφ.2.1 l k x hk).2.2.2.2.2 l ob hl hlive (by rw [hβ, e])
    · simpa using ob_cells h hφ hl hlive hβ hnr e4 k c hk

def isV : AV → Bool
  | .c (.v (.slice _ _ _)) => false
  | .c (.v _) => true
  | _ => false

theorem isV_rd {x : AV} {u : Value} (hx : isV x = true) (h : AVR w St s.st β x u) : RdA w St x u := by
  cases x with
  | c c =>
    cases c with
    | v v => simp only [AVR] at h; exact h
    | _ => simp [isV] at hx
  | _ => simp [isV] at hx
theorem isV_rds : ∀ {xs : List AV} {us : List Value}, xs.all isV = true → AVRs w St s.st β xs us → RdAs w St xs us
  | [], us, _, h => by simp only [AVRs] at h; exact h
  | x :: xs, us, hx, h => by
    simp only [List.all_cons, Bool.and_eq_true] at hx
    simp only [AVRs] at h
    obtain ⟨y, ys, h1, h2, h3⟩ := h
    exact ⟨y, ys, h1, isV_rd hx.1 h2, isV_rds hx.2 h3⟩


/-! ### Closed cells: numbers, strings and slices of their own -/
mutual
def cloC : Cl → Bool
  | .v _ => true
  | .sl _ => false
  | .ref _ => false
  | .ow _ _ xs => cloE xs
def cloE : List (List Cl) → Bool
  | [] => true
  | x :: xs => cloL x && cloE xs
def cloL : List Cl → Bool
  | [] => true
  | c :: cs => cloC c && cloL cs
end
mutual
theorem RdO.clo {w : World} {St St' : Nat → Nat → Prop} : ∀ (c : Cl) (u : Value) (F : Nat → Prop), cloC c = true → RdO w St c u F → RdO w St' c u F
  | .v x, u, F, _, h => by simp only [RdO] at h ⊢; exact h
  | .ref _, _, _, hc, _ => by simp [cloC] at hc
  | .sl _, _, _, hc, _ => by simp [cloC] at hc
  | .ow ty sz xs, u, F, hc, h => by
    simp only [RdO] at h ⊢
    simp only [cloC] at hc
    rcases h with h | ⟨b, cap, cs, G, h1, h2, h3, h4, h5, h6, h7, h8, h9, h10⟩
    · exact .inl h
    · exact .inr ⟨b, cap, cs, G, h1, h2, h3, h4, h5, h6, h7, h8, h9, RdOE.clo xs 0 cs G hc h10⟩
theorem RdOE.clo {w : World} {St St' : Nat → Nat → Prop} : ∀ (xs : List (List Cl)) (n : Nat) (cs : Array Value) (G : Nat → Nat → Prop), cloE xs = true → RdOE w St xs n cs G → RdOE w St' xs n cs G
  | [], _, _, _, _, _ => by simp [RdOE]
  | x :: xs, n, cs, G, hc, h => by
    simp only [RdOE] at h ⊢
    simp only [cloE, Bool.and_eq_true] at hc
    exact ⟨RdOL.clo x n cs G hc.1 h.1, RdOE.clo xs _ cs G hc.2 h.2⟩
theorem RdOL.clo {w : World} {St St' : Nat → Nat → Prop} : ∀ (cl : List Cl) (n : Nat) (cs : Array Value) (G : Nat → Nat → Prop), cloL cl = true → RdOL w St cl n cs G → RdOL w St' cl n cs G
  | [], _, _, _, _, _ => by simp [RdOL]
  | c :: cl, n, cs, G, hc, h => by
    simp only [RdOL] at h ⊢
    simp only [cloL, Bool.and_eq_true] at hc
    obtain ⟨⟨y, h1, h2⟩, h3⟩ := h
    exact ⟨⟨y, h1, RdO.clo c y (G n) hc.1 h2⟩, RdOL.clo cl _ cs G hc.2 h3⟩
end
theorem cloL_mem : ∀ {cs : List Cl}, cloL cs = true → ∀ c ∈ cs, cloC c = true
  | [], _, c, h => by simp at h
  | d :: cs, hc, c, h => by
    simp only [cloL, Bool.and_eq_true] at hc
    rcases List.mem_cons.1 h with rfl | h
    · exact hc.1
    · exact cloL_mem hc.2 c h
theorem cloE_mem : ∀ {xs : List (List Cl)}, cloE xs = true → ∀ x ∈ xs, cloL x = true
  | [], _, c, h => by simp at h
  | d :: cs, hc, c, h => by
    simp only [cloE, Bool.and_eq_true] at hc
    rcases List.mem_cons.1 h with rfl | h
    · exact hc.1
    · exact cloE_mem hc.2 c h
theorem cloE_of : ∀ {xs : List (List Cl)}, (∀ x ∈ xs, cloL x = true) → cloE xs = true
  | [], _ => rfl
  | d :: cs, h => by
    simp only [cloE, Bool.and_eq_true]
    exact ⟨h d (by simp), cloE_of fun x hx => h x (by simp [hx])⟩
theorem cloC_nr {c : Cl} (h : cloC c = true) : nrC c = true := by cases c <;> simp_all [cloC, nrC]
theorem cloL_nr {cs : List Cl} (h : cloL cs = true) : cs.all nrC = true := List.all_eq_true.2 fun c hc => cloC_nr (cloL_mem h c hc)
theorem cloE_nr {xs : List (List Cl)} (h : cloE xs = true) : nrE xs = true := List.all_eq_true.2 fun x hx => cloL_nr (cloE_mem h x hx)

def vOnly : Cl → Bool
  | .v _ => true
  | _ => false
/-- A result that does not look at what stays. -/
def cloR : Res → Bool
  | .val (.c (.v _)) => true
  | .val (.agg cs) => cs.all vOnly
  | .val _ => false
  | .own _ _ xs _ => cloE xs
  | .agg cl => cloL cl

theorem Res1.clo {w' : World} {St2 St : Nat → Nat → Prop} {B : Nat} {r : Res} {u : Value} {b : Option Nat} {Φ : Nat → Nat → Prop} (hc : cloR r = true) (hB : ∀ b o, St b o → b < B) (h : Res1 w' St2 B r u b Φ) : Res1 w' St B r u b Φ := by
  cases r with
  | val x =>
    obtain ⟨h1, h2⟩ := h
    refine ⟨?_, h2⟩
    cases x with
    | c c =>
      cases c with
      | v x => exact h1
      | _ => simp [cloR] at hc
    | agg cs =>
      obtain ⟨us, e1, e2, e3⟩ := h1
      refine ⟨us, e1, e2, fun k c hk => ?_⟩
      obtain ⟨y, hy, hr⟩ := e3 k c hk
      refine ⟨y, hy, ?_⟩
      have hv := List.all_eq_true.1 hc c (List.mem_of_getElem? hk)
      cases c with
      | v x => simp only [RdD] at hr ⊢; exact hr
      | _ => simp [vOnly] at hv
    | _ => simp [cloR] at hc
  | own ty sz xs wr =>
    cases b with
    | none => exact h
    | some b =>
      obtain ⟨g1, g2, g3, g4, cap, cs, e1, e2, e3, e4, e5, e6⟩ := h
      refine ⟨g1, g2, g3, fun o ho => ?_, cap, cs, e1, e2, e3, e4, e5, fun k c hk => ?_⟩
      · have := hB b o ho
        omega
      · obtain ⟨y, hy, hr⟩ := e6 k c hk
        obtain ⟨x, hx, hcx⟩ := List.mem_flatten.1 (List.mem_of_getElem? hk)
        exact ⟨y, hy, RdO.clo c y _ (cloL_mem (cloE_mem hc x hx) c hcx) hr⟩
  | agg cl =>
    obtain ⟨h1, us, e1, e2, e3⟩ := h
    refine ⟨h1, us, e1, e2, fun k c hk => ?_⟩
    obtain ⟨y, hy, hr⟩ := e3 k c hk
    exact ⟨y, hy, RdO.clo c y _ (cloL_mem hc c (List.mem_of_getElem? hk)) hr⟩

theorem ResR.clo {w' : World} {St2 St : Nat → Nat → Prop} {B : Nat} (hB : ∀ b o, St b o → b < B) : ∀ {rs : List Res} {us : List Value} {bs : List (Option Nat)} {Φs : List (Nat → Nat → Prop)}, rs.all cloR = true → ResR w' St2 B rs us bs Φs → ResR w' St B rs us bs Φs
  | [], us, bs, Φs, _, h => h
  | r :: rs, us, bs, Φs, hc, h => by
    simp only [List.all_cons, Bool.and_eq_true] at hc
    obtain ⟨u, us', b, bs', Φ, Φs', e1, e2, e3, h1, h2⟩ := h
    exact ⟨u, us', b, bs', Φ, Φs', e1, e2, e3, h1.clo hc.1 hB, ResR.clo hB hc.2 h2⟩

theorem Back.clo {St1 St2 : Nat → Nat → Prop} {rs : List Res} {e : Ending} {w' : World} {us : List Value} {bs : List (Option Nat)} (hb : Back w St1 rs e w' us bs St2) (hc : rs.all cloR = true) (hin : ∀ b o, St b o → b < w.heap.size) : Back w St rs e w' us bs St := by
  obtain ⟨Φs, hr, hf⟩ := hb.res
  exact ⟨hb.ret, hb.below, fun _ _ h => h, fun _ _ h _ => h, fun b o h => Nat.lt_of_lt_of_le (hin b o h) hb.below.size, Φs, hr.clo hin hc, hf.nodup, fun i Φ k x hi hx => by
    obtain ⟨q1, q2, q3, q4⟩ := hf.fresh i Φ k x hi hx
    exact ⟨q1, q2, fun o ho => by have := hin x o ho; omega, q4⟩, hf.dis⟩

/-! ### An argument that is read where it lies -/
def borC (st : List Ob) : Cl → Option Cl
  | .ref l => match obAt st l with
    | some ob => if nrE ob.xs then some (.sl (erE ob.xs)) else none
    | none => none
  | .v x => fzC st (.v x)
  | .sl xs => some (.sl xs)
  | .ow _ _ _ => none
def borL (st : List Ob) : List Cl → Option (List Cl)
  | [] => some []
  | c :: cs => match borC st c, borL st cs with
    | some d, some ds => some (d :: ds)
    | _, _ => none
def borA (st : List Ob) : AV → Option AV
  | .c x => match borC st x with
    | some d => some (.c d)
    | none => none
  | .agg xs => match borL st xs with
    | some ys => some (.agg ys)
    | none => none
  | _ => none
def borAs (st : List Ob) : List AV → Option (List AV)
  | [] => some []
  | x :: xs => match borA st x, borAs st xs with
    | some y, some ys => some (y :: ys)
    | _, _ => none

/-- All that can be read. -/
def AllSt (w : World) (St : Nat → Nat → Prop) (st : List Ob) (β : Nat → Option Nat) (φ : Nat → Nat → Nat → Prop) (b o : Nat) : Prop := St b o ∨ ∃ l, Fp st β φ l b
theorem AllSt.lt {φ : Nat → Nat → Nat → Prop} (h : Core w0 St0 St β s a w) (hφ : OwnD w0 w St s.st β φ) {b o : Nat} (hb : AllSt w St s.st β φ b o) : b < w.heap.size := by
  rcases hb with hb | ⟨l, ob, p1, p2, p3⟩
  · exact h.stIn b o hb
  · rcases p3 with p3 | ⟨k, p3⟩
    · exact (h.obs l ob b p1 p2 p3).2.1
    · exact (hφ.2.1 l k b p3).2.2.2.1

section
variable {φ : Nat → Nat → Nat → Prop}
theorem borC_ok (h : Core w0 St0 St β s a w) (hφ : OwnD w0 w St s.st β φ) {c d : Cl} (hc : borC s.st c = some d) {u : Value} (hu : RdC w St s.st β c u) : RdD w (AllSt w St s.st β φ) d u := by
  cases c with
  | ow ty sz xs => simp [borC] at hc
  | sl xs =>
    simp only [borC, Option.some.injEq] at hc
    subst hc
    exact RdD.mono (fun _ _ h => .inl h) (fun _ _ _ => rfl) _ _ hu
  | v x =>
    simp only [borC] at hc
    obtain ⟨St', q1, q2, q3, q4⟩ := fzC_ok h hc
    have hr := q4 u (RdC.toB hu)
    unfold fzC at hc
    split at hc
    · simp only [Option.some.injEq] at hc
      subst hc
      simp only [RdD] at hr ⊢
      obtain ⟨a, cap, h1, h2, h3, h4, _⟩ := hr
      exact ⟨a, cap, h1, h2, h3, h4, .inl (by first | trivial | rfl)⟩
    · cases hc
    · rename_i y _ _ he
      simp only [Option.some.injEq] at hc
      subst hc
      cases he
      simp only [RdD] at hr ⊢
      exact hr
    · rename_i he; cases he
    · rename_i he; cases he
    · rename_i he; cases he
  | ref l =>
    simp only [borC] at hc
    split at hc
    · rename_i ob hob
      split at hc
      · rename_i hnr
        simp only [Option.some.injEq] at hc
        subst hc
        have hr := ref_ow h hφ hob hnr (by simpa only [RdC] using hu)
        have := RdO.frz _ _ _ hr
        simp only [er] at this
        exact RdD.mono (fun b o hbo => by
          rcases hbo with hbo | hbo
          · exact .inl hbo
          · exact .inr ⟨l, hbo⟩) (fun _ _ _ => rfl) _ _ this
      · cases hc
    · cases hc
theorem borL_ok {st : List Ob} : ∀ {cs ds : List Cl}, borL st cs = some ds → ds.length = cs.length ∧ ∀ (k : Nat) (d : Cl), ds[k]? = some d → ∃ c, cs[k]? = some c ∧ borC st c = some d
  | [], ds, h => by
    simp only [borL, Option.some.injEq] at h
    subst h
    exact ⟨rfl, fun k d hk => by simp at hk⟩
  | c :: cs, ds, h => by
    simp only [borL] at h
    split at h
    · rename_i d ds' h1 h2
      simp only [Option.some.injEq] at h
      subst h
      obtain ⟨q1, q2⟩ := borL_ok h2
      refine ⟨by simp [q1], fun k e hk => ?_⟩
      cases k with
      | zero => simp only [List.getElem?_cons_zero, Option.some.injEq] at hk; subst hk; exact ⟨c, rfl, h1⟩
      | succ k => simpa using q2 k e (by simpa using hk)
    · cases h
theorem borA_ok (h : Core w0 St0 St β s a w) (hφ : OwnD w0 w St s.st β φ) {x y : AV} (hx : borA s.st x = some y) {u : Value} (hu : AVR w St s.st β x u) : RdA w (AllSt w St s.st β φ) y u := by
  unfold borA at hx
  split at hx
  · split at hx
    · rename_i d hd
      simp only [Option.some.injEq] at hx
      subst hx
      simp only [AVR] at hu
      exact borC_ok h hφ hd hu
    · cases hx
  · split at hx
    · rename_i ys hys
      simp only [Option.some.injEq] at hx
      subst hx
      simp only [AVR] at hu
      obtain ⟨us, e1, e2, e3⟩ := hu
      obtain ⟨q1, q2⟩ := borL_ok hys
      refine ⟨us, e1, by rw [q1, e2], fun k d hk => ?_⟩
      obtain ⟨c, hc, hb⟩ := q2 k d hk
      obtain ⟨y, hy, hr⟩ := e3 k c hc
      exact ⟨y, hy, borC_ok h hφ hb hr⟩
    · cases hx
  · cases hx
theorem borAs_ok (h : Core w0 St0 St β s a w) (hφ : OwnD w0 w St s.st β φ) : ∀ {xs ys : List AV}, borAs s.st xs = some ys → ∀ {us : List Value}, AVRs w St s.st β xs us → RdAs w (AllSt w St s.st β φ) ys us
  | [], ys, hx, us, hu => by
    simp only [borAs, Option.some.injEq] at hx
    subst hx
    simp only [AVRs] at hu
    exact hu
  | x :: xs, ys, hx, us, hu => by
    simp only [borAs] at hx
    split at hx
    · rename_i y ys' h1 h2
      simp only [Option.some.injEq] at hx
      subst hx
      simp only [AVRs] at hu
      obtain ⟨v, vs, e, g1, g2⟩ := hu
      exact ⟨v, vs, e, borA_ok h hφ h1 g1, borAs_ok h hφ h2 g2⟩
    · cases hx
end

end Go.Vm
