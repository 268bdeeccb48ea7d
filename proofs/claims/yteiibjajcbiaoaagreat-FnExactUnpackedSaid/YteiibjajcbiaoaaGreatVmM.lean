/- The value machine, part M: contracts, calls. -/
import Derived.Test.YteiibjajcbiaoaaGreatVmL
namespace Go.Vm
set_option linter.unusedSimpArgs false
set_option linter.unusedVariables false
open Go.RowKit

/-- A result: a value; or a slice of its own. -/
inductive Res where
  | val (x : AV)
  | own (ty : TypeId) (sz : Nat) (xs : List (List Cl)) (wr : Bool)

def Res1 (w' : World) (St' : Nat → Nat → Prop) (B : Nat) : Res → Value → Option Nat → Prop
  | .val x, u, b => RdA w' St' x u ∧ b = none
  | .own _ _ xs _, u, none => u = .slice none 0 0 ∧ xs = []
  | .own ty sz xs wr, u, some b => B ≤ b ∧ b < w'.heap.size ∧ (∀ x ∈ xs, x.length = sz) ∧ (∀ o, St' b o → wr = false ∧ o < xs.length * sz) ∧
      ∃ (cap : Nat) (cs : Array Value), u = .slice (some ⟨b, 0, none⟩) xs.length cap ∧ xs.length ≤ cap ∧ cap ≤ maxLen ∧ w'.heap[b]? = some (.cells cs ty (0, 0)) ∧ cs.size = cap * sz ∧
        ∀ (k : Nat) (c : Cl), xs.flatten[k]? = some c → ∃ y, cs[k]? = some y ∧ RdD w' St' c y
def ResR (w' : World) (St' : Nat → Nat → Prop) (B : Nat) : List Res → List Value → List (Option Nat) → Prop
  | [], us, bs => us = [] ∧ bs = []
  | r :: rs, us, bs => ∃ u us' b bs', us = u :: us' ∧ bs = b :: bs' ∧ Res1 w' St' B r u b ∧ ResR w' St' B rs us' bs'

def tupV : List Value → Value
  | [u] => u
  | us => .tuple us.toArray

/-- What a call of f with these pure arguments hands back. -/
structure Back (w : World) (St : Nat → Nat → Prop) (rs : List Res) (e : Ending) (w' : World) (us : List Value) (bs : List (Option Nat)) (St' : Nat → Nat → Prop) : Prop where
  ret : e = .returned (tupV us)
  below : Below w.heap.size w w'
  st : ∀ b o, St b o → St' b o
  stOld : ∀ b o, St' b o → b < w.heap.size → St b o
  stIn : ∀ b o, St' b o → b < w'.heap.size
  res : ResR w' St' w.heap.size rs us bs
  nodup : ∀ (i j b : Nat), bs[i]? = some (some b) → bs[j]? = some (some b) → i = j

def CallsIn (P : Program) (f : FuncId) : Prop := ∀ args w, (callFunc f args).run P w = .ok (.enter f args) w

/-- THE CONTRACT of function f at these arguments. -/
def Ctr (P : Program) (f : FuncId) (args : List AV) (rs : List Res) : Prop :=
  CallsIn P f ∧ ∀ (w : World) (St : Nat → Nat → Prop) (vs : List Value), (∀ b o, St b o → b < w.heap.size) → RdAs w St args vs →
    Calls P f vs.toArray w fun e w' => ∃ us bs St', Back w St rs e w' us bs St'

def WfR : Res → Prop
  | .val x => WfA x
  | .own _ _ xs _ => xs.length ≤ maxLen ∧ WfE xs
def WfRs : List Res → Prop
  | [] => True
  | r :: rs => WfR r ∧ WfRs rs

theorem flat_rows {xs : List (List Cl)} {sz : Nat} {Q : Cl → Prop} (hl : ∀ x ∈ xs, x.length = sz) (h : ∀ (k : Nat) (c : Cl), xs.flatten[k]? = some c → Q c) : ∀ x ∈ xs, ∀ (j : Nat) (c : Cl), x[j]? = some c → Q c := by
  intro x hx j c hj
  obtain ⟨i, hi⟩ := List.mem_iff_getElem?.1 hx
  exact h _ c (flatten_at hl i j x c hi hj)

theorem ResR.wf {w' : World} {St' : Nat → Nat → Prop} {B : Nat} : ∀ {rs : List Res} {us : List Value} {bs : List (Option Nat)}, ResR w' St' B rs us bs → WfRs rs
  | [], _, _, _ => trivial
  | r :: rs, us, bs, h => by
    obtain ⟨u, us', b, bs', _, _, h1, h2⟩ := h
    refine ⟨?_, h2.wf⟩
    cases r with
    | val x => exact h1.1.wf
    | own ty sz xs wr =>
      cases b with
      | none => obtain ⟨_, rfl⟩ := h1; exact ⟨by simp, trivial⟩
      | some b =>
        obtain ⟨_, _, hl, _, cap, cs, _, q1, q2, _, _, q3⟩ := h1
        refine ⟨by omega, WfE_of _ fun x hx => WfL_of _ fun k c hk => ?_⟩
        exact flat_rows (Q := WfC) hl (fun k c hk => by obtain ⟨y, _, hy⟩ := q3 k c hk; exact RdD.wf _ _ hy) x hx k c hk

variable {P : Program} {w0 : World} {St0 St : Nat → Nat → Prop} {β : Nat → Option Nat} {s : MS} {a : Act} {w : World}

/-- One more object, whose block lies already. -/
theorem Core.addOb (h : Core w0 St0 St β s a w) (ob : Ob) (ob' : Option Nat) (hnone : ob' = none → ob.xs = [])
    (hsome : ∀ b, ob' = some b → w0.heap.size ≤ b ∧ b < w.heap.size ∧ (∀ l o2, s.st[l]? = some o2 → o2.live = true → β l ≠ some b) ∧ (∀ o, St b o → ob.wr = false ∧ o < ob.xs.length * ob.sz) ∧
      ∃ cs : Array Value, w.heap[b]? = some (.cells cs ob.ty (0, 0)) ∧ (∀ x ∈ ob.xs, x.length = ob.sz) ∧ ∀ (k : Nat) (c : Cl), ob.xs.flatten[k]? = some c → ∃ u, cs[k]? = some u ∧ RdC w St s.st β c u) :
    Core w0 St0 St (fun l => if l = s.st.length then ob' else β l) ⟨s.n, s.env, s.st ++ [ob]⟩ a w ∧
      (∀ x u, AVR w St s.st β x u → AVR w St (s.st ++ [ob]) (fun l => if l = s.st.length then ob' else β l) x u) ∧ (∀ x u, RdC w St s.st β x u → RdC w St (s.st ++ [ob]) (fun l => if l = s.st.length then ob' else β l) x u) := by
  have hold : ∀ l, l < s.st.length → (s.st ++ [ob])[l]? = s.st[l]? := fun l hl => by rw [List.getElem?_append_left hl]
  have hr : ∀ l u, RefR w s.st β l u → RefR w (s.st ++ [ob]) (fun l => if l = s.st.length then ob' else β l) l u := by
    intro l u hu
    have hl := dom_ref hu
    unfold RefR at hu ⊢
    have hne : ¬ l = s.st.length := by omega
    simp only [hold l hl, hne, if_false]
    exact hu
  have hp : ∀ l i off u, AVR w St s.st β (.lp l i off) u → AVR w St (s.st ++ [ob]) (fun l => if l = s.st.length then ob' else β l) (.lp l i off) u := by
    intro l i off u hu
    have hl := dom_lp hu
    have hne : ¬ l = s.st.length := by omega
    simp only [AVR, hold l hl, hne, if_false] at hu ⊢
    exact hu
  have hA : ∀ x u, AVR w St s.st β x u → AVR w St (s.st ++ [ob]) (fun l => if l = s.st.length then ob' else β l) x u := fun x u hx => AVR.mono (fun _ _ h => h) (fun _ _ _ => rfl) hr hp x u hx
  have hC : ∀ x u, RdC w St s.st β x u → RdC w St (s.st ++ [ob]) (fun l => if l = s.st.length then ob' else β l) x u := fun x u hx => RdC.mono (fun _ _ h => h) (fun _ _ _ => rfl) hr x u hx
  have hsplit : ∀ l o2, (s.st ++ [ob])[l]? = some o2 → (l < s.st.length ∧ s.st[l]? = some o2) ∨ (l = s.st.length ∧ o2 = ob) := by
    intro l o2 hl
    rcases Nat.lt_or_ge l s.st.length with h1 | h1
    · exact .inl ⟨h1, by rwa [hold l h1] at hl⟩
    · rw [List.getElem?_append_right h1] at hl
      rcases Nat.lt_or_ge 0 (l - s.st.length) with h2 | h2
      · rw [List.getElem?_eq_none (by simp; omega)] at hl; cases hl
      · have : l - s.st.length = 0 := by omega
        simp [this] at hl
        exact .inr ⟨by omega, hl.symm⟩
  refine ⟨?_, hA, hC⟩
  exact {
    defers := h.defers
    size := h.size
    env := fun i => hA _ _ (h.env i)
    below := h.below
    st0 := h.st0
    stOld := h.stOld
    stIn := h.stIn
    obs := fun l o2 b hl hlive hβ => by
      rcases hsplit l o2 hl with ⟨h1, h2⟩ | ⟨rfl, rfl⟩
      · have hne : ¬ l = s.st.length := by omega
        simp only [hne, if_false] at hβ
        obtain ⟨q1, q2, cs, g1, g2, g3⟩ := h.obs l o2 b h2 hlive hβ
        refine ⟨q1, q2, cs, g1, g2, fun k c hk => ?_⟩
        obtain ⟨u, hu, hc⟩ := g3 k c hk
        exact ⟨u, hu, hC _ _ hc⟩
      · simp only [if_true] at hβ
        obtain ⟨q1, q2, _, _, cs, g1, g2, g3⟩ := hsome b hβ
        refine ⟨q1, q2, cs, g1, g2, fun k c hk => ?_⟩
        obtain ⟨u, hu, hc⟩ := g3 k c hk
        exact ⟨u, hu, hC _ _ hc⟩
    nil := fun l o2 hl hlive hβ => by
      rcases hsplit l o2 hl with ⟨h1, h2⟩ | ⟨rfl, rfl⟩
      · have hne : ¬ l = s.st.length := by omega
        simp only [hne, if_false] at hβ
        exact h.nil l o2 h2 hlive hβ
      · simp only [if_true] at hβ
        exact hnone hβ
    inj := fun l1 l2 o1 o2 b h1 h2 h3 h4 h5 h6 => by
      rcases hsplit l1 o1 h1 with ⟨p1, p2⟩ | ⟨rfl, rfl⟩ <;> rcases hsplit l2 o2 h2 with ⟨q1, q2⟩ | ⟨rfl, rfl⟩
      · have e1 : ¬ l1 = s.st.length := by omega
        have e2 : ¬ l2 = s.st.length := by omega
        simp only [e1, e2, if_false] at h5 h6
        exact h.inj l1 l2 o1 o2 b p2 q2 h3 h4 h5 h6
      · have e1 : ¬ l1 = s.st.length := by omega
        simp only [e1, if_false, if_true] at h5 h6
        exact absurd h5 ((hsome b h6).2.2.1 l1 o1 p2 h3)
      · have e1 : ¬ l2 = s.st.length := by omega
        simp only [e1, if_false, if_true] at h5 h6
        exact absurd h6 ((hsome b h5).2.2.1 l2 o2 q2 h4)
      · rfl
    sep := fun l o2 b o hl hlive hβ hbo => by
      rcases hsplit l o2 hl with ⟨h1, h2⟩ | ⟨rfl, rfl⟩
      · have hne : ¬ l = s.st.length := by omega
        simp only [hne, if_false] at hβ
        exact h.sep l o2 b o h2 hlive hβ hbo
      · simp only [if_true] at hβ
        exact (hsome b hβ).2.2.2.1 o hbo }

def resA (st : List Ob) : List Res → List AV × List Ob
  | [] => ([], st)
  | .val x :: r => (x :: (resA st r).1, (resA st r).2)
  | .own ty sz xs wr :: r => (.c (.ref st.length) :: (resA (st ++ [⟨ty, sz, xs, wr, true⟩]) r).1, (resA (st ++ [⟨ty, sz, xs, wr, true⟩]) r).2)
def resF : List Res → List AV
  | [] => []
  | .val x :: r => x :: resF r
  | .own _ _ xs _ :: r => .c (.sl xs) :: resF r
def retA : List AV → AV
  | [x] => x
  | xs => .tup xs

/-- The results as objects of the caller. -/
theorem resA_ok (B : Nat) : ∀ (rs : List Res) (us : List Value) (bs : List (Option Nat)) (st : List Ob) (β : Nat → Option Nat), Core w0 St0 St β ⟨s.n, s.env, st⟩ a w → w0.heap.size ≤ B → ResR w St B rs us bs →
    (∀ (i j b : Nat), bs[i]? = some (some b) → bs[j]? = some (some b) → i = j) → (∀ (i b : Nat), bs[i]? = some (some b) → ∀ l o2, st[l]? = some o2 → o2.live = true → β l ≠ some b) →
    ∃ β', Core w0 St0 St β' ⟨s.n, s.env, (resA st rs).2⟩ a w ∧ AVRs w St (resA st rs).2 β' (resA st rs).1 us ∧ (∀ x u, AVR w St st β x u → AVR w St (resA st rs).2 β' x u)
  | [], us, bs, st, β, h, _, hr, _, _ => by
    obtain ⟨rfl, rfl⟩ := hr
    exact ⟨β, h, by simp [resA, AVRs], fun _ _ h => h⟩
  | r :: rs, us, bs, st, β, h, hB, hr, hnd, hfr => by
    obtain ⟨u, us', b, bs', rfl, rfl, h1, h2⟩ := hr
    have hnd' : ∀ (i j b : Nat), bs'[i]? = some (some b) → bs'[j]? = some (some b) → i = j := fun i j b hi hj => by
      have := hnd (i + 1) (j + 1) b (by simpa using hi) (by simpa using hj)
      omega
    cases r with
    | val x =>
      obtain ⟨h1, _⟩ := h1
      obtain ⟨β', q1, q2, q3⟩ := resA_ok B rs us' bs' st β h hB h2 hnd' (fun i b hi => hfr (i + 1) b (by simpa using hi))
      refine ⟨β', q1, ?_, q3⟩
      simp only [resA, AVRs]
      exact ⟨u, us', rfl, q3 _ _ h1.toAVR, q2⟩
    | own ty sz xs wr =>
      have hadd := h.addOb ⟨ty, sz, xs, wr, true⟩ b (fun hb => by subst hb; exact h1.2) (fun b0 hb => by
        subst hb
        obtain ⟨g1, g2, g3, g4, cap, cs, e1, e2, e3, e4, e5, e6⟩ := h1
        refine ⟨by omega, g2, hfr 0 b0 rfl, g4, cs, e4, g3, fun k c hk => ?_⟩
        obtain ⟨y, hy, hc⟩ := e6 k c hk
        exact ⟨y, hy, hc.toC⟩)
      obtain ⟨a1, a2, a3⟩ := hadd
      simp only at a1 a2 a3
      obtain ⟨β', q1, q2, q3⟩ := resA_ok B rs us' bs' (st ++ [⟨ty, sz, xs, wr, true⟩]) _ a1 hB h2 hnd' (fun i b2 hi l o2 hl hlive => by
        by_cases e : l = st.length
        · subst e
          simp only [if_true]
          intro hb
          subst hb
          have := hnd 0 (i + 1) b2 rfl (by simpa using hi)
          omega
        · simp only [e, if_false]
          have hl' : st[l]? = some o2 := by
            rcases Nat.lt_or_ge l st.length with h' | h'
            · rwa [List.getElem?_append_left h'] at hl
            · rw [List.getElem?_eq_none (by simp; omega)] at hl; cases hl
          exact hfr (i + 1) b2 (by simpa using hi) l o2 hl' hlive)
      refine ⟨β', q1, ?_, fun x u hx => q3 x u (a2 x u hx)⟩
      simp only [resA, AVRs]
      refine ⟨u, us', rfl, q3 _ _ ?_, q2⟩
      simp only [AVR, RdC, RefR]
      rw [List.getElem?_append_right (Nat.le_refl _)]
      simp only [Nat.sub_self, List.getElem?_cons_zero, if_true]
      cases b with
      | none =>
        obtain ⟨rfl, hx⟩ := h1
        exact ⟨rfl, fun _ => ⟨rfl, hx⟩⟩
      | some b =>
        obtain ⟨g1, g2, g3, g4, cap, cs, e1, e2, e3, e4, e5, e6⟩ := h1
        subst e1
        exact ⟨rfl, fun _ => ⟨cap, cs, rfl, e2, e3, e4, e5⟩⟩

theorem retA_ok {st : List Ob} : ∀ {xs : List AV} {us : List Value}, AVRs w St st β xs us → AVR w St st β (retA xs) (tupV us)
  | [], us, h => by simp only [AVRs] at h; subst h; simp only [retA, tupV, AVR]; exact ⟨[], rfl, by simp [AVRs]⟩
  | [x], us, h => by
    simp only [AVRs] at h
    obtain ⟨y, ys, rfl, h1, rfl⟩ := h
    exact h1
  | x :: x2 :: xs, us, h => by
    have h' := h
    simp only [AVRs] at h
    obtain ⟨y, ys, rfl, h1, y2, ys2, rfl, h2, h3⟩ := h
    simp only [retA, tupV, AVR]
    exact ⟨_, rfl, h'⟩

/-- Frozen results: all values. -/
theorem resF_ok (h : Core w0 St0 St β s a w) (B : Nat) (hB : w0.heap.size ≤ B) {rs : List Res} {us : List Value} {bs : List (Option Nat)} (hr : ResR w St B rs us bs) (hnd : ∀ (i j b : Nat), bs[i]? = some (some b) → bs[j]? = some (some b) → i = j)
    (hfr : ∀ (i b : Nat), bs[i]? = some (some b) → ∀ l o2, s.st[l]? = some o2 → o2.live = true → β l ≠ some b) :
    ∃ St', Core w0 St0 St' β s a w ∧ (∀ b o, St b o → St' b o) ∧ RdAs w St' (resF rs) us := by
  induction rs generalizing us bs St with
  | nil =>
    obtain ⟨rfl, rfl⟩ := hr
    exact ⟨St, h, fun _ _ h => h, rfl⟩
  | cons r rs ih =>
    obtain ⟨u, us', b, bs', rfl, rfl, h1, h2⟩ := hr
    have hnd' : ∀ (i j b : Nat), bs'[i]? = some (some b) → bs'[j]? = some (some b) → i = j := fun i j b hi hj => by
      have := hnd (i + 1) (j + 1) b (by simpa using hi) (by simpa using hj)
      omega
    cases r with
    | val x =>
      obtain ⟨h1, rfl⟩ := h1
      obtain ⟨St', q1, q2, q3⟩ := ih h h2 hnd' (fun i b hi => hfr (i + 1) b (by simpa using hi))
      exact ⟨St', q1, q2, u, us', rfl, h1.mono q2 (fun _ _ _ => rfl), q3⟩
    | own ty sz xs wr =>
      cases b with
      | none =>
        obtain ⟨rfl, rfl⟩ := h1
        obtain ⟨St', q1, q2, q3⟩ := ih h h2 hnd' (fun i b hi => hfr (i + 1) b (by simpa using hi))
        refine ⟨St', q1, q2, _, us', rfl, ?_, q3⟩
        simp only [RdA, RdD]
        exact ⟨none, 0, rfl, by simp, by simp [maxLen], ⟨0, by simp⟩, .inl trivial⟩
      | some b =>
        obtain ⟨g1, g2, g3, g4, cap, cs, rfl, e2, e3, e4, e5, e6⟩ := h1
        -- let the cells of b be of what stays
        have hS : ∀ b' o, St b' o → St b' o ∨ (b' = b ∧ o < xs.length * sz) := fun _ _ h => .inl h
        have hcore : Core w0 St0 (fun b' o => St b' o ∨ (b' = b ∧ o < xs.length * sz)) β s a w := {
          defers := h.defers
          size := h.size
          env := fun i => AVR.mono hS (fun _ _ _ => rfl) (fun _ _ h => h) (fun l i off u hu => by simpa only [AVR] using hu) _ _ (h.env i)
          below := h.below
          st0 := fun b' o hbo => .inl (h.st0 b' o hbo)
          stOld := fun b' o hbo hlt => by
            rcases hbo with hbo | ⟨rfl, _⟩
            · exact h.stOld b' o hbo hlt
            · omega
          stIn := fun b' o hbo => by
            rcases hbo with hbo | ⟨rfl, _⟩
            · exact h.stIn b' o hbo
            · exact g2
          obs := fun l ob b' hl hlive hβ => by
            obtain ⟨p1, p2, p3⟩ := h.obs l ob b' hl hlive hβ
            exact ⟨p1, p2, ObR.mono hS (fun _ _ _ => rfl) (fun _ _ h => h) rfl p3⟩
          nil := h.nil
          inj := h.inj
          sep := fun l ob b' o hl hlive hβ hbo => by
            rcases hbo with hbo | ⟨rfl, _⟩
            · exact h.sep l ob b' o hl hlive hβ hbo
            · exact absurd hβ (hfr 0 b' rfl l ob hl hlive) }
        have key : ∀ (rs : List Res) (us : List Value) (bs2 : List (Option Nat)), ResR w St B rs us bs2 → (∀ (i : Nat), bs2[i]? ≠ some (some b)) → ResR w (fun b' o => St b' o ∨ (b' = b ∧ o < xs.length * sz)) B rs us bs2 := by
          intro rs
          induction rs with
          | nil => intro us bs2 h _; exact h
          | cons r rs ih =>
            intro us bs2 h hne
            obtain ⟨u, us', b3, bs3, rfl, rfl, k1, k2⟩ := h
            refine ⟨u, us', b3, bs3, rfl, rfl, ?_, ih us' bs3 k2 (fun i => by simpa using hne (i + 1))⟩
            cases r with
            | val x => exact ⟨k1.1.mono hS (fun _ _ _ => rfl), k1.2⟩
            | own ty sz xs wr =>
              cases b3 with
              | none => exact k1
              | some b3 =>
                obtain ⟨m1, m2, m3, m4, cap, cs, n1, n2, n3, n4, n5, n6⟩ := k1
                refine ⟨m1, m2, m3, fun o hbo => ?_, cap, cs, n1, n2, n3, n4, n5, fun k c hk => ?_⟩
                · rcases hbo with hbo | ⟨e, _⟩
                  · exact m4 o hbo
                  · exact absurd (by simp [e]) (hne 0)
                · obtain ⟨y, hy, hc⟩ := n6 k c hk
                  exact ⟨y, hy, RdD.mono hS (fun _ _ _ => rfl) _ _ hc⟩
        have hdup : ∀ (i : Nat), bs'[i]? ≠ some (some b) := fun i hi => by
          have := hnd 0 (i + 1) b rfl (by simpa using hi)
          omega
        · obtain ⟨St', q1, q2, q3⟩ := ih hcore (key rs us' bs' h2 hdup) hnd' (fun i b hi => hfr (i + 1) b (by simpa using hi))
          refine ⟨St', q1, fun b' o hbo => q2 b' o (.inl hbo), _, us', rfl, ?_, q3⟩
          simp only [RdA, RdD]
          refine ⟨some ⟨b, 0, none⟩, cap, rfl, e2, e3, ⟨sz, g3⟩, .inr ⟨b, 0, rfl, ?_⟩⟩
          refine RdE.mk sz g3 fun i x hi => RdL.mk fun j c hj => ?_
          have hf := flatten_at g3 i j x c hi hj
          obtain ⟨v, hv, hc⟩ := e6 _ c hf
          have hlt : i * sz + j < xs.length * sz := by
            rw [← flatten_len g3]
            rcases Nat.lt_or_ge (i * sz + j) xs.flatten.length with h' | h'
            · exact h'
            · simp [List.getElem?_eq_none h'] at hf
          refine ⟨q2 _ _ (.inr ⟨rfl, by omega⟩), v, ?_, ?_⟩
          · rw [World.cell?, e4]
            simp only [Option.isSome_none, Bool.false_eq_true, if_false]
            rw [show 0 + i * sz + j = i * sz + j by omega]; exact hv
          · exact RdD.mono (fun b' o hbo => q2 b' o (.inl hbo)) (fun _ _ _ => rfl) _ _ hc

end Go.Vm
