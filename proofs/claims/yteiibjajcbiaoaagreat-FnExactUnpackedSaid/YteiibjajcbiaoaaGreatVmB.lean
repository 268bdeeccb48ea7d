/- The value machine, part B: what it means that a state of the machine stands for a frame and a world. -/
import Derived.Test.YteiibjajcbiaoaaGreatVmA
namespace Go.Vm
set_option linter.unusedSimpArgs false
set_option linter.unusedVariables false
open Go.RowKit

/-- A value that refers to object l. -/
def RefR (w : World) (st : List Ob) (β : Nat → Option Nat) (l : Nat) (u : Value) : Prop :=
  match st[l]? with
  | none => False
  | some ob => u.oneCell' = true ∧ (ob.live = true → match β l with
    | none => u = .slice none 0 0 ∧ ob.xs = []
    | some b => ∃ cap cs, u = .slice (some ⟨b, 0, none⟩) ob.xs.length cap ∧ ob.xs.length ≤ cap ∧ cap ≤ maxLen ∧ w.heap[b]? = some (.cells cs ob.ty (0, 0)) ∧ cs.size = cap * ob.sz)

def RdC (w : World) (St : Nat → Nat → Prop) (st : List Ob) (β : Nat → Option Nat) : Cl → Value → Prop
  | .ref l, u => RefR w st β l u
  | c, u => RdD w St c u

mutual
def AVR (w : World) (St : Nat → Nat → Prop) (st : List Ob) (β : Nat → Option Nat) : AV → Value → Prop
  | .c x, u => RdC w St st β x u
  | .agg xs, u => ∃ us : List Value, u = .agg us.toArray ∧ us.length = xs.length ∧ ∀ (k : Nat) (c : Cl), xs[k]? = some c → ∃ y, us[k]? = some y ∧ RdC w St st β c y
  | .lp l i off, u => match st[l]? with
    | none => False
    | some ob => ob.live = true → ∃ b, β l = some b ∧ u = .pointer (some ⟨b, i * ob.sz + off, none⟩)
  | .ip xs, u => ∃ b off, u = .pointer (some ⟨b, off, none⟩) ∧ RdL w St xs b off
  | .tup xs, u => ∃ us : List Value, u = .tuple us.toArray ∧ AVRs w St st β xs us
  | .undef, u => u = Go.undef
  | .un, _ => True
def AVRs (w : World) (St : Nat → Nat → Prop) (st : List Ob) (β : Nat → Option Nat) : List AV → List Value → Prop
  | [], us => us = []
  | x :: xs, us => ∃ y ys, us = y :: ys ∧ AVR w St st β x y ∧ AVRs w St st β xs ys
end

/-- An object in its block. -/
def ObR (w : World) (St : Nat → Nat → Prop) (st : List Ob) (β : Nat → Option Nat) (ob : Ob) (b : Nat) : Prop :=
  ∃ cs : Array Value, w.heap[b]? = some (.cells cs ob.ty (0, 0)) ∧ (∀ x ∈ ob.xs, x.length = ob.sz) ∧
    ∀ (k : Nat) (c : Cl), ob.xs.flatten[k]? = some c → ∃ u, cs[k]? = some u ∧ RdC w St st β c u

structure Core (w0 : World) (St0 St : Nat → Nat → Prop) (β : Nat → Option Nat) (s : MS) (a : Act) (w : World) : Prop where
  defers : a.defers = []
  size : a.tmps.size = s.n
  env : ∀ i, AVR w St s.st β (eget s.env i) (a.tmps.getD i undef)
  below : Below w0.heap.size w0 w
  st0 : ∀ b o, St0 b o → St b o
  stOld : ∀ b o, St b o → b < w0.heap.size → St0 b o
  stIn : ∀ b o, St b o → b < w.heap.size
  obs : ∀ l ob b, s.st[l]? = some ob → ob.live = true → β l = some b → w0.heap.size ≤ b ∧ b < w.heap.size ∧ ObR w St s.st β ob b
  nil : ∀ l ob, s.st[l]? = some ob → ob.live = true → β l = none → ob.xs = []
  inj : ∀ l l' ob ob' b, s.st[l]? = some ob → s.st[l']? = some ob' → ob.live = true → ob'.live = true → β l = some b → β l' = some b → l = l'
  sep : ∀ l ob b o, s.st[l]? = some ob → ob.live = true → β l = some b → St b o → ob.wr = false ∧ o < ob.xs.length * ob.sz

def Sim (w0 : World) (St0 : Nat → Nat → Prop) (s : MS) (a : Act) (w : World) : Prop := ∃ St β, Core w0 St0 St β s a w

theorem RdC.mono {w w' : World} {St St' : Nat → Nat → Prop} {st st' : List Ob} {β β' : Nat → Option Nat} (hS : ∀ b o, St b o → St' b o) (hw : ∀ b o, St b o → w'.cell? ⟨b, o, none⟩ = w.cell? ⟨b, o, none⟩)
    (hr : ∀ l u, RefR w st β l u → RefR w' st' β' l u) (c : Cl) (u : Value) (h : RdC w St st β c u) : RdC w' St' st' β' c u := by
  cases c with
  | ref l => exact hr l u h
  | v x => exact RdD.mono hS hw _ _ h
  | sl xs => exact RdD.mono hS hw _ _ h

mutual
theorem AVR.mono {w w' : World} {St St' : Nat → Nat → Prop} {st st' : List Ob} {β β' : Nat → Option Nat} (hS : ∀ b o, St b o → St' b o) (hw : ∀ b o, St b o → w'.cell? ⟨b, o, none⟩ = w.cell? ⟨b, o, none⟩)
    (hr : ∀ l u, RefR w st β l u → RefR w' st' β' l u) (hp : ∀ l i off u, AVR w St st β (.lp l i off) u → AVR w' St' st' β' (.lp l i off) u) :
    ∀ (x : AV) (u : Value), AVR w St st β x u → AVR w' St' st' β' x u
  | .c x, u, h => by simp only [AVR] at h ⊢; exact RdC.mono hS hw hr x u h
  | .agg xs, u, h => by
    simp only [AVR] at h ⊢
    obtain ⟨us, h1, h2, h3⟩ := h
    refine ⟨us, h1, h2, fun k c hk => ?_⟩
    obtain ⟨y, hy, hc⟩ := h3 k c hk
    exact ⟨y, hy, RdC.mono hS hw hr c y hc⟩
  | .lp l i off, u, h => hp l i off u h
  | .ip xs, u, h => by
    simp only [AVR] at h ⊢
    obtain ⟨b, off, h1, h2⟩ := h
    exact ⟨b, off, h1, RdL.mono hS hw xs b off h2⟩
  | .tup xs, u, h => by
    simp only [AVR] at h ⊢
    obtain ⟨us, h1, h2⟩ := h
    exact ⟨us, h1, AVRs.mono hS hw hr hp xs us h2⟩
  | .undef, _, h => by simp only [AVR] at h ⊢; exact h
  | .un, _, _ => by simp only [AVR]
theorem AVRs.mono {w w' : World} {St St' : Nat → Nat → Prop} {st st' : List Ob} {β β' : Nat → Option Nat} (hS : ∀ b o, St b o → St' b o) (hw : ∀ b o, St b o → w'.cell? ⟨b, o, none⟩ = w.cell? ⟨b, o, none⟩)
    (hr : ∀ l u, RefR w st β l u → RefR w' st' β' l u) (hp : ∀ l i off u, AVR w St st β (.lp l i off) u → AVR w' St' st' β' (.lp l i off) u) :
    ∀ (xs : List AV) (us : List Value), AVRs w St st β xs us → AVRs w' St' st' β' xs us
  | [], us, h => by simp only [AVRs] at h ⊢; exact h
  | x :: xs, us, h => by
    simp only [AVRs] at h ⊢
    obtain ⟨y, ys, h1, h2, h3⟩ := h
    exact ⟨y, ys, h1, AVR.mono hS hw hr hp x y h2, AVRs.mono hS hw hr hp xs ys h3⟩
end

theorem ObR.mono {w w' : World} {St St' : Nat → Nat → Prop} {st st' : List Ob} {β β' : Nat → Option Nat} (hS : ∀ b o, St b o → St' b o) (hw : ∀ b o, St b o → w'.cell? ⟨b, o, none⟩ = w.cell? ⟨b, o, none⟩)
    (hr : ∀ l u, RefR w st β l u → RefR w' st' β' l u) {ob : Ob} {b : Nat} (hb : w'.heap[b]? = w.heap[b]?) (h : ObR w St st β ob b) : ObR w' St' st' β' ob b := by
  obtain ⟨cs, h1, h2, h3⟩ := h
  refine ⟨cs, by rw [hb]; exact h1, h2, fun k c hk => ?_⟩
  obtain ⟨u, hu, hc⟩ := h3 k c hk
  exact ⟨u, hu, RdC.mono hS hw hr c u hc⟩

theorem cell_of_block {w w' : World} {b o : Nat} (h : w'.heap[b]? = w.heap[b]?) : w'.cell? ⟨b, o, none⟩ = w.cell? ⟨b, o, none⟩ := by simp [World.cell?, h]

/-- A change of the world that leaves all old blocks alone: alloc, a draw, a call. -/
theorem Core.grow {w0 : World} {St0 St : Nat → Nat → Prop} {β : Nat → Option Nat} {s : MS} {a : Act} {w w' : World} (h : Core w0 St0 St β s a w) (hb : Below w.heap.size w w')
    {St' : Nat → Nat → Prop} (hS : ∀ b o, St b o → St' b o) (hS' : ∀ b o, St' b o → b < w.heap.size → St b o) (hin : ∀ b o, St' b o → b < w'.heap.size) : Core w0 St0 St' β s a w' := by
  have hw0 : w0.heap.size ≤ w.heap.size := h.below.size
  have hblk : ∀ k, k < w.heap.size → w'.heap[k]? = w.heap[k]? := hb.block
  have hw : ∀ b o, St b o → w'.cell? ⟨b, o, none⟩ = w.cell? ⟨b, o, none⟩ := fun b o hbo => cell_of_block (hblk b (h.stIn b o hbo))
  have hr : ∀ l u, RefR w s.st β l u → RefR w' s.st β l u := by
    intro l u hu
    unfold RefR at hu ⊢
    cases hl : s.st[l]? with
    | none => simp [hl] at hu
    | some ob =>
      simp only [hl] at hu ⊢
      refine ⟨hu.1, fun hlive => ?_⟩
      have hu2 := hu.2 hlive
      cases hβ : β l with
      | none => simpa [hβ] using hu2
      | some b =>
        simp only [hβ] at hu2 ⊢
        obtain ⟨cap, cs, h1, h2, h3, h4, h5⟩ := hu2
        exact ⟨cap, cs, h1, h2, h3, by rw [hblk b (h.obs l ob b hl hlive hβ).2.1]; exact h4, h5⟩
  have hp : ∀ l i off u, AVR w St s.st β (.lp l i off) u → AVR w' St' s.st β (.lp l i off) u := by
    intro l i off u hu; simpa only [AVR] using hu
  exact {
    defers := h.defers
    size := h.size
    env := fun i => AVR.mono hS hw hr hp _ _ (h.env i)
    below := h.below.trans (hb.mono hw0)
    st0 := fun b o hbo => hS b o (h.st0 b o hbo)
    stOld := fun b o hbo hlt => h.stOld b o (hS' b o hbo (by omega)) hlt
    stIn := hin
    obs := fun l ob b hl hlive hβ => by
      obtain ⟨h1, h2, h3⟩ := h.obs l ob b hl hlive hβ
      exact ⟨h1, Nat.lt_of_lt_of_le h2 hb.size, ObR.mono hS hw hr (hblk b h2) h3⟩
    nil := h.nil
    inj := h.inj
    sep := fun l ob b o hl hlive hβ hbo => h.sep l ob b o hl hlive hβ (hS' b o hbo (h.obs l ob b hl hlive hβ).2.1) }

/-- Writing a temporary. -/
theorem Core.put {w0 : World} {St0 St : Nat → Nat → Prop} {β : Nat → Option Nat} {s : MS} {a : Act} {w : World} (h : Core w0 St0 St β s a w) (d : Option Nat) {x : AV} {u : Value} (hx : AVR w St s.st β x u) :
    Core w0 St0 St β (s.put d x) (a.put d u) w := by
  cases d with
  | none => exact h
  | some d =>
    by_cases hd : d < s.n
    · have e1 : s.put (some d) x = ⟨s.n, (d, x) :: s.env, s.st⟩ := by simp [MS.put, hd]
      rw [e1]
      exact {
        defers := h.defers
        size := by simpa [Act.put] using h.size
        env := fun i => by
          simp only [eget, Act.put]
          by_cases hi : d = i
          · subst hi
            have : d < a.tmps.size := by rw [h.size]; exact hd
            simpa [this] using hx
          · have := h.env i
            simpa [hi, Array.getElem?_setIfInBounds] using this
        below := h.below, st0 := h.st0, stOld := h.stOld, stIn := h.stIn, obs := h.obs, nil := h.nil, inj := h.inj, sep := h.sep }
    · have e1 : s.put (some d) x = s := by simp [MS.put, hd]
      rw [e1]
      have e2 : a.put (some d) u = a := by
        have : ¬ d < a.tmps.size := by rw [h.size]; exact hd
        cases a
        simp only [Act.put, Act.mk.injEq, and_true]
        simp only at this
        exact Array.setIfInBounds_eq_of_size_le (by omega)
      rw [e2]
      exact h

theorem AVR.un {w : World} {St : Nat → Nat → Prop} {st : List Ob} {β : Nat → Option Nat} {u : Value} : AVR w St st β .un u := by simp only [AVR]

end Go.Vm
