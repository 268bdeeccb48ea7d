/- The value machine, part A: abstract cells and values, and how they read in memory. -/
import Derived.WalkKit
namespace Go.Vm
set_option linter.unusedSimpArgs false
set_option linter.unusedVariables false
open Go.RowKit

/-- One cell: a plain value, a slice by its rows, or a slice that is an object of the machine. -/
inductive Cl where
  | v (x : Value)
  | sl (xs : List (List Cl))
  | ref (l : Nat)
  | ow (ty : TypeId) (sz : Nat) (xs : List (List Cl))
  deriving Inhabited

/-- What a temporary holds. -/
inductive AV where
  | c (x : Cl)
  | agg (xs : List Cl)
  | lp (l i off : Nat)
  | ip (xs : List Cl)
  | tup (xs : List AV)
  | undef
  | un
  | pin (x : AV) (u : Value)
  deriving Inhabited

/-- An object: rows of one width; may it be written; is it still there. -/
structure Ob where
  ty : TypeId
  sz : Nat
  xs : List (List Cl)
  wr : Bool
  live : Bool
  deriving Inhabited

/-- A state: what the temporaries hold, and the objects. -/
structure MS where
  n : Nat
  env : List (Nat × AV)
  st : List Ob

def eget : List (Nat × AV) → Nat → AV
  | [], _ => .un
  | (k, v) :: r, i => if k = i then v else eget r i

def MS.put (s : MS) (d : Option Nat) (v : AV) : MS := match d with
  | some d => if d < s.n then ⟨s.n, (d, v) :: s.env, s.st⟩ else s
  | none => s

/-- A value of one cell, its number within its kind, its string not too long. -/
def wfV : Value → Bool
  | .agg _ | .tuple _ => false
  | .int k n => (Lit.int k n).wf
  | .string s => decide (s.size ≤ maxLen)
  | _ => true
theorem wfV_one {x : Value} (h : wfV x = true) : x.oneCell' = true := by cases x <;> simp_all [wfV, Value.oneCell']

mutual
/-- Cl c reads at value u, in the memory that stays. -/
def RdD (w : World) (St : Nat → Nat → Prop) : Cl → Value → Prop
  | .v x, u => u = x ∧ wfV x = true
  | .ref _, _ => False
  | .ow _ _ _, _ => False
  | .sl xs, u => ∃ a cap, u = .slice a xs.length cap ∧ xs.length ≤ cap ∧ cap ≤ maxLen ∧ (∃ sz, ∀ x ∈ xs, x.length = sz) ∧ (xs = [] ∨ ∃ b off, a = some ⟨b, off, none⟩ ∧ RdE w St xs b off)
def RdE (w : World) (St : Nat → Nat → Prop) : List (List Cl) → Nat → Nat → Prop
  | [], _, _ => True
  | x :: xs, b, off => RdL w St x b off ∧ RdE w St xs b (off + x.length)
def RdL (w : World) (St : Nat → Nat → Prop) : List Cl → Nat → Nat → Prop
  | [], _, _ => True
  | c :: cs, b, off => (St b off ∧ ∃ u, w.cell? ⟨b, off, none⟩ = some u ∧ RdD w St c u) ∧ RdL w St cs b (off + 1)
end

mutual
theorem RdD.mono {w w' : World} {St St' : Nat → Nat → Prop} (hS : ∀ b o, St b o → St' b o) (hw : ∀ b o, St b o → w'.cell? ⟨b, o, none⟩ = w.cell? ⟨b, o, none⟩) :
    ∀ (c : Cl) (u : Value), RdD w St c u → RdD w' St' c u
  | .v x, u, h => by simp only [RdD] at h ⊢; exact h
  | .ref _, _, h => by simp [RdD] at h
  | .ow _ _ _, _, h => by simp [RdD] at h
  | .sl xs, u, h => by
    simp only [RdD] at h ⊢
    obtain ⟨a, cap, h1, h2, h3, h4, h5⟩ := h
    refine ⟨a, cap, h1, h2, h3, h4, ?_⟩
    rcases h5 with h5 | ⟨b, off, h5, h6⟩
    · exact .inl h5
    · exact .inr ⟨b, off, h5, RdE.mono hS hw xs b off h6⟩
theorem RdE.mono {w w' : World} {St St' : Nat → Nat → Prop} (hS : ∀ b o, St b o → St' b o) (hw : ∀ b o, St b o → w'.cell? ⟨b, o, none⟩ = w.cell? ⟨b, o, none⟩) :
    ∀ (xs : List (List Cl)) (b off : Nat), RdE w St xs b off → RdE w' St' xs b off
  | [], _, _, _ => by simp [RdE]
  | x :: xs, b, off, h => by
    simp only [RdE] at h ⊢
    exact ⟨RdL.mono hS hw x b off h.1, RdE.mono hS hw xs b _ h.2⟩
theorem RdL.mono {w w' : World} {St St' : Nat → Nat → Prop} (hS : ∀ b o, St b o → St' b o) (hw : ∀ b o, St b o → w'.cell? ⟨b, o, none⟩ = w.cell? ⟨b, o, none⟩) :
    ∀ (cs : List Cl) (b off : Nat), RdL w St cs b off → RdL w' St' cs b off
  | [], _, _, _ => by simp [RdL]
  | c :: cs, b, off, h => by
    simp only [RdL] at h ⊢
    obtain ⟨⟨h1, u, h2, h3⟩, h4⟩ := h
    exact ⟨⟨hS _ _ h1, u, by rw [hw _ _ h1]; exact h2, RdD.mono hS hw c u h3⟩, RdL.mono hS hw cs b _ h4⟩
end

/-- Row by row: what RdE and RdL say of one index. -/
theorem RdL.at {w : World} {St : Nat → Nat → Prop} : ∀ {cs : List Cl} {b off : Nat}, RdL w St cs b off → ∀ j c, cs[j]? = some c →
    St b (off + j) ∧ ∃ u, w.cell? ⟨b, off + j, none⟩ = some u ∧ RdD w St c u
  | [], _, _, _, j, c, h => by simp at h
  | c0 :: cs, b, off, h, j, c, hj => by
    simp only [RdL] at h
    cases j with
    | zero => simp only [List.getElem?_cons_zero, Option.some.injEq] at hj; subst hj; exact h.1
    | succ j =>
      simp only [List.getElem?_cons_succ] at hj
      have := RdL.at h.2 j c hj
      rwa [show off + 1 + j = off + (j + 1) by omega] at this

theorem RdL.mk {w : World} {St : Nat → Nat → Prop} : ∀ {cs : List Cl} {b off : Nat}, (∀ j c, cs[j]? = some c → St b (off + j) ∧ ∃ u, w.cell? ⟨b, off + j, none⟩ = some u ∧ RdD w St c u) → RdL w St cs b off
  | [], _, _, _ => by simp [RdL]
  | c0 :: cs, b, off, h => by
    simp only [RdL]
    refine ⟨by simpa using h 0 c0 rfl, RdL.mk fun j c hj => ?_⟩
    have := h (j + 1) c (by simpa using hj)
    rwa [show off + (j + 1) = off + 1 + j by omega] at this

theorem RdL.drop {w : World} {St : Nat → Nat → Prop} {cs : List Cl} {b off : Nat} (h : RdL w St cs b off) (n : Nat) : RdL w St (cs.drop n) b (off + n) :=
  RdL.mk fun j c hj => by
    have := h.at (n + j) c (by simpa using hj)
    rwa [show off + (n + j) = off + n + j by omega] at this

theorem RdL.take {w : World} {St : Nat → Nat → Prop} {cs : List Cl} {b off : Nat} (h : RdL w St cs b off) (n : Nat) : RdL w St (cs.take n) b off :=
  RdL.mk fun j c hj => by
    rw [List.getElem?_take] at hj
    split at hj
    · exact h.at j c hj
    · simp at hj

theorem RdE.at {w : World} {St : Nat → Nat → Prop} (sz : Nat) : ∀ {xs : List (List Cl)} {b off : Nat}, RdE w St xs b off → (∀ x ∈ xs, x.length = sz) → ∀ i x, xs[i]? = some x → RdL w St x b (off + i * sz)
  | [], _, _, _, _, i, x, h => by simp at h
  | x0 :: xs, b, off, h, hl, i, x, hi => by
    simp only [RdE] at h
    cases i with
    | zero => simp only [List.getElem?_cons_zero, Option.some.injEq] at hi; subst hi; simpa using h.1
    | succ i =>
      simp only [List.getElem?_cons_succ] at hi
      have := RdE.at sz h.2 (fun y hy => hl y (by simp [hy])) i x hi
      rw [hl x0 (by simp)] at this
      rwa [show off + sz + i * sz = off + (i + 1) * sz by rw [Nat.add_mul]; omega] at this

theorem RdE.mk {w : World} {St : Nat → Nat → Prop} (sz : Nat) : ∀ {xs : List (List Cl)} {b off : Nat}, (∀ x ∈ xs, x.length = sz) → (∀ i x, xs[i]? = some x → RdL w St x b (off + i * sz)) → RdE w St xs b off
  | [], _, _, _, _ => by simp [RdE]
  | x0 :: xs, b, off, hl, h => by
    simp only [RdE]
    refine ⟨by simpa using h 0 x0 rfl, RdE.mk sz (fun y hy => hl y (by simp [hy])) fun i x hi => ?_⟩
    have := h (i + 1) x (by simpa using hi)
    rw [hl x0 (by simp)]
    rwa [show off + (i + 1) * sz = off + sz + i * sz by rw [Nat.add_mul]; omega] at this

/-- A cell that is pure: no reference to an object, and no bare nil slice. -/
def pureC : Cl → Bool
  | .v (.slice _ _ _) => false
  | .v (.agg _) => false
  | .v (.tuple _) => false
  | .v _ => true
  | .sl _ => true
  | .ref _ => false
  | .ow _ _ _ => false
def pureL (cs : List Cl) : Bool := cs.all pureC
def pureE (xs : List (List Cl)) : Bool := xs.all pureL

end Go.Vm
