/- The value machine, part Ea: comparing structs of numbers, strings and truth values. -/
import Derived.Test.YtepjgnlinjlehaaGreatVmD
import Derived.Laws.StructEq
import Derived.ChangeKeysEq
namespace Go.Vm
set_option linter.unusedSimpArgs false
set_option linter.unusedVariables false
open Go.RowKit

inductive Kd where
  | bool
  | int (k : IntKind)
  | str
def kdOf (P : Program) (t : TypeId) : Option Kd := match P.underlying t with
  | some .bool => some .bool
  | some (.int k) => some (.int k)
  | some .string => some .str
  | _ => none
def flatK (P : Program) : List Field → Nat → Option (List Kd)
  | [], _ => some []
  | f :: fs, i => match kdOf P f.type, flatK P fs (i + 1) with
    | some k, some ks => if f.offset = i ∧ f.name ≠ "_" then some (k :: ks) else none
    | _, _ => none
/-- The kinds of a struct's fields, all of them plain; it may be compared. -/
def eqShape (P : Program) (T : TypeId) : Option (List Kd) := match P.underlying T with
  | some (.struct fs) => if P.eqGuardType P.depth T = false ∧ P.stoodInHeld T = false then flatK P fs.toList 0 else none
  | _ => none
def eq1 : Kd → Cl → Cl → Option Bool
  | .bool, .v (.bool a), .v (.bool b) => some (a == b)
  | .int k, .v (.int k1 a), .v (.int k2 b) => if k1 = k ∧ k2 = k then some (a == b) else none
  | .str, .v (.string a), .v (.string b) => some (a.toList == b.toList)
  | _, _, _ => none
def eqBy : List Kd → List Cl → List Cl → Option Bool
  | [], [], [] => some true
  | k :: ks, c :: cs, d :: ds => match eq1 k c d, eqBy ks cs ds with
    | some b, some r => some (b && r)
    | _, _ => none
  | _, _, _ => none

theorem kdOf_plain {P : Program} {t : TypeId} {k : Kd} (h : kdOf P t = some k) : P.plainKey t = true := by
  unfold kdOf at h
  unfold Program.plainKey
  split at h <;> simp_all

theorem eq1_ok {P : Program} {w : World} {t : TypeId} {k : Kd} {c d : Cl} {b : Bool} (hk : kdOf P t = some k) (h : eq1 k c d = some b) (n : Nat) : ∃ x y, c = .v x ∧ d = .v y ∧ (Op.equalIn (n + 1) t x y).run P w = .ok b w := by
  unfold eq1 at h
  unfold kdOf at hk
  split at h
  · rename_i a a'
    simp only [Option.some.injEq] at h
    subst h
    split at hk <;> simp_all
    rename_i hu
    exact run_equalIn_bool w n t a a' hu
  · rename_i q k1 a k2 a'
    split at h
    · rename_i hkk
      obtain ⟨rfl, rfl⟩ := hkk
      simp only [Option.some.injEq] at h
      subst h
      split at hk <;> simp_all
      rename_i hu
      simp [Op.equalIn, run_underlying hu]
    · cases h
  · rename_i a a'
    simp only [Option.some.injEq] at h
    subst h
    split at hk <;> simp_all
    rename_i hu
    rw [← beq_toListBytes]
    simp [Op.equalIn, run_underlying hu]
  · cases h

theorem eqFields_ok {P : Program} {w : World} (n : Nat) {us vs : List Value} : ∀ (fs : List Field) (i : Nat) (ks : List Kd) (cs ds : List Cl) (r : Bool), flatK P fs i = some ks → eqBy ks cs ds = some r →
    (∀ (k : Nat) (x : Value), cs[k]? = some (.v x) → us[i + k]? = some x) → (∀ (k : Nat) (x : Value), ds[k]? = some (.v x) → vs[i + k]? = some x) → (Op.eqFields (n + 1) us.toArray vs.toArray fs).run P w = .ok r w
  | [], i, ks, cs, ds, r, hf, hb, hu, hv => by
    simp only [flatK, Option.some.injEq] at hf
    subst hf
    unfold eqBy at hb
    split at hb
    · simp only [Option.some.injEq] at hb
      subst hb
      simp [Op.eqFields]
    · rename_i he; cases he
    · cases hb
  | f :: fs, i, ks, cs, ds, r, hf, hb, hu, hv => by
    simp only [flatK] at hf
    split at hf
    · rename_i k ks' hk hks
      split at hf
      · rename_i hc
        obtain ⟨hoff, hname⟩ := hc
        simp only [Option.some.injEq] at hf
        subst hf
        cases cs with
        | nil => simp [eqBy] at hb
        | cons c cs =>
          cases ds with
          | nil => simp [eqBy] at hb
          | cons d ds =>
            simp only [eqBy] at hb
            split at hb
            · rename_i b r' hb1 hb2
              simp only [Option.some.injEq] at hb
              subst hb
              obtain ⟨x, y, rfl, rfl, heq⟩ := eq1_ok (w := w) hk hb1 n
              have hp := kdOf_plain hk
              have p1 : (part f.type us.toArray f.offset).run P w = .ok x w := run_part_plain w hp (by rw [hoff]; simpa using hu 0 x rfl)
              have p2 : (part f.type vs.toArray f.offset).run P w = .ok y w := run_part_plain w hp (by rw [hoff]; simpa using hv 0 y rfl)
              have ih := eqFields_ok (w := w) n fs (i + 1) ks' cs ds r' hks hb2 (fun k z hz => by
                have := hu (k + 1) z (by simpa using hz)
                rwa [show i + (k + 1) = i + 1 + k by omega] at this) (fun k z hz => by
                have := hv (k + 1) z (by simpa using hz)
                rwa [show i + (k + 1) = i + 1 + k by omega] at this)
              simp only [Op.eqFields, hname, ne_eq, not_false_eq_true, if_true, Sem.run_bind, p1, p2, heq, Result.andThen_ok, Sem.run_ite]
              cases b with
              | true => simpa using ih
              | false => simp
            · cases hb
      · cases hf
    · cases hf

/-- Two structs, compared. -/
theorem eqAgg_ok {P : Program} {w : World} {T : TypeId} {ks : List Kd} {cs ds : List Cl} {r : Bool} {us vs : List Value} (hs : eqShape P T = some ks) (hb : eqBy ks cs ds = some r) (hu : ∀ (k : Nat) (x : Value), cs[k]? = some (.v x) → us[k]? = some x) (hv : ∀ (k : Nat) (x : Value), ds[k]? = some (.v x) → vs[k]? = some x) (x y : Operand) :
    (do eqGuard .eql T x y (.agg us.toArray) (.agg vs.toArray); binOp .eql T (.agg us.toArray) (.agg vs.toArray) : Sem Value).run P w = .ok (.bool r) w ∧
      (do eqGuard .neq T x y (.agg us.toArray) (.agg vs.toArray); binOp .neq T (.agg us.toArray) (.agg vs.toArray) : Sem Value).run P w = .ok (.bool (!r)) w := by
  unfold eqShape at hs
  split at hs
  · rename_i fs hut
    split at hs
    · rename_i hc
      obtain ⟨hg, hst⟩ := hc
      have hfo : P.fieldsOf T = fs := by simp [Program.fieldsOf, hut]
      have heq : (Op.equal T (.agg us.toArray) (.agg vs.toArray)).run P w = .ok r w := by
        unfold Op.equal Op.maxDepth
        rw [run_equalIn_struct w 9999 T us.toArray vs.toArray (by rw [hfo]; exact hut) hst, hfo]
        exact eqFields_ok 9998 fs.toList 0 ks cs ds r hs hb (fun k x hx => by simpa using hu k x hx) (fun k x hx => by simpa using hv k x hx)
      constructor
      · simp [eqGuard, run_program, hg, binOp, heq]
      · simp [eqGuard, run_program, hg, binOp, heq]
    · cases hs
  · cases hs

end Go.Vm
