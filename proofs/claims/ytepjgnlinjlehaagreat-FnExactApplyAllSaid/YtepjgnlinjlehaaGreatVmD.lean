/- The value machine, part D: the operations that turn neither the objects nor the world. -/
import Derived.Test.YtepjgnlinjlehaaGreatVmC
import Derived.WalkLawsBesides
import Derived.OpenShut
namespace Go.Vm
set_option linter.unusedSimpArgs false
set_option linter.unusedVariables false
open Go.RowKit

/-! ### Scalars -/
def aInt (op : BinOp) (k : IntKind) (x y : Int) : Option Value := match op with
  | .add => some (.int k (k.wrap (x + y)))
  | .sub => some (.int k (k.wrap (x - y)))
  | .mul => some (.int k (k.wrap (x * y)))
  | .quo => if y = 0 then none else some (.int k (k.wrap (x.tdiv y)))
  | .rem => if y = 0 then none else some (.int k (k.wrap (x.tmod y)))
  | .eql => some (.bool (x == y))
  | .neq => some (.bool (x != y))
  | .lss => some (.bool (decide (x < y)))
  | .leq => some (.bool (decide (x ≤ y)))
  | .gtr => some (.bool (decide (x > y)))
  | .geq => some (.bool (decide (x ≥ y)))
  | _ => none
def aStr (op : BinOp) (x y : ByteArray) : Option Value := match op with
  | .add => if x.size + y.size ≤ maxLen then some (.string (x ++ y)) else none
  | .eql => some (.bool (x.toList == y.toList))
  | .neq => some (.bool (!(x.toList == y.toList)))
  | .lss => some (.bool (Op.bytesLess x.toList y.toList))
  | .leq => some (.bool (Op.bytesLess x.toList y.toList || x.toList == y.toList))
  | .gtr => some (.bool (!(Op.bytesLess x.toList y.toList || x.toList == y.toList)))
  | .geq => some (.bool (!(Op.bytesLess x.toList y.toList)))
  | _ => none
def aBin (P : Program) (op : BinOp) (T : TypeId) (a b : Value) : Option Value := match a, b with
  | .int k x, .int k' y => match op with
    | .shl => if y < 0 then none else some (.int k (k.wrap (x * 2 ^ min y.toNat k.bits)))
    | .shr => if y < 0 then none else some (.int k (k.wrap (x.fdiv (2 ^ min y.toNat k.bits))))
    | op => if k = k' then aInt op k x y else none
  | .string x, .string y => aStr op x y
  | .bool x, .bool y => match P.underlying T with
    | some .bool => (match op with
      | .eql => some (.bool (x == y))
      | .neq => some (.bool (!(x == y)))
      | _ => none)
    | _ => none
  | _, _ => none

theorem wrap_self {k : IntKind} {n : Int} (h : (Lit.int k n).wf = true) : k.wrap n = n := by
  simp only [Lit.wf, Bool.and_eq_true, decide_eq_true_eq] at h
  obtain ⟨h1, h2⟩ := h
  unfold IntKind.wrap
  cases k <;> simp [IntKind.min, IntKind.max, IntKind.bits, IntKind.signed] at * <;> omega

theorem tmod_wf {k : IntKind} {x y : Int} (h : (Lit.int k x).wf = true) : (Lit.int k (x.tmod y)).wf = true := by
  have h2 : (x.tmod y).natAbs ≤ x.natAbs := by
    rw [Int.natAbs_tmod]; exact Nat.mod_le _ _
  have h3 : 0 ≤ x → 0 ≤ x.tmod y := fun h => Int.tmod_nonneg y h
  have h6 : x ≤ 0 → x.tmod y ≤ 0 := fun h => by
    have := Int.tmod_nonneg (a := -x) y (by omega)
    rw [Int.neg_tmod] at this; omega
  have h4 : x.tmod y ≤ x ∨ x.tmod y ≤ -x := by omega
  have h5 : x ≤ x.tmod y ∨ -x ≤ x.tmod y := by omega
  generalize x.tmod y = z at *
  clear h2
  simp only [Lit.wf, Bool.and_eq_true, decide_eq_true_eq] at *
  cases k <;> simp [IntKind.min, IntKind.max, IntKind.bits, IntKind.signed] at * <;> omega

theorem fdiv_wf {k : IntKind} {x : Int} {n : Nat} (h : (Lit.int k x).wf = true) : (Lit.int k (x.fdiv (2 ^ n))).wf = true := by
  have hp : (1 : Int) ≤ 2 ^ n := by
    have : (0 : Int) < 2 ^ n := Int.pow_pos (by decide)
    omega
  have e : x.fdiv (2 ^ n) = x / (2 ^ n) := by
    rw [Int.fdiv_eq_ediv_of_nonneg _ (by omega)]
  have h1 : 0 ≤ x → 0 ≤ x / (2 ^ n) ∧ x / (2 ^ n) ≤ x := fun hx => ⟨Int.ediv_nonneg hx (by omega), Int.ediv_le_self _ hx⟩
  have h2 : x < 0 → x ≤ x / (2 ^ n) ∧ x / (2 ^ n) < 0 := fun hx => by
    refine ⟨?_, Int.ediv_neg_of_neg_of_pos hx (by omega)⟩
    rw [Int.le_ediv_iff_mul_le (by omega)]
    have h := Int.mul_nonneg (show 0 ≤ -x by omega) (show (0 : Int) ≤ 2 ^ n - 1 by omega)
    rw [Int.mul_sub, Int.neg_mul] at h
    omega
  rw [e]
  simp only [Lit.wf, Bool.and_eq_true, decide_eq_true_eq] at *
  cases k <;> simp [IntKind.min, IntKind.max, IntKind.bits, IntKind.signed] at * <;> omega

theorem aBin_ok {P : Program} {op : BinOp} {T : TypeId} {a b r : Value} (ha : wfV a = true) (h : aBin P op T a b = some r) (x y : Operand) (w : World) :
    (do eqGuard op T x y a b; binOp op T a b : Sem Value).run P w = .ok r w ∧ wfV r = true := by
  unfold aBin at h
  split at h
  · rename_i k x' k' y'
    have hg : (eqGuard op T x y (.int k x') (.int k' y')).run P w = .ok () w := by
      unfold eqGuard; cases op <;> simp
    simp only [Sem.run_bind, hg, Result.andThen_ok]
    simp only [wfV] at ha
    split at h
    · split at h
      · cases h
      · simp only [Option.some.injEq] at h; subst h
        rename_i hy
        refine ⟨?_, by simp only [wfV]; exact Go.wf_wrap _ _⟩
        simp [binOp, Op.shift, hy]
    · split at h
      · cases h
      · simp only [Option.some.injEq] at h; subst h
        rename_i hy
        refine ⟨?_, by simp only [wfV]; exact Go.wf_wrap _ _⟩
        have := wrap_self (fdiv_wf (n := min y'.toNat k.bits) ha)
        simp [binOp, Op.shift, hy, this]
    · split at h
      · rename_i hn1 hn2 hk
        subst hk
        unfold aInt at h
        cases op <;> simp only [Option.some.injEq] at h <;> first
          | (cases h; done)
          | (subst h; refine ⟨by simp [binOp, Op.intArith, Op.intCmp], ?_⟩; first | rfl | exact Go.wf_wrap _ _)
          | (split at h
             · cases h
             · simp only [Option.some.injEq] at h; subst h
               rename_i hy
               refine ⟨?_, by simp only [wfV]; exact Go.wf_wrap _ _⟩
               have := wrap_self (tmod_wf (y := y') ha)
               simp [binOp, Op.intDiv, hy, this])
          | skip
      · cases h
  · rename_i x' y'
    have hg : (eqGuard op T x y (.string x') (.string y')).run P w = .ok () w := by
      unfold eqGuard; cases op <;> simp
    simp only [Sem.run_bind, hg, Result.andThen_ok]
    unfold aStr at h
    cases op <;> simp only [Option.some.injEq] at h <;> first
      | (cases h; done)
      | (subst h; refine ⟨by simp [binOp, Op.stringOp], rfl⟩)
      | (split at h
         · rename_i hs
           simp only [Option.some.injEq] at h; subst h
           have hs' : ¬ (IntKind.i64.max < ((x'.size + y'.size : Nat) : Int)) := by simp only [maxLen] at hs; simp [IntKind.max, IntKind.signed, IntKind.bits]; omega
           refine ⟨?_, ?_⟩
           · simp only [binOp, Op.stringOp, gt_iff_lt, if_neg hs', Sem.run_pure]
           · simp only [wfV, decide_eq_true_eq]; simpa using hs
         · cases h)
  · rename_i x' y'
    have hg : (eqGuard op T x y (.bool x') (.bool y')).run P w = .ok () w := by
      unfold eqGuard; cases op <;> simp
    simp only [Sem.run_bind, hg, Result.andThen_ok]
    split at h
    · rename_i hu
      cases op <;> simp only [Option.some.injEq] at h <;> first
        | (cases h; done)
        | (subst h
           refine ⟨?_, rfl⟩
           have he : (Op.equal T (.bool x') (.bool y')).run P w = .ok (x' == y') w := by
             unfold Op.equal Op.maxDepth
             rw [Op.equalIn]
             simp [run_underlying hu]
           first
             | (show ((do pure (.bool (← Op.equal T (.bool x') (.bool y')))) : Sem Value).run P w = _; simp only [Sem.run_bind, he, Result.andThen_ok, Sem.run_pure])
             | (show ((do pure (.bool (!(← Op.equal T (.bool x') (.bool y'))))) : Sem Value).run P w = _; simp only [Sem.run_bind, he, Result.andThen_ok, Sem.run_pure]))
    · cases h
  · cases h

def aUn (op : UnOp) (a : Value) : Option Value := match op, a with
  | .neg, .int k n => some (.int k (k.wrap (0 - n)))
  | .not, .bool b => some (.bool !b)
  | _, _ => none
theorem aUn_ok {P : Program} {op : UnOp} {a r : Value} (h : aUn op a = some r) (w : World) : (Op.unary op a).run P w = .ok r w ∧ wfV r = true := by
  unfold aUn at h
  split at h <;> (try simp only [Option.some.injEq] at h) <;> first
    | (subst h; exact ⟨by simp [Op.unary, Op.intArith], by simp only [wfV]; exact Go.wf_wrap _ _⟩)
    | (subst h; exact ⟨by simp [Op.unary], rfl⟩)
    | cases h

end Go.Vm
