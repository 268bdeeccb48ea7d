/- The value machine, part I: stores into objects. -/
import Derived.Test.YtepjgnlinjlehaaGreatVmH
namespace Go.Vm
set_option linter.unusedSimpArgs false
set_option linter.unusedVariables false
open Go.RowKit

variable {P : Program} {w0 : Bs} {St0 St : Nat → Nat → Prop} {β : Nat → Option Nat} {s : MS} {a : Act} {w : World}

theorem flatten_set {xs : List (List Cl)} {sz i off n : Nat} {row cs : List Cl} (hl : ∀ x ∈ xs, x.length = sz) (hi : xs[i]? = some row) (hle : off + n ≤ row.length) :
    (xs.set i (row.take off ++ (cs ++ row.drop (off + n)))).flatten = xs.flatten.take (i * sz + off) ++ (cs ++ xs.flatten.drop (i * sz + (off + n))) := by
  have hil : i < xs.length := (List.getElem?_eq_some_iff.1 hi).1
  have hx : xs = xs.take i ++ row :: xs.drop (i + 1) := by
    have : row = xs[i] := by rw [List.getElem?_eq_getElem hil] at hi; exact (Option.some.inj hi).symm
    rw [this, ← List.drop_eq_getElem_cons hil, List.take_append_drop]
  have hA : (xs.take i).flatten.length = i * sz := by
    rw [flatten_len (sz := sz) (fun x hx => hl x (List.mem_of_mem_take hx)), List.length_take, Nat.min_eq_left (by omega)]
  have hF : xs.flatten = (xs.take i).flatten ++ (row ++ (xs.drop (i + 1)).flatten) := by
    conv => lhs; rw [hx]
    simp
  rw [List.set_eq_take_append_cons_drop, if_pos hil]
  simp only [List.flatten_append, List.flatten_cons, List.append_assoc]
  have ht : xs.flatten.take (i * sz + off) = (xs.take i).flatten ++ row.take off := by
    rw [hF, ← hA, List.take_length_add_append, List.take_append_of_le_length (by omega)]
  have hd : xs.flatten.drop (i * sz + (off + n)) = row.drop (off + n) ++ (xs.drop (i + 1)).flatten := by
    rw [hF, ← hA, List.drop_length_add_append, List.drop_append_of_le_length (by omega)]
  rw [ht, hd]
  simp

theorem cells_patch {R : Cl → Value → Prop} {F cs : List Cl} {C vs : List Value} {p n : Nat} (hC : ∀ (k : Nat) (c : Cl), F[k]? = some c → ∃ u, C[k]? = some u ∧ R c u) (hp : p + n ≤ F.length) (hcl : cs.length = n) (hvl : vs.length = n)
    (hcs : ∀ (k : Nat) (c : Cl), cs[k]? = some c → ∃ u, vs[k]? = some u ∧ R c u) (hFC : F.length ≤ C.length) :
    ∀ (k : Nat) (c : Cl), (F.take p ++ (cs ++ F.drop (p + n)))[k]? = some c → ∃ u, (C.take p ++ (vs ++ C.drop (p + n)))[k]? = some u ∧ R c u := by
  intro k c hk
  have l1 : (F.take p).length = p := by simp; omega
  have l2 : (C.take p).length = p := by simp; omega
  rcases Nat.lt_or_ge k p with h1 | h1
  · rw [List.getElem?_append_left (by omega), List.getElem?_take, if_pos h1] at hk
    obtain ⟨u, hu, hr⟩ := hC k c hk
    exact ⟨u, by rw [List.getElem?_append_left (by omega), List.getElem?_take, if_pos h1]; exact hu, hr⟩
  · rw [List.getElem?_append_right (by omega), l1] at hk
    rw [List.getElem?_append_right (by omega), l2]
    rcases Nat.lt_or_ge (k - p) n with h2 | h2
    · rw [List.getElem?_append_left (by omega)] at hk ⊢
      exact hcs _ c hk
    · rw [List.getElem?_append_right (by omega), List.getElem?_drop, hcl] at hk
      rw [List.getElem?_append_right (by omega), List.getElem?_drop, hvl]
      have := hC _ c hk
      exact this

theorem patch_ow {F cs : List Cl} {C vs : List Value} {p n : Nat} (hp : p + n ≤ F.length) (hcl : cs.length = n) (hvl : vs.length = n) (hFC : F.length ≤ C.length) (hno : ∀ (k : Nat) (c : Cl), cs[k]? = some c → isOw c = false) :
    ∀ (k : Nat) (c : Cl), (F.take p ++ (cs ++ F.drop (p + n)))[k]? = some c → isOw c = true → F[k]? = some c ∧ (C.take p ++ (vs ++ C.drop (p + n)))[k]? = C[k]? := by
  intro k c hk hc
  have l1 : (F.take p).length = p := by simp; omega
  have l2 : (C.take p).length = p := by simp; omega
  rcases Nat.lt_or_ge k p with h1 | h1
  · rw [List.getElem?_append_left (by omega), List.getElem?_take, if_pos h1] at hk
    exact ⟨hk, by rw [List.getElem?_append_left (by omega), List.getElem?_take, if_pos h1]⟩
  · rw [List.getElem?_append_right (by omega), l1] at hk
    rw [List.getElem?_append_right (by omega), l2]
    rcases Nat.lt_or_ge (k - p) n with h2 | h2
    · rw [List.getElem?_append_left (by omega)] at hk
      rw [hno _ c hk] at hc
      cases hc
    · rw [List.getElem?_append_right (by omega), List.getElem?_drop, hcl] at hk
      rw [List.getElem?_append_right (by omega), List.getElem?_drop, hvl]
      have e : p + n + (k - p - n) = k := by omega
      rw [e] at hk ⊢
      exact ⟨hk, rfl⟩

theorem len_of_cells {R : Cl → Value → Prop} {F : List Cl} {C : List Value} (hC : ∀ (k : Nat) (c : Cl), F[k]? = some c → ∃ u, C[k]? = some u ∧ R c u) : F.length ≤ C.length := by
  rcases Nat.lt_or_ge C.length F.length with h | h
  · obtain ⟨u, hu, _⟩ := hC C.length _ (List.getElem?_eq_getElem h)
    simp at hu
  · exact h

theorem store_ok (h : Core w0 St0 St β s a w) (o : Oper) (T : TypeId) (p x : Operand) (ho : o.op = .store T p x) (hc : opndOk p = true) (hc2 : opndOk x = true) {y : AV} {st' : List Ob} (hy : storeE P s T (evA s p) (evA s x) = some (y, st')) : Does P a w w0 St0 s o y st' := by
  have hp := evA_ok h p hc
  have hx := evA_ok h x hc2
  unfold storeE at hy
  split at hy
  · rename_i n l i off cs hs hev hcs
    split at hy
    · rename_i ob hob
      split at hy
      · rename_i hwl
        obtain ⟨hwr, hcl⟩ := hwl
        split at hy
        · rename_i row hrow
          split at hy
          · rename_i hle
            simp only [Option.some.injEq, Prod.mk.injEq] at hy
            obtain ⟨rfl, rfl⟩ := hy
            rw [hev] at hp
            obtain ⟨b, C, hb, hu, g1, g2, g3⟩ := lp_ok h hp hob
            obtain ⟨q1, q2⟩ := cellsA_ok hx hcs
            have hrl : row.length = ob.sz := g2 row (List.mem_of_getElem? hrow)
            have hil : i < ob.xs.length := (List.getElem?_eq_some_iff.1 hrow).1
            have hFl : ob.xs.flatten.length = ob.xs.length * ob.sz := flatten_len g2
            have g3' : ∀ (k : Nat) (c : Cl), ob.xs.flatten[k]? = some c → ∃ u, C.toList[k]? = some u ∧ RdB w St s.st β c u := fun k c hk => by simpa using g3 k c hk
            have hFC := len_of_cells g3'
            have hpos : i * ob.sz + (off + n) ≤ ob.xs.flatten.length := by
              rw [hFl]
              have : (i + 1) * ob.sz ≤ ob.xs.length * ob.sz := Nat.mul_le_mul_right _ hil
              rw [Nat.add_mul] at this; omega
            have hvl : (a.eval x).cells.toList.length = n := by rw [q1, hcl]
            have h1 : ∀ v ∈ (a.eval x).cells.toList, v.oneCell' = true := fun v hv => by
              obtain ⟨k, hk1, hk2⟩ := List.getElem_of_mem hv
              have hkc : k < cs.length := by rw [← q1]; exact hk1
              obtain ⟨u, hu1, hu2⟩ := q2 k _ (List.getElem?_eq_getElem hkc)
              rw [List.getElem?_eq_getElem hk1] at hu1
              simp only [Option.some.injEq] at hu1
              rw [← hk2, hu1]; exact hu2.one
            have hrun := run_storeCells_at P b (i * ob.sz + off) ob.ty (a.eval x).cells.toList 0 C w g1 (by
              have : C.toList.length = C.size := by simp
              omega) h1
            simp only [Nat.add_zero, hvl] at hrun
            have hasz : (a.eval x).cells.size = n := by simpa using hvl
            refine ⟨.skip, Go.undef, _, St, β, ?_, .inr ⟨rfl, rfl⟩, h.write hob hwr hb (ob.xs.set i (row.take off ++ (cs ++ row.drop (off + n)))) (by simp) ?_ g1 (cs' := (C.toList.take (i * ob.sz + off) ++ (a.eval x).cells.toList ++ C.toList.drop (i * ob.sz + off + n)).toArray) ?_ ?_ ?_, ?_⟩
            · simp [execOp, ho, hu, Instr.storeAt, Instr.sureAddr, storeVar, run_size hs, hasz, hrun]
            · intro z hz
              rcases List.mem_or_eq_of_mem_set hz with h2 | h2
              · exact g2 z h2
              · subst h2; simp; omega
            · have : C.toList.length = C.size := by simp
              simp
              omega
            · intro k c hk
              rw [flatten_set g2 hrow hle] at hk
              have := cells_patch g3' (p := i * ob.sz + off) (n := n) (by omega) hcl hvl (fun k c hk => by obtain ⟨u, hu1, hu2⟩ := q2 k c hk; exact ⟨u, hu1, hu2.toB⟩) hFC k c (by rwa [Nat.add_assoc])
              obtain ⟨u, hu1, hu2⟩ := this
              exact ⟨u, by simpa using hu1, hu2⟩
            · intro k c hk how
              rw [flatten_set g2 hrow hle] at hk
              have := patch_ow (C := C.toList) (vs := (a.eval x).cells.toList) (p := i * ob.sz + off) (n := n) (by omega) hcl hvl hFC (fun k c hk => by obtain ⟨u, _, hu2⟩ := q2 k c hk; exact hu2.notOw) k c (by rwa [Nat.add_assoc]) how
              refine ⟨this.1, ?_⟩
              have h2 := this.2
              simp only [List.getElem?_toArray, List.append_assoc]
              rw [h2]
              simp
            · simp only [AVR]
          · cases hy
        · cases hy
      · cases hy
    · cases hy
  · cases hy

end Go.Vm
