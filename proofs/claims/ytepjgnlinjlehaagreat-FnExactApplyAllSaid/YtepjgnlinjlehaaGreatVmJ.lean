/- The value machine, part J: make, literals of slices and structs. -/
import Derived.Test.YtepjgnlinjlehaaGreatVmI
import Derived.Laws.MakeOwn
namespace Go.Vm
set_option linter.unusedSimpArgs false
set_option linter.unusedVariables false
open Go.RowKit

variable {P : Program} {w0 : Bs} {St0 St : Nat → Nat → Prop} {β : Nat → Option Nat} {s : MS} {a : Act} {w : World}

def tyBytes (P : Program) (t : TypeId) : Option Nat := (P.info? t).map (·.bytes)

/-- make([]T, n, c), n <= c <= 2^31. -/
def makeE (P : Program) (s : MS) (T : TypeId) (l c : AV) : Option (AV × List Ob) := match tyElem P T with
  | some e => match tySize P e, tyZ P e, tyBytes P e with
    | some n, some cs, some by' => match l, c with
      | .c (.v (.int .i64 nl)), .c (.v (.int .i64 nc)) => if cs.length = n ∧ 0 < n ∧ by' ≤ 65536 ∧ 0 ≤ nl ∧ nl ≤ nc ∧ nc ≤ 2147483648
        then some (.c (.ref s.st.length), s.st ++ [⟨e, n, List.replicate nl.toNat cs, true, true⟩]) else none
      | _, _ => none
    | _, _, _ => none
  | none => none

theorem madeCells_at (zs : Array Value) (n k : Nat) (hk : k < n) (hz : 0 < zs.size) : (madeCells zs n)[k]? = zs[k % zs.size]? := by
  have hm : k % zs.size < zs.size := Nat.mod_lt _ hz
  simp [madeCells, hk, hm]

theorem replicate_flatten_at {z : List Cl} {n : Nat} {k : Nat} {c : Cl} (hz : 0 < z.length) (h : (List.replicate n z).flatten[k]? = some c) : z[k % z.length]? = some c ∧ k < n * z.length := by
  have hl : ∀ x ∈ List.replicate n z, x.length = z.length := fun x hx => by rw [List.eq_of_mem_replicate hx]
  have hlen := flatten_len hl
  have hk : k < n * z.length := by
    rcases Nat.lt_or_ge k (n * z.length) with h' | h'
    · exact h'
    · rw [List.getElem?_eq_none (by rw [hlen]; simpa using h')] at h; cases h
  refine ⟨?_, hk⟩
  have hi : k / z.length < n := Nat.div_lt_of_lt_mul (by rwa [Nat.mul_comm])
  have hj : k % z.length < z.length := Nat.mod_lt _ hz
  have := flatten_at hl (k / z.length) (k % z.length) z _ (by simp [hi]) (List.getElem?_eq_getElem hj)
  rw [show k / z.length * z.length + k % z.length = k by rw [Nat.mul_comm]; exact Nat.div_add_mod k z.length] at this
  rw [this] at h
  rw [List.getElem?_eq_getElem hj]; exact h

theorem make_ok (h : Core w0 St0 St β s a w) (o : Oper) (T : TypeId) (l c : Operand) (ho : o.op = .makeSlice T l c) (hc : opndOk l = true) (hc2 : opndOk c = true) {y : AV} {st' : List Ob} (hy : makeE P s T (evA s l) (evA s c) = some (y, st')) : Does P a w w0 St0 s o y st' := by
  have hl := evA_ok h l hc
  have hcc := evA_ok h c hc2
  unfold makeE at hy
  split at hy
  · rename_i e hte
    have ht := tyElem_ok hte
    split at hy
    · rename_i n cs0 by' hs hz0 hb
      obtain ⟨zs, hz, hwf, rfl⟩ := tyZ_ok hz0
      split at hy
      · rename_i nl nc hev1 hev2
        split at hy
        · rename_i hcond
          obtain ⟨hzl0, hn, hby, h0, h1, h2⟩ := hcond
          have hzl : zs.length = n := by simpa using hzl0
          simp only [Option.some.injEq, Prod.mk.injEq] at hy
          obtain ⟨rfl, rfl⟩ := hy
          rw [hev1] at hl
          rw [hev2] at hcc
          obtain ⟨hv1, _⟩ := v_ok hl
          obtain ⟨hv2, _⟩ := v_ok hcc
          unfold tySize at hs
          unfold tyZero at hz
          unfold tyBytes at hb
          cases hi : P.info? e with
          | none => simp [hi] at hs
          | some i =>
            cases hiz : i.zero with
            | none => simp [hi, hiz] at hz
            | some z =>
              simp [hi] at hs hb
              simp [hi, hiz] at hz
              have hzs : z.cells.size = n := by rw [← hzl, ← hz]; simp
              have hrun := run_make (P := P) w T e i z ht hi hiz .i64 .i64 nl nc h0 h1 (by rw [hb]; have : (by' : Int) * nc ≤ 65536 * 2147483648 := Int.mul_le_mul (by omega) h2 (by omega) (by omega); omega) (by omega)
              have hmc : (madeCells z.cells (nc.toNat * i.size)).size = nc.toNat * i.size := size_madeCells _ _
              obtain ⟨β', q1, q2, q3⟩ := h.newCells e n (List.replicate nl.toNat (zs.map .v)) (madeCells z.cells (nc.toNat * i.size)) (fun x hx => by rw [List.eq_of_mem_replicate hx]; simpa using hzl) (fun k cl hk => by
                have hzl' : (zs.map Cl.v).length = n := by simpa using hzl
                obtain ⟨r1, r2⟩ := replicate_flatten_at (by omega) hk
                rw [hzl'] at r1 r2
                simp only [List.getElem?_map, Option.map_eq_some_iff] at r1
                obtain ⟨v, hv, rfl⟩ := r1
                have hkn : k < nc.toNat * i.size := by
                  rw [hs]
                  exact Nat.lt_of_lt_of_le r2 (Nat.mul_le_mul_right _ (by omega))
                refine ⟨v, ?_, ?_⟩
                · rw [madeCells_at _ _ _ hkn (by omega), hzs, ← Array.getElem?_toList, hz]; exact hv
                · simp only [RdC, RdD, true_and]
                  exact List.all_eq_true.1 hwf v (List.mem_of_getElem? hv))
              refine ⟨_, .slice (some ⟨w.heap.size, 0, none⟩) nl.toNat nc.toNat, _, St, β', ?_, .inl rfl, q1, ?_⟩
              · simp [execOp, ho, hv1, hv2, hrun]
              · simp only [AVR, RdC, RefR]
                rw [List.getElem?_append_right (Nat.le_refl _)]
                simp only [Nat.sub_self, List.getElem?_cons_zero, q2]
                refine ⟨rfl, fun _ => ⟨nc.toNat, _, ?_, ?_, ?_, alloc_at w _, ?_⟩⟩
                · simp
                · simp; omega
                · simp only [maxLen]; omega
                · rw [hmc, hs]
        · cases hy
      · cases hy
    · cases hy
  · cases hy

/-! ### Literals -/
theorem foldl_set : ∀ (vs : List Value) (off k : Nat) (A : Array Value), off + k + vs.length ≤ A.size →
    (vs.zipIdx k).foldl (fun cs (x : Value × Nat) => cs.setIfInBounds (off + x.2) x.1) A = (A.toList.take (off + k) ++ vs ++ A.toList.drop (off + k + vs.length)).toArray
  | [], off, k, A, _ => by simp
  | v :: vs, off, k, A, h => by
    simp only [List.length_cons] at h
    simp only [List.zipIdx_cons, List.foldl_cons]
    rw [foldl_set vs off (k + 1) (A.setIfInBounds (off + k) v) (by simp; omega)]
    congr 1
    have := list_seg_step A.toList (off + k) v vs (by simp; omega)
    simp only [Array.toList_setIfInBounds]
    rw [show off + (k + 1) = off + k + 1 by omega, this]
    simp

theorem fill_step (place : Nat → Option (Nat × Nat)) (A : Array Value) (i off size : Nat) (v : Value) (rest : List (Nat × Value)) (hp : place i = some (off, size)) (hv : v.cells.size = size) (hle : off + size ≤ A.size) :
    Instr.fill place A ((i, v) :: rest) = Instr.fill place (A.toList.take off ++ (v.cells.toList ++ A.toList.drop (off + size))).toArray rest := by
  have h1 : ¬ ((decide (v.cells.size ≠ size) || decide (off + v.cells.size > A.size)) = true) := by simp; omega
  have hfl := foldl_set v.cells.toList off 0 A (by simp; omega)
  simp only [Nat.add_zero] at hfl
  have e : v.cells.zipIdx.foldl (fun cs (x : Value × Nat) => cs.setIfInBounds (off + x.2) x.1) A = (A.toList.take off ++ (v.cells.toList ++ A.toList.drop (off + size))).toArray := by
    rw [← Array.foldl_toList]
    rw [Array.toList_zipIdx, hfl]
    simp [hv]
  simp only [Instr.fill, hp]
  rw [if_neg h1]
  exact congrArg (fun B => Instr.fill place B rest) e

def partsA (s : MS) (ps : List (Nat × Operand)) : List (Nat × AV) := match ps with
  | [] => []
  | p :: r => (p.1, evA s p.2) :: partsA s r
def rowsA : List (Nat × AV) → Nat → Nat → Option (List (List Cl))
  | [], _, _ => some []
  | (i, x) :: r, k, n => match cellsA x, rowsA r (k + 1) n with
    | some cs, some rs => if i = k ∧ cs.length = n then some (cs :: rs) else none
    | _, _ => none
def fillA (P : Program) (T : TypeId) (F : List Cl) : List (Nat × AV) → Option (List Cl)
  | [] => some F
  | (i, x) :: r => match tyField P T i, cellsA x with
    | some (off, ft), some cs => match tySize P ft with
      | some n => if cs.length = n ∧ off + n ≤ F.length then fillA P T (F.take off ++ (cs ++ F.drop (off + n))) r else none
      | none => none
    | _, _ => none

theorem fill_rows (n : Nat) {st : List Ob} (hn : 0 < n) : ∀ (ps : List (Nat × AV)) (vs : List (Nat × Value)) (k : Nat) (rows : List (List Cl)) (A : Array Value),
    vs.length = ps.length → (∀ (j : Nat) (p : Nat × AV), ps[j]? = some p → ∃ q : Nat × Value, vs[j]? = some q ∧ q.1 = p.1 ∧ AVR w St st β p.2 q.2) → rowsA ps k n = some rows → (k + ps.length) * n ≤ A.size →
    ∃ B : Array Value, Instr.fill (fun i => some (i * n, n)) A vs = some B ∧ B.size = A.size ∧ (∀ j, j < k * n → B[j]? = A[j]?) ∧ (∀ j, (k + ps.length) * n ≤ j → B[j]? = A[j]?) ∧
      ∀ (j : Nat) (c : Cl), rows.flatten[j]? = some c → ∃ u, B[k * n + j]? = some u ∧ RdC w St st β c u
  | [], vs, k, rows, A, hl, _, hr, _ => by
    simp only [rowsA, Option.some.injEq] at hr
    subst hr
    have : vs = [] := List.eq_nil_of_length_eq_zero (by simpa using hl)
    subst this
    exact ⟨A, rfl, rfl, fun _ _ => rfl, fun _ _ => rfl, fun j c hj => by simp at hj⟩
  | (i, x) :: ps, vs, k, rows, A, hl, hvs, hr, hA => by
    cases vs with
    | nil => simp at hl
    | cons v vs =>
      obtain ⟨q, hq1, hq2, hq3⟩ := hvs 0 (i, x) rfl
      simp only [List.getElem?_cons_zero, Option.some.injEq] at hq1
      subst hq1
      simp only [rowsA] at hr
      split at hr
      · rename_i cs rs hcs hrs
        split at hr
        · rename_i hik
          obtain ⟨hik, hcl⟩ := hik
          simp only [Option.some.injEq] at hr
          subst hr
          subst hik
          obtain ⟨c1, c2⟩ := cellsA_ok hq3 hcs
          obtain ⟨vi, vv⟩ := v
          simp only at hq2 hq3 c1 c2
          subst hq2
          have hvsz : vv.cells.size = n := by
            have : vv.cells.toList.length = vv.cells.size := by simp
            omega
          simp only [List.length_cons] at hA
          have hA' : vi * n + n ≤ A.size := by
            have : (vi + 1) * n ≤ (vi + (ps.length + 1)) * n := Nat.mul_le_mul_right _ (by omega)
            rw [Nat.add_mul] at this; omega
          have hsz : (A.toList.take (vi * n) ++ (vv.cells.toList ++ A.toList.drop (vi * n + n))).toArray.size = A.size := by
            have : A.toList.length = A.size := by simp
            have : vv.cells.toList.length = vv.cells.size := by simp
            simp only [List.size_toArray, List.length_append, List.length_take, List.length_drop]
            omega
          obtain ⟨B, b1, b2, b3, b4, b5⟩ := fill_rows n hn ps vs (vi + 1) rs (A.toList.take (vi * n) ++ (vv.cells.toList ++ A.toList.drop (vi * n + n))).toArray (by simpa using hl)
            (fun j p hj => by simpa using hvs (j + 1) p (by simpa using hj)) hrs (by rw [hsz]; rw [show vi + 1 + ps.length = vi + (ps.length + 1) by omega]; exact hA)
          have hAl : A.toList.length = A.size := by simp
          have htl : (A.toList.take (vi * n)).length = vi * n := by simp; omega
          have hvl : vv.cells.toList.length = n := by simpa using hvsz
          refine ⟨B, ?_, by rw [b2, hsz], fun j hj => ?_, fun j hj => ?_, fun j c hj => ?_⟩
          · rw [fill_step _ A vi (vi * n) n vv vs rfl hvsz hA']; exact b1
          · rw [b3 j (by rw [Nat.add_mul]; omega)]
            simp only [List.getElem?_toArray]
            rw [List.getElem?_append_left (by omega), List.getElem?_take, if_pos hj]
            simp
          · simp only [List.length_cons] at hj
            rw [b4 j (by rw [show vi + 1 + ps.length = vi + (ps.length + 1) by omega]; exact hj)]
            have hj2 : vi * n + n ≤ j := by
              have : (vi + 1) * n ≤ (vi + (ps.length + 1)) * n := Nat.mul_le_mul_right _ (by omega)
              rw [Nat.add_mul] at this; omega
            simp only [List.getElem?_toArray]
            rw [List.getElem?_append_right (by omega), List.getElem?_append_right (by omega), List.getElem?_drop, htl, hvl]
            rw [show vi * n + n + (j - vi * n - n) = j by omega]
            simp
          · simp only [List.flatten_cons] at hj
            rcases Nat.lt_or_ge j n with h1 | h1
            · rw [List.getElem?_append_left (by omega)] at hj
              obtain ⟨u, hu, hc⟩ := c2 j c hj
              refine ⟨u, ?_, hc⟩
              rw [b3 _ (by rw [Nat.add_mul]; omega)]
              simp only [List.getElem?_toArray]
              rw [List.getElem?_append_right (by omega), htl, show vi * n + j - vi * n = j by omega, List.getElem?_append_left (by omega)]
              exact hu
            · rw [List.getElem?_append_right (by omega), hcl] at hj
              obtain ⟨u, hu, hc⟩ := b5 (j - n) c hj
              refine ⟨u, ?_, hc⟩
              rw [Nat.add_mul] at hu
              rw [show vi * n + 1 * n + (j - n) = vi * n + j by omega] at hu
              exact hu
        · cases hr
      · cases hr

end Go.Vm
