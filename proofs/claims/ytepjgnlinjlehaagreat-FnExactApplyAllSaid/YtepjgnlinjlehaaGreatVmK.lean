/- The value machine, part K: literals, slicing, freezing, append. -/
import Derived.Test.YtepjgnlinjlehaaGreatVmJ
namespace Go.Vm
set_option linter.unusedSimpArgs false
set_option linter.unusedVariables false
open Go.RowKit

variable {P : Program} {w0 : Bs} {St0 St : Nat → Nat → Prop} {β : Nat → Option Nat} {s : MS} {a : Act} {w : World}

def buildSliceE (P : Program) (s : MS) (T : TypeId) (len : Nat) (ps : List (Nat × Operand)) : Option (AV × List Ob) := match tyElem P T with
  | some e => match tySize P e, tyZ P e, rowsA (partsA s ps) 0 ((tySize P e).getD 0) with
    | some n, some zs, some rows => if rows.length = len ∧ zs.length = n ∧ 0 < n ∧ len * n ≤ 16777216 then some (.c (.ref s.st.length), s.st ++ [⟨e, n, rows, true, true⟩]) else none
    | _, _, _ => none
  | none => none

theorem partsA_ok (h : Core w0 St0 St β s a w) : ∀ (ps : List (Nat × Operand)), ps.all (fun p => opndOk p.2) = true → ∀ (j : Nat) (p : Nat × AV), (partsA s ps)[j]? = some p →
    ∃ q : Nat × Value, (ps.map fun x => (x.1, a.eval x.2))[j]? = some q ∧ q.1 = p.1 ∧ AVR w St s.st β p.2 q.2
  | [], _, j, p, hj => by simp [partsA] at hj
  | q :: ps, hc, j, p, hj => by
    simp only [List.all_cons, Bool.and_eq_true] at hc
    simp only [partsA] at hj
    cases j with
    | zero =>
      simp only [List.getElem?_cons_zero, Option.some.injEq] at hj
      subst hj
      exact ⟨_, rfl, rfl, evA_ok h q.2 hc.1⟩
    | succ j =>
      simp only [List.getElem?_cons_succ] at hj
      simpa using partsA_ok h ps hc.2 j p hj

theorem partsA_len (ps : List (Nat × Operand)) : (partsA s ps).length = ps.length := by
  induction ps with
  | nil => rfl
  | cons p ps ih => simp [partsA, ih]

theorem rowsA_len : ∀ (ps : List (Nat × AV)) (k n : Nat) (rows : List (List Cl)), rowsA ps k n = some rows → rows.length = ps.length ∧ ∀ x ∈ rows, x.length = n
  | [], k, n, rows, h => by simp [rowsA] at h; subst h; simp
  | (i, x) :: ps, k, n, rows, h => by
    simp only [rowsA] at h
    split at h
    · rename_i cs rs hcs hrs
      split at h
      · rename_i hik
        simp only [Option.some.injEq] at h
        subst h
        obtain ⟨h1, h2⟩ := rowsA_len ps (k + 1) n rs hrs
        exact ⟨by simp [h1], fun y hy => by
          rcases List.mem_cons.1 hy with rfl | hy
          · exact hik.2
          · exact h2 y hy⟩
      · cases h
    · cases h

theorem buildSlice_ok (h : Core w0 St0 St β s a w) (o : Oper) (T : TypeId) (len : Nat) (ps : Array (Nat × Operand)) (ho : o.op = .buildSlice T len ps) (hc : ps.toList.all (fun p => opndOk p.2) = true) {y : AV} {st' : List Ob} (hy : buildSliceE P s T len ps.toList = some (y, st')) : Does P a w w0 St0 s o y st' := by
  unfold buildSliceE at hy
  split at hy
  · rename_i e hte
    have ht := tyElem_ok hte
    split at hy
    · rename_i n cs0 rows hs hz0 hrows
      obtain ⟨zs, hz, _, rfl⟩ := tyZ_ok hz0
      split at hy
      · rename_i hcond
        obtain ⟨hlen, hzl0, hn, hmax⟩ := hcond
        have hzl : zs.length = n := by simpa using hzl0
        simp only [Option.some.injEq, Prod.mk.injEq] at hy
        obtain ⟨rfl, rfl⟩ := hy
        rw [hs] at hrows
        simp only [Option.getD_some] at hrows
        obtain ⟨r1, r2⟩ := rowsA_len _ _ _ _ hrows
        obtain ⟨z, hz1, hz2⟩ := run_zero hz w
        have hzs : z.cells.size = n := by rw [← hzl, ← hz2]; simp
        have hpl := partsA_len (s := s) ps.toList
        let A : Array Value := if len * n = 0 then #[] else (Array.range (len * n)).map (z.cells[· % z.cells.size]!)
        have hAs : A.size = len * n := by
          show (if len * n = 0 then #[] else (Array.range (len * n)).map (z.cells[· % z.cells.size]!) : Array Value).size = len * n
          split
          · rename_i h0; simp [h0]
          · simp
        obtain ⟨B, b1, b2, _, _, b5⟩ := fill_rows (w := w) (St := St) (β := β) (st := s.st) n hn (partsA s ps.toList) (ps.toList.map fun x => (x.1, a.eval x.2)) 0 rows A (by simp [hpl]) (partsA_ok h ps.toList hc) hrows (by rw [hAs, ← hlen, r1]; simp)
        simp only [Nat.zero_mul, Nat.zero_add] at b5
        obtain ⟨β', q1, q2, q3⟩ := h.newCells e n rows B r2 b5
        refine ⟨_, .slice (some ⟨w.heap.size, 0, none⟩) len len, _, St, β', ?_, .inl rfl, q1, ?_⟩
        · have hmap : (ps.map fun (x : Nat × Operand) => (x.1, a.eval x.2)).toList = ps.toList.map fun x => (x.1, a.eval x.2) := by simp
          have hnm : ¬ (16777216 < len * n) := by omega
          by_cases h0 : len * n = 0
          · have hA0 : A = #[] := by show (if len * n = 0 then #[] else _) = _; rw [if_pos h0]
            rw [hA0] at b1
            have h00 : len = 0 ∨ n = 0 := Nat.mul_eq_zero.1 h0
            simp only [execOp, ho, Instr.buildSlice, Sem.run_bind, run_underlying ht, Result.andThen_ok, run_size hs]
            have hr0 : (Array.range 0).map (fun i => (#[] : Array Value)[i % (#[] : Array Value).size]!) = #[] := by simp
            simp only [gt_iff_lt, Nat.reducePow, h0, if_true, if_neg (Nat.not_lt_zero 16777216), Sem.run_bind, Sem.run_pure, Result.andThen_ok, hmap, hr0, b1, newRow, run_newObj, World.alloc_eq]
          · have hA1 : A = (Array.range (len * n)).map (z.cells[· % z.cells.size]!) := by show (if len * n = 0 then #[] else _) = _; rw [if_neg h0]
            rw [hA1] at b1
            simp only [execOp, ho, Instr.buildSlice, Sem.run_bind, run_underlying ht, Result.andThen_ok, run_size hs]
            simp only [gt_iff_lt, Nat.reducePow, if_neg hnm, if_neg h0, Sem.run_bind, hz1, Sem.run_pure, Result.andThen_ok, hmap, b1, newRow, run_newObj, World.alloc_eq]
        · simp only [AVR, RdC, RefR]
          rw [List.getElem?_append_right (Nat.le_refl _)]
          simp only [Nat.sub_self, List.getElem?_cons_zero, q2]
          refine ⟨rfl, fun _ => ⟨len, B, by rw [hlen], by omega, ?_, alloc_at w _, by rw [b2, hAs]⟩⟩
          have : len ≤ len * n := Nat.le_mul_of_pos_right _ hn
          simp only [maxLen]; omega
      · cases hy
    · cases hy
  · cases hy


/-! ### Struct literals -/
def buildE (P : Program) (s : MS) (T : TypeId) (ps : List (Nat × Operand)) : Option (AV × List Ob) := match tyZ P T with
  | some z => match fillA P T z (partsA s ps) with
    | some cs => some (.agg cs, s.st)
    | none => none
  | none => none

theorem fill_struct {T : TypeId} {fs : Array Field} (hu : P.underlying T = some (.struct fs)) {st : List Ob} (places : Array (Nat × Nat)) (hpl : ∀ (i off : Nat) (ft : TypeId) (n : Nat), tyField P T i = some (off, ft) → tySize P ft = some n → places[i]? = some (off, n)) :
    ∀ (ps : List (Nat × AV)) (vs : List (Nat × Value)) (F F' : List Cl) (A : Array Value),
    vs.length = ps.length → (∀ (j : Nat) (p : Nat × AV), ps[j]? = some p → ∃ q : Nat × Value, vs[j]? = some q ∧ q.1 = p.1 ∧ AVR w St st β p.2 q.2) → fillA P T F ps = some F' → A.size = F.length →
    (∀ (k : Nat) (c : Cl), F[k]? = some c → ∃ u, A.toList[k]? = some u ∧ RdC w St st β c u) →
    ∃ B : Array Value, Instr.fill (places[·]?) A vs = some B ∧ B.size = F'.length ∧ (∀ (k : Nat) (c : Cl), F'[k]? = some c → ∃ u, B.toList[k]? = some u ∧ RdC w St st β c u)
  | [], vs, F, F', A, hl, _, hf, hA, hc => by
    simp only [fillA, Option.some.injEq] at hf
    subst hf
    have : vs = [] := List.eq_nil_of_length_eq_zero (by simpa using hl)
    subst this
    exact ⟨A, rfl, hA, hc⟩
  | (i, x) :: ps, vs, F, F', A, hl, hvs, hf, hA, hc => by
    cases vs with
    | nil => simp at hl
    | cons v vs =>
      obtain ⟨q, hq1, hq2, hq3⟩ := hvs 0 (i, x) rfl
      simp only [List.getElem?_cons_zero, Option.some.injEq] at hq1
      subst hq1
      obtain ⟨vi, vv⟩ := v
      simp only at hq2 hq3
      subst hq2
      simp only [fillA] at hf
      split at hf
      · rename_i off ft cs hfi hcs
        split at hf
        · rename_i n hn
          split at hf
          · rename_i hcond
            obtain ⟨hcl, hle⟩ := hcond
            obtain ⟨c1, c2⟩ := cellsA_ok hq3 hcs
            have hvl : vv.cells.toList.length = n := by omega
            have hvsz : vv.cells.size = n := by simpa using hvl
            have hAl : A.toList.length = A.size := by simp
            obtain ⟨B, b1, b2, b3⟩ := fill_struct hu places hpl ps vs _ F' (A.toList.take off ++ (vv.cells.toList ++ A.toList.drop (off + n))).toArray (by simpa using hl)
              (fun j p hj => by simpa using hvs (j + 1) p (by simpa using hj)) hf (by simp only [List.size_toArray, List.length_append, List.length_take, List.length_drop]; omega)
              (fun k c hk => by simpa using cells_patch hc hle hcl hvl c2 (by omega) k c hk)
            exact ⟨B, by rw [fill_step _ A vi off n vv vs (hpl vi off ft n hfi hn) hvsz (by omega)]; exact b1, b2, b3⟩
          · cases hf
        · cases hf
      · cases hf

/-- The places of a struct's fields, as the model reckons them. -/
theorem run_places {fs : Array Field} (hall : ∀ x ∈ fs.toList, ∃ n, tySize P x.type = some n) (w : World) :
    (fs.mapM fun (f : Field) => (do pure (f.offset, ← sizeOf f.type) : Sem (Nat × Nat))).run P w = .ok (fs.map fun f => (f.offset, (tySize P f.type).getD 0)) w := by
  rw [Array.mapM_eq_mapM_toList]
  have key : ∀ (l : List Field), (∀ x ∈ l, ∃ n, tySize P x.type = some n) → (l.mapM fun (f : Field) => (do pure (f.offset, ← sizeOf f.type) : Sem (Nat × Nat))).run P w = .ok (l.map fun f => (f.offset, (tySize P f.type).getD 0)) w := by
    intro l
    induction l with
    | nil => intro _; simp
    | cons x l ih =>
      intro hl
      obtain ⟨n, hn⟩ := hl x (by simp)
      have := ih (fun y hy => hl y (by simp [hy]))
      simp only [List.mapM_cons, Sem.run_bind, run_size hn, Result.andThen_ok, Sem.run_pure, this, List.map_cons, hn, Option.getD_some]
  rw [Sem.run_map, key _ hall]
  simp only [Result.andThen_ok]
  congr 1
  apply Array.ext'
  simp

def fieldsOk (P : Program) (T : TypeId) : Bool := match P.underlying T with
  | some (.struct fs) => fs.toList.all fun x => (tySize P x.type).isSome
  | _ => false

theorem build_ok (h : Core w0 St0 St β s a w) (o : Oper) (T : TypeId) (ps : Array (Nat × Operand)) (ho : o.op = .build T ps) (hfo : fieldsOk P T = true) (hc : ps.toList.all (fun p => opndOk p.2) = true) {y : AV} {st' : List Ob} (hy : buildE P s T ps.toList = some (y, st')) : Does P a w w0 St0 s o y st' := by
  unfold fieldsOk at hfo
  split at hfo
  · rename_i fs hu
    unfold buildE at hy
    split at hy
    · rename_i z0 hz0
      obtain ⟨zs, hz, hwf, rfl⟩ := tyZ_ok hz0
      · split at hy
        · rename_i cs hcs
          simp only [Option.some.injEq, Prod.mk.injEq] at hy
          obtain ⟨rfl, rfl⟩ := hy
          obtain ⟨z, hz1, hz2⟩ := run_zero hz w
          have hall : ∀ x ∈ fs.toList, ∃ n, tySize P x.type = some n := fun x hx => Option.isSome_iff_exists.1 (List.all_eq_true.1 hfo x hx)
          have hpl := partsA_len (s := s) ps.toList
          obtain ⟨B, b1, b2, b3⟩ := fill_struct (w := w) (St := St) (β := β) (st := s.st) hu (fs.map fun f => (f.offset, (tySize P f.type).getD 0)) (fun i off ft n h1 h2 => by
            obtain ⟨fs', x, q1, q2, q3, q4⟩ := tyField_ok h1
            rw [hu] at q1
            simp only [Option.some.injEq, TypeDesc.struct.injEq] at q1
            subst q1
            simp [q2, q3, q4, h2]) (partsA s ps.toList) (ps.toList.map fun x => (x.1, a.eval x.2)) (zs.map .v) cs z.cells (by simp [hpl]) (partsA_ok h ps.toList hc) hcs (by rw [List.length_map, ← hz2]; simp) (fun k c hk => by
              simp only [List.getElem?_map, Option.map_eq_some_iff] at hk
              obtain ⟨v, hv, rfl⟩ := hk
              refine ⟨v, by rw [hz2]; exact hv, ?_⟩
              simp only [RdC, RdD, true_and]
              exact List.all_eq_true.1 hwf v (List.mem_of_getElem? hv))
          have hmap : (ps.map fun (x : Nat × Operand) => (x.1, a.eval x.2)).toList = ps.toList.map fun x => (x.1, a.eval x.2) := by simp
          refine ⟨_, .agg B, _, St, β, ?_, .inl rfl, h, ?_⟩
          · simp only [execOp, ho, Instr.build, Sem.run_bind, hz1, run_underlying hu, Result.andThen_ok, run_places hall, hmap]
            simp only [b1, Sem.run_pure, Result.andThen_ok, Sem.run_bind]
          · simp only [AVR]
            exact ⟨B.toList, by simp, by simpa using b2, b3⟩
        · cases hy
    · cases hy
  · cases hfo

end Go.Vm
