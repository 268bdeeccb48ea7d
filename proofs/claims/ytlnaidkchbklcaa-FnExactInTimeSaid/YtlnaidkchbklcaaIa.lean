/- Walks and laws of this seat, over the value machine. -/
import Derived.Test.YtlnaidkchbklcaaHa
namespace Go.Proofs.Ytlnaidkchbklcaa
set_option linter.unusedSimpArgs false
set_option linter.unusedVariables false
open Go.Vm
set_option maxHeartbeats 1000000
set_option maxRecDepth 10000

def rowOk (cs : List Int) (r : DRow) : Bool := decide (r.id ≥ 0) && fits cs r.l
theorem sRowOk_spec (cs : List Int) (r : DRow) : Ctr Try.prog 17 [.c (.sl (cs.map intC)), .agg r.c] [.val (.c (.v (.bool (rowOk cs r))))] := by
  refine Ctr.mk (fn := Try.f17) Try.call17 Try.func17 rfl mixed Try.ntmps17 Try.results17 (by kernel_rfl) rfl fun hw => ?_
  simp only [go_sem, List.getElem?_toArray, Nat.reduceAdd, Nat.reduceSub, Nat.reduceMul, Nat.reduceLT, Nat.reduceLeDiff, Nat.reduceEqDiff, Nat.succ_ne_zero, reduceIte]
  rcases hi : decide (r.id ≥ 0) with _ | _
  · simp only [go_sem, List.getElem?_toArray, Nat.reduceAdd, Nat.reduceSub, Nat.reduceMul, Nat.reduceLT, Nat.reduceLeDiff, Nat.reduceEqDiff, Nat.succ_ne_zero, reduceIte, hi]; simp only [rowOk, hi, Bool.false_and]
  · simp only [go_sem, List.getElem?_toArray, Nat.reduceAdd, Nat.reduceSub, Nat.reduceMul, Nat.reduceLT, Nat.reduceLeDiff, Nat.reduceEqDiff, Nat.succ_ne_zero, reduceIte, hi]
    refine CallK.mk _ (sFits_spec cs r.l) fun _ => ?_
    simp only [go_sem, List.getElem?_toArray, Nat.reduceAdd, Nat.reduceSub, Nat.reduceMul, Nat.reduceLT, Nat.reduceLeDiff, Nat.reduceEqDiff, Nat.succ_ne_zero, reduceIte, hi]; simp only [rowOk, hi, Bool.true_and]
theorem iRowOk_spec (cs : List Int) (r : DRow) : Ctr Try.prog 22 [.c (.sl (cs.map intC)), .agg r.c] [.val (.c (.v (.bool (rowOk cs r))))] := by
  refine Ctr.mk (fn := Try.f22) Try.call22 Try.func22 rfl mixed Try.ntmps22 Try.results22 (by kernel_rfl) rfl fun hw => ?_
  simp only [go_sem, List.getElem?_toArray, Nat.reduceAdd, Nat.reduceSub, Nat.reduceMul, Nat.reduceLT, Nat.reduceLeDiff, Nat.reduceEqDiff, Nat.succ_ne_zero, reduceIte]
  rcases hi : decide (r.id ≥ 0) with _ | _
  · simp only [go_sem, List.getElem?_toArray, Nat.reduceAdd, Nat.reduceSub, Nat.reduceMul, Nat.reduceLT, Nat.reduceLeDiff, Nat.reduceEqDiff, Nat.succ_ne_zero, reduceIte, hi]; simp only [rowOk, hi, Bool.false_and]
  · simp only [go_sem, List.getElem?_toArray, Nat.reduceAdd, Nat.reduceSub, Nat.reduceMul, Nat.reduceLT, Nat.reduceLeDiff, Nat.reduceEqDiff, Nat.succ_ne_zero, reduceIte, hi]
    refine CallK.mk _ (iFits_spec cs r.l) fun _ => ?_
    simp only [go_sem, List.getElem?_toArray, Nat.reduceAdd, Nat.reduceSub, Nat.reduceMul, Nat.reduceLT, Nat.reduceLeDiff, Nat.reduceEqDiff, Nat.succ_ne_zero, reduceIte, hi]; simp only [rowOk, hi, Bool.true_and]
def colsL (cs : List Int) : Bool := cs.all fun c => inR c 1 2
def colsOk (cs : List Int) : Bool := colsL cs && inR cs.length 1 3
theorem colsL_drop (cs : List Int) {k : Nat} (h : k < cs.length) : colsL (cs.drop k) = (inR cs[k] 1 2 && colsL (cs.drop (k + 1))) := by
  rw [List.drop_eq_getElem_cons h]; rfl
theorem sCols_spec (cs : List Int) : Ctr Try.prog 18 [.c (.sl (cs.map intC))] [.val (.c (.v (.bool (colsOk cs))))] := by
  refine Ctr.mk (fn := Try.f18) Try.call18 Try.func18 rfl mixed Try.ntmps18 Try.results18 (by kernel_rfl) rfl fun hw => ?_
  have hlen : cs.length ≤ 9223372036854775807 := by have := hw.1.1; simpa [Go.maxLen] using this
  simp only [go_sem, List.getElem?_toArray, Nat.reduceAdd, Nat.reduceSub, Nat.reduceMul, Nat.reduceLT, Nat.reduceLeDiff, Nat.reduceEqDiff, Nat.succ_ne_zero, reduceIte, List.length_map]
  refine LoopK.mk 0 [0, 3] (A := Nat) (fun k => ⟨19, [(0, .c (.sl (cs.map intC))), (3, .c (.v (.int .i64 k)))], []⟩) (fun k => k ≤ cs.length ∧ colsL (cs.drop k) = colsL cs) (fun k => cs.length - k) 0 ⟨⟨rfl, rfl⟩, rfl, Nat.zero_le _, rfl⟩ ?_
  rintro k ⟨hk, hf⟩
  simp only [go_sem, List.getElem?_toArray, Nat.reduceAdd, Nat.reduceSub, Nat.reduceMul, Nat.reduceLT, Nat.reduceLeDiff, Nat.reduceEqDiff, Nat.succ_ne_zero, reduceIte, List.length_map]
  refine cndC.mk (fun h => ?_) (fun h => ?_)
  · have hk' : k < cs.length := by simpa using h
    rw [colsL_drop cs hk'] at hf
    simp only [go_sem, List.getElem?_toArray, Nat.reduceAdd, Nat.reduceSub, Nat.reduceMul, Nat.reduceLT, Nat.reduceLeDiff, Nat.reduceEqDiff, Nat.succ_ne_zero, reduceIte, map_at _ hk']
    refine CallK.mk _ (l1In_spec _ _ _) fun _ => ?_
    simp only [go_sem, List.getElem?_toArray, Nat.reduceAdd, Nat.reduceSub, Nat.reduceMul, Nat.reduceLT, Nat.reduceLeDiff, Nat.reduceEqDiff, Nat.succ_ne_zero, reduceIte]
    rcases hi : inR cs[k] 1 2 with _ | _
    · simp only [go_sem, List.getElem?_toArray, Nat.reduceAdd, Nat.reduceSub, Nat.reduceMul, Nat.reduceLT, Nat.reduceLeDiff, Nat.reduceEqDiff, Nat.succ_ne_zero, reduceIte, hi]
      rw [hi, Bool.false_and] at hf
      simp only [colsOk, ← hf, Bool.false_and]
    · simp only [go_sem, List.getElem?_toArray, Nat.reduceAdd, Nat.reduceSub, Nat.reduceMul, Nat.reduceLT, Nat.reduceLeDiff, Nat.reduceEqDiff, Nat.succ_ne_zero, reduceIte, hi, wrap_i64 (n := (k : Int) + 1) (by omega) (by omega)]
      rw [hi, Bool.true_and] at hf
      exact ⟨k + 1, ⟨rfl, rfl⟩, rfl, ⟨by omega, hf⟩, by omega⟩
  · have hk' : k = cs.length := by simp at h; omega
    subst hk'
    simp only [go_sem, List.getElem?_toArray, Nat.reduceAdd, Nat.reduceSub, Nat.reduceMul, Nat.reduceLT, Nat.reduceLeDiff, Nat.reduceEqDiff, Nat.succ_ne_zero, reduceIte, List.length_map]
    refine CallK.mk _ (l1In_spec _ _ _) fun _ => ?_
    simp only [go_sem, List.getElem?_toArray, Nat.reduceAdd, Nat.reduceSub, Nat.reduceMul, Nat.reduceLT, Nat.reduceLeDiff, Nat.reduceEqDiff, Nat.succ_ne_zero, reduceIte]
    rw [List.drop_length] at hf
    simp only [colsOk, ← hf]; simp [colsL]
theorem iCols_spec (cs : List Int) : Ctr Try.prog 21 [.c (.sl (cs.map intC))] [.val (.c (.v (.bool (colsOk cs))))] := by
  refine Ctr.mk (fn := Try.f21) Try.call21 Try.func21 rfl mixed Try.ntmps21 Try.results21 (by kernel_rfl) rfl fun hw => ?_
  have hlen : cs.length ≤ 9223372036854775807 := by have := hw.1.1; simpa [Go.maxLen] using this
  simp only [go_sem, List.getElem?_toArray, Nat.reduceAdd, Nat.reduceSub, Nat.reduceMul, Nat.reduceLT, Nat.reduceLeDiff, Nat.reduceEqDiff, Nat.succ_ne_zero, reduceIte, List.length_map]
  refine LoopK.mk 0 [0, 5, 6, 7] (A := Nat) (fun k => ⟨21, [(0, .c (.sl (cs.map intC))), (5, .c (.sl (cs.map intC))), (6, .c (.v (.int .i64 cs.length))), (7, .c (.v (.int .i64 k)))], []⟩) (fun k => k ≤ cs.length ∧ colsL (cs.drop k) = colsL cs) (fun k => cs.length - k) 0 ⟨⟨rfl, rfl⟩, rfl, Nat.zero_le _, rfl⟩ ?_
  rintro k ⟨hk, hf⟩
  simp only [go_sem, List.getElem?_toArray, Nat.reduceAdd, Nat.reduceSub, Nat.reduceMul, Nat.reduceLT, Nat.reduceLeDiff, Nat.reduceEqDiff, Nat.succ_ne_zero, reduceIte, List.length_map]
  refine cndC.mk (fun h => ?_) (fun h => ?_)
  · have hk' : k < cs.length := by simpa using h
    rw [colsL_drop cs hk'] at hf
    simp only [go_sem, List.getElem?_toArray, Nat.reduceAdd, Nat.reduceSub, Nat.reduceMul, Nat.reduceLT, Nat.reduceLeDiff, Nat.reduceEqDiff, Nat.succ_ne_zero, reduceIte, map_at _ hk']
    have hgood : inR cs[k] 1 2 = true → colsL (cs.drop (k + 1)) = colsL cs := by intro hi; rw [hi, Bool.true_and] at hf; exact hf
    rcases h1 : cs[k] != 1 with _ | _
    · simp only [go_sem, List.getElem?_toArray, Nat.reduceAdd, Nat.reduceSub, Nat.reduceMul, Nat.reduceLT, Nat.reduceLeDiff, Nat.reduceEqDiff, Nat.succ_ne_zero, reduceIte, h1, wrap_i64 (n := (k : Int) + 1) (by omega) (by omega)]
      exact ⟨k + 1, ⟨rfl, rfl⟩, rfl, ⟨by omega, hgood (by simp [inR]; simp at h1; omega)⟩, by omega⟩
    · rcases h2 : cs[k] != 2 with _ | _
      · simp only [go_sem, List.getElem?_toArray, Nat.reduceAdd, Nat.reduceSub, Nat.reduceMul, Nat.reduceLT, Nat.reduceLeDiff, Nat.reduceEqDiff, Nat.succ_ne_zero, reduceIte, h1, h2, wrap_i64 (n := (k : Int) + 1) (by omega) (by omega)]
        exact ⟨k + 1, ⟨rfl, rfl⟩, rfl, ⟨by omega, hgood (by simp [inR]; simp at h2; omega)⟩, by omega⟩
      · simp only [go_sem, List.getElem?_toArray, Nat.reduceAdd, Nat.reduceSub, Nat.reduceMul, Nat.reduceLT, Nat.reduceLeDiff, Nat.reduceEqDiff, Nat.succ_ne_zero, reduceIte, h1, h2]
        have hi : inR cs[k] 1 2 = false := by simp [inR]; simp at h1 h2; omega
        rw [hi, Bool.false_and] at hf
        simp only [colsOk, ← hf, Bool.false_and]
  · have hk' : k = cs.length := by simp at h; omega
    subst hk'
    simp only [go_sem, List.getElem?_toArray, Nat.reduceAdd, Nat.reduceSub, Nat.reduceMul, Nat.reduceLT, Nat.reduceLeDiff, Nat.reduceEqDiff, Nat.succ_ne_zero, reduceIte, List.length_map]
    refine CallK.mk _ (within_spec _ _ _) fun _ => ?_
    simp only [go_sem, List.getElem?_toArray, Nat.reduceAdd, Nat.reduceSub, Nat.reduceMul, Nat.reduceLT, Nat.reduceLeDiff, Nat.reduceEqDiff, Nat.succ_ne_zero, reduceIte]
    rw [List.drop_length] at hf
    simp only [colsOk, ← hf]; simp [colsL]
/-- Row i is right, and behind its elder. -/
def rowAt (cs : List Int) (l : List DRow) (i : Nat) : Prop := ∀ h : i < l.length, rowOk cs l[i] = true ∧ (0 < i → l[i - 1].id < l[i].id)
noncomputable def rowsOk (cs : List Int) (l : List DRow) : Bool := @decide (∀ i, rowAt cs l i) (Classical.propDecidable _)
noncomputable def tableOk (t : DTable) : Bool := colsOk t.cols && rowsOk t.cols t.l
theorem rowsOk_no {cs : List Int} {l : List DRow} {i : Nat} (h : ¬ rowAt cs l i) : rowsOk cs l = false := by
  simp only [rowsOk, decide_eq_false_iff_not]
  exact fun hall => h (hall i)
theorem rowsOk_yes {cs : List Int} {l : List DRow} (h : ∀ i, i < l.length → rowAt cs l i) : rowsOk cs l = true := by
  simp only [rowsOk, decide_eq_true_eq]
  intro i hi
  exact h i hi hi
theorem sTable_spec (t : DTable) : Ctr Try.prog 6 [.agg t.c] [.val (.c (.v (.bool (tableOk t))))] := by
  refine Ctr.mk (fn := Try.f6) Try.call6 Try.func6 rfl mixed Try.ntmps6 Try.results6 (by kernel_rfl) rfl fun hw => ?_
  have hlen : t.l.length ≤ 9223372036854775807 := by have := hw.1.2.1.1; simpa [Go.maxLen] using this
  simp only [go_sem, List.getElem?_toArray, Nat.reduceAdd, Nat.reduceSub, Nat.reduceMul, Nat.reduceLT, Nat.reduceLeDiff, Nat.reduceEqDiff, Nat.succ_ne_zero, reduceIte, List.length_map]
  refine LoopK.mk 1 [1, 3] (A := Nat) (fun k => ⟨43, [(1, .lp 0 0 0), (3, .c (.v (.int .i64 k)))], [⟨30, 2, [t.c], true, true⟩]⟩) (fun k => k ≤ t.l.length ∧ ∀ i, i < k → rowAt t.cols t.l i) (fun k => t.l.length - k) 0 ⟨⟨rfl, rfl⟩, rfl, Nat.zero_le _, fun i h => by omega⟩ ?_
  rintro k ⟨hk, hf⟩
  simp only [go_sem, List.getElem?_toArray, Nat.reduceAdd, Nat.reduceSub, Nat.reduceMul, Nat.reduceLT, Nat.reduceLeDiff, Nat.reduceEqDiff, Nat.succ_ne_zero, reduceIte, List.length_map]
  refine cndC.mk (fun h => ?_) (fun h => ?_)
  · have hk' : k < t.l.length := by simpa using h
    have hnext : rowAt t.cols t.l k → ∀ i, i < k + 1 → rowAt t.cols t.l i := by
      intro hg i hi
      by_cases e : i = k
      · subst e; exact hg
      · exact hf i (by omega)
    simp only [go_sem, List.getElem?_toArray, Nat.reduceAdd, Nat.reduceSub, Nat.reduceMul, Nat.reduceLT, Nat.reduceLeDiff, Nat.reduceEqDiff, Nat.succ_ne_zero, reduceIte]
    refine DrawK.mk ?_
    simp only [go_sem, List.getElem?_toArray, Nat.reduceAdd, Nat.reduceSub, Nat.reduceMul, Nat.reduceLT, Nat.reduceLeDiff, Nat.reduceEqDiff, Nat.succ_ne_zero, reduceIte, List.length_map, map_at _ hk', hk']
    refine CallF.mk _ (by simpa only [go_sem] using sRowOk_spec t.cols t.l[k]) ?_
    rcases hv : rowOk t.cols t.l[k] with _ | _
    · simp only [go_sem, List.getElem?_toArray, Nat.reduceAdd, Nat.reduceSub, Nat.reduceMul, Nat.reduceLT, Nat.reduceLeDiff, Nat.reduceEqDiff, Nat.succ_ne_zero, reduceIte, hv]
      have hno : ¬ rowAt t.cols t.l k := by intro hg; have := (hg hk').1; rw [hv] at this; cases this
      simp only [tableOk, rowsOk_no hno, Bool.and_false]
    · rcases Nat.eq_zero_or_pos k with hz | hz
      · have hp : decide ((k : Int) > 0) = false := by simp; omega
        simp only [go_sem, List.getElem?_toArray, Nat.reduceAdd, Nat.reduceSub, Nat.reduceMul, Nat.reduceLT, Nat.reduceLeDiff, Nat.reduceEqDiff, Nat.succ_ne_zero, reduceIte, hv, hp, wrap_i64 (n := (k : Int) + 1) (by omega) (by omega)]
        exact ⟨k + 1, ⟨rfl, rfl⟩, rfl, ⟨by omega, hnext fun _ => ⟨hv, fun h0 => by omega⟩⟩, by omega⟩
      · have hp : decide ((k : Int) > 0) = true := by simp; omega
        have hk1 : k - 1 < t.l.length := by omega
        have hw1 : IntKind.i64.wrap ((k : Int) - 1) = ((k - 1 : Nat) : Int) := by rw [wrap_i64 (by omega) (by omega)]; omega
        rcases hq : decide (t.l[k - 1].id ≥ t.l[k].id) with _ | _
        · simp only [go_sem, List.getElem?_toArray, Nat.reduceAdd, Nat.reduceSub, Nat.reduceMul, Nat.reduceLT, Nat.reduceLeDiff, Nat.reduceEqDiff, Nat.succ_ne_zero, reduceIte, hv, hp, hw1, map_at _ hk', map_at _ hk1, hq, wrap_i64 (n := (k : Int) + 1) (by omega) (by omega)]
          exact ⟨k + 1, ⟨rfl, rfl⟩, rfl, ⟨by omega, hnext fun _ => ⟨hv, fun _ => by simp at hq; omega⟩⟩, by omega⟩
        · simp only [go_sem, List.getElem?_toArray, Nat.reduceAdd, Nat.reduceSub, Nat.reduceMul, Nat.reduceLT, Nat.reduceLeDiff, Nat.reduceEqDiff, Nat.succ_ne_zero, reduceIte, hv, hp, hw1, map_at _ hk', map_at _ hk1, hq]
          have hno : ¬ rowAt t.cols t.l k := by intro hg; have := (hg hk').2 hz; simp at hq; omega
          simp only [tableOk, rowsOk_no hno, Bool.and_false]
  · have hk' : k = t.l.length := by simp at h; omega
    simp only [go_sem, List.getElem?_toArray, Nat.reduceAdd, Nat.reduceSub, Nat.reduceMul, Nat.reduceLT, Nat.reduceLeDiff, Nat.reduceEqDiff, Nat.succ_ne_zero, reduceIte]
    refine CallK.mk _ (sCols_spec _) fun _ => ?_
    simp only [go_sem, List.getElem?_toArray, Nat.reduceAdd, Nat.reduceSub, Nat.reduceMul, Nat.reduceLT, Nat.reduceLeDiff, Nat.reduceEqDiff, Nat.succ_ne_zero, reduceIte]
    simp only [tableOk, rowsOk_yes (hk' ▸ hf), Bool.and_true]
theorem iTable_spec (t : DTable) : Ctr Try.prog 8 [.agg t.c] [.val (.c (.v (.bool (tableOk t))))] := by
  refine Ctr.mk (fn := Try.f8) Try.call8 Try.func8 rfl mixed Try.ntmps8 Try.results8 (by kernel_rfl) rfl fun hw => ?_
  have hlen : t.l.length ≤ 9223372036854775807 := by have := hw.1.2.1.1; simpa [Go.maxLen] using this
  simp only [go_sem, List.getElem?_toArray, Nat.reduceAdd, Nat.reduceSub, Nat.reduceMul, Nat.reduceLT, Nat.reduceLeDiff, Nat.reduceEqDiff, Nat.succ_ne_zero, reduceIte, List.length_map]
  refine CallK.mk _ (iCols_spec _) fun _ => ?_
  rcases hc : colsOk t.cols with _ | _
  · simp only [go_sem, List.getElem?_toArray, Nat.reduceAdd, Nat.reduceSub, Nat.reduceMul, Nat.reduceLT, Nat.reduceLeDiff, Nat.reduceEqDiff, Nat.succ_ne_zero, reduceIte, hc]
    simp only [tableOk, hc, Bool.false_and]
  simp only [go_sem, List.getElem?_toArray, Nat.reduceAdd, Nat.reduceSub, Nat.reduceMul, Nat.reduceLT, Nat.reduceLeDiff, Nat.reduceEqDiff, Nat.succ_ne_zero, reduceIte, hc, List.length_map]
  refine LoopK.mk 1 [1, 10, 11, 12] (A := Nat) (fun k => ⟨39, [(1, .lp 0 0 0), (10, .c (.sl (t.l.map DRow.c))), (11, .c (.v (.int .i64 t.l.length))), (12, .c (.v (.int .i64 k)))], [⟨30, 2, [t.c], true, true⟩]⟩) (fun k => k ≤ t.l.length ∧ ∀ i, i < k → rowAt t.cols t.l i) (fun k => t.l.length - k) 0 ⟨⟨rfl, rfl⟩, rfl, Nat.zero_le _, fun i h => by omega⟩ ?_
  rintro k ⟨hk, hf⟩
  simp only [go_sem, List.getElem?_toArray, Nat.reduceAdd, Nat.reduceSub, Nat.reduceMul, Nat.reduceLT, Nat.reduceLeDiff, Nat.reduceEqDiff, Nat.succ_ne_zero, reduceIte, List.length_map]
  refine cndC.mk (fun h => ?_) (fun h => ?_)
  · have hk' : k < t.l.length := by simpa using h
    have hnext : rowAt t.cols t.l k → ∀ i, i < k + 1 → rowAt t.cols t.l i := by
      intro hg i hi
      by_cases e : i = k
      · subst e; exact hg
      · exact hf i (by omega)
    simp only [go_sem, List.getElem?_toArray, Nat.reduceAdd, Nat.reduceSub, Nat.reduceMul, Nat.reduceLT, Nat.reduceLeDiff, Nat.reduceEqDiff, Nat.succ_ne_zero, reduceIte, map_at _ hk']
    refine DrawK.mk ?_
    simp only [go_sem, List.getElem?_toArray, Nat.reduceAdd, Nat.reduceSub, Nat.reduceMul, Nat.reduceLT, Nat.reduceLeDiff, Nat.reduceEqDiff, Nat.succ_ne_zero, reduceIte, List.length_map, map_at _ hk', hk']
    refine CallF.mk _ (by simpa only [go_sem] using iRowOk_spec t.cols t.l[k]) ?_
    rcases hv : rowOk t.cols t.l[k] with _ | _
    · simp only [go_sem, List.getElem?_toArray, Nat.reduceAdd, Nat.reduceSub, Nat.reduceMul, Nat.reduceLT, Nat.reduceLeDiff, Nat.reduceEqDiff, Nat.succ_ne_zero, reduceIte, hv]
      have hno : ¬ rowAt t.cols t.l k := by intro hg; have := (hg hk').1; rw [hv] at this; cases this
      simp only [tableOk, rowsOk_no hno, Bool.and_false]
    · rcases Nat.eq_zero_or_pos k with hz | hz
      · have hp : decide ((k : Int) > 0) = false := by simp; omega
        simp only [go_sem, List.getElem?_toArray, Nat.reduceAdd, Nat.reduceSub, Nat.reduceMul, Nat.reduceLT, Nat.reduceLeDiff, Nat.reduceEqDiff, Nat.succ_ne_zero, reduceIte, hv, hp, wrap_i64 (n := (k : Int) + 1) (by omega) (by omega)]
        exact ⟨k + 1, ⟨rfl, rfl⟩, rfl, ⟨by omega, hnext fun _ => ⟨hv, fun h0 => by omega⟩⟩, by omega⟩
      · have hp : decide ((k : Int) > 0) = true := by simp; omega
        have hk1 : k - 1 < t.l.length := by omega
        have hw1 : IntKind.i64.wrap ((k : Int) - 1) = ((k - 1 : Nat) : Int) := by rw [wrap_i64 (by omega) (by omega)]; omega
        rcases hq : decide (t.l[k - 1].id ≥ t.l[k].id) with _ | _
        · simp only [go_sem, List.getElem?_toArray, Nat.reduceAdd, Nat.reduceSub, Nat.reduceMul, Nat.reduceLT, Nat.reduceLeDiff, Nat.reduceEqDiff, Nat.succ_ne_zero, reduceIte, hv, hp, hw1, map_at _ hk', map_at _ hk1, hq, wrap_i64 (n := (k : Int) + 1) (by omega) (by omega)]
          exact ⟨k + 1, ⟨rfl, rfl⟩, rfl, ⟨by omega, hnext fun _ => ⟨hv, fun _ => by simp at hq; omega⟩⟩, by omega⟩
        · simp only [go_sem, List.getElem?_toArray, Nat.reduceAdd, Nat.reduceSub, Nat.reduceMul, Nat.reduceLT, Nat.reduceLeDiff, Nat.reduceEqDiff, Nat.succ_ne_zero, reduceIte, hv, hp, hw1, map_at _ hk', map_at _ hk1, hq]
          have hno : ¬ rowAt t.cols t.l k := by intro hg; have := (hg hk').2 hz; simp at hq; omega
          simp only [tableOk, rowsOk_no hno, Bool.and_false]
  · have hk' : k = t.l.length := by simp at h; omega
    simp only [go_sem, List.getElem?_toArray, Nat.reduceAdd, Nat.reduceSub, Nat.reduceMul, Nat.reduceLT, Nat.reduceLeDiff, Nat.reduceEqDiff, Nat.succ_ne_zero, reduceIte]
    simp only [tableOk, rowsOk_yes (hk' ▸ hf), hc, Bool.and_true]
end Go.Proofs.Ytlnaidkchbklcaa
