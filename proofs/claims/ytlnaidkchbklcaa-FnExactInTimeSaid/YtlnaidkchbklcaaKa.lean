/- Walks and laws of this seat, over the value machine. -/
import Derived.Test.YtlnaidkchbklcaaIa
namespace Go.Proofs.Ytlnaidkchbklcaa
set_option linter.unusedSimpArgs false
set_option linter.unusedVariables false
open Go.Vm
set_option maxHeartbeats 1000000
set_option maxRecDepth 10000

def ahead (a b : DDeed) : Bool := (a.ret != -1) && decide (a.ret < b.inv)
theorem sAhead_spec (a b : DDeed) : Ctr Try.prog 26 [.agg a.c, .agg b.c] [.val (.c (.v (.bool (ahead a b))))] := by
  refine Ctr.mk (fn := Try.f26) Try.call26 Try.func26 rfl mixed Try.ntmps26 Try.results26 (by kernel_rfl) rfl fun hw => ?_
  simp only [go_sem, List.getElem?_toArray, Nat.reduceAdd, Nat.reduceSub, Nat.reduceMul, Nat.reduceLT, Nat.reduceLeDiff, Nat.reduceEqDiff, Nat.succ_ne_zero, reduceIte]
  rcases h1 : a.ret != -1 with _ | _ <;> simp only [go_sem, List.getElem?_toArray, Nat.reduceAdd, Nat.reduceSub, Nat.reduceMul, Nat.reduceLT, Nat.reduceLeDiff, Nat.reduceEqDiff, Nat.succ_ne_zero, reduceIte, h1] <;> simp only [ahead, h1, Bool.false_and, Bool.true_and]
theorem iAhead_spec (a b : DDeed) : Ctr Try.prog 28 [.agg a.c, .agg b.c] [.val (.c (.v (.bool (ahead a b))))] := by
  refine Ctr.mk (fn := Try.f28) Try.call28 Try.func28 rfl mixed Try.ntmps28 Try.results28 (by kernel_rfl) rfl fun hw => ?_
  simp only [go_sem, List.getElem?_toArray, Nat.reduceAdd, Nat.reduceSub, Nat.reduceMul, Nat.reduceLT, Nat.reduceLeDiff, Nat.reduceEqDiff, Nat.succ_ne_zero, reduceIte]
  rcases h1 : a.ret != -1 with _ | _ <;> simp only [go_sem, List.getElem?_toArray, Nat.reduceAdd, Nat.reduceSub, Nat.reduceMul, Nat.reduceLT, Nat.reduceLeDiff, Nat.reduceEqDiff, Nat.succ_ne_zero, reduceIte, h1] <;> simp only [ahead, h1, Bool.false_and, Bool.true_and]
def late (a b : DDeed) : Bool := ahead a b && (a.lin != -1) && (b.lin != -1) && decide (a.lin ≥ b.lin)
noncomputable def inTime (l : List DDeed) : Bool := @decide (∀ i k (hi : i < l.length) (hk : k < l.length), late l[i] l[k] = false) (Classical.propDecidable _)
theorem inTime_no {l : List DDeed} {i k : Nat} (hi : i < l.length) (hk : k < l.length) (h : late l[i] l[k] = true) : false = inTime l := by
  symm
  simp only [inTime, decide_eq_false_iff_not]
  intro hall
  rw [hall i k hi hk] at h
  cases h
theorem inTime_yes {l : List DDeed} (h : ∀ i k (hi : i < l.length) (hk : k < l.length), late l[i] l[k] = false) : true = inTime l := by
  symm
  simp only [inTime, decide_eq_true_eq]
  exact h
theorem sInTime_spec (l : List DDeed) : Ctr Try.prog 11 [.c (.sl (l.map DDeed.c))] [.val (.c (.v (.bool (inTime l))))] := by
  refine Ctr.mk (fn := Try.f11) Try.call11 Try.func11 rfl mixed Try.ntmps11 Try.results11 (by kernel_rfl) rfl fun hw => ?_
  have hlen : l.length ≤ 9223372036854775807 := by have := hw.1.1; simpa [Go.maxLen] using this
  simp only [go_sem, List.getElem?_toArray, Nat.reduceAdd, Nat.reduceSub, Nat.reduceMul, Nat.reduceLT, Nat.reduceLeDiff, Nat.reduceEqDiff, Nat.succ_ne_zero, reduceIte, List.length_map]
  refine LoopK.mk 0 [0, 3] (A := Nat) (fun i => ⟨55, [(0, .c (.sl (l.map DDeed.c))), (3, .c (.v (.int .i64 i)))], []⟩) (fun i => i ≤ l.length ∧ ∀ i' k (hi : i' < l.length) (hk : k < l.length), i' < i → late l[i'] l[k] = false) (fun i => l.length - i) 0 ⟨⟨rfl, rfl⟩, rfl, Nat.zero_le _, fun _ _ _ _ h => by omega⟩ ?_
  rintro i ⟨hi, hf⟩
  simp only [go_sem, List.getElem?_toArray, Nat.reduceAdd, Nat.reduceSub, Nat.reduceMul, Nat.reduceLT, Nat.reduceLeDiff, Nat.reduceEqDiff, Nat.succ_ne_zero, reduceIte, List.length_map]
  refine cndC.mk (fun h => ?_) (fun h => ?_)
  · have hi' : i < l.length := by simpa using h
    simp only [go_sem, List.getElem?_toArray, Nat.reduceAdd, Nat.reduceSub, Nat.reduceMul, Nat.reduceLT, Nat.reduceLeDiff, Nat.reduceEqDiff, Nat.succ_ne_zero, reduceIte, List.length_map]
    refine LoopK.mk 0 [0, 3, 4] (A := Nat) (fun k => ⟨55, [(0, .c (.sl (l.map DDeed.c))), (3, .c (.v (.int .i64 i))), (4, .c (.v (.int .i64 k)))], []⟩) (fun k => k ≤ l.length ∧ ∀ k' (hk : k' < l.length), k' < k → late l[i] l[k'] = false) (fun k => l.length - k) 0 ⟨⟨rfl, rfl⟩, rfl, Nat.zero_le _, fun _ _ h => by omega⟩ ?_
    rintro k ⟨hk, hg⟩
    simp only [go_sem, List.getElem?_toArray, Nat.reduceAdd, Nat.reduceSub, Nat.reduceMul, Nat.reduceLT, Nat.reduceLeDiff, Nat.reduceEqDiff, Nat.succ_ne_zero, reduceIte, List.length_map]
    refine cndC.mk (fun h => ?_) (fun h => ?_)
    · have hk' : k < l.length := by simpa using h
      have hnext : late l[i] l[k] = false → ∀ k' (hk : k' < l.length), k' < k + 1 → late l[i] l[k'] = false := by
        intro hl k' hk'' hlt
        by_cases e : k' = k
        · subst e; exact hl
        · exact hg k' hk'' (by omega)
      simp only [go_sem, List.getElem?_toArray, Nat.reduceAdd, Nat.reduceSub, Nat.reduceMul, Nat.reduceLT, Nat.reduceLeDiff, Nat.reduceEqDiff, Nat.succ_ne_zero, reduceIte]
      refine DrawK.mk ?_
      simp only [go_sem, List.getElem?_toArray, Nat.reduceAdd, Nat.reduceSub, Nat.reduceMul, Nat.reduceLT, Nat.reduceLeDiff, Nat.reduceEqDiff, Nat.succ_ne_zero, reduceIte, List.length_map, map_at _ hi', map_at _ hk', hi', hk']
      refine CallF.mk _ (by simpa only [go_sem] using sAhead_spec l[i] l[k]) ?_
      rcases ha : ahead l[i] l[k] with _ | _ <;> rcases h1 : l[i].lin != -1 with _ | _ <;> rcases h2 : l[k].lin != -1 with _ | _ <;> rcases h3 : decide (l[i].lin ≥ l[k].lin) with _ | _ <;>
        simp only [go_sem, List.getElem?_toArray, Nat.reduceAdd, Nat.reduceSub, Nat.reduceMul, Nat.reduceLT, Nat.reduceLeDiff, Nat.reduceEqDiff, Nat.succ_ne_zero, reduceIte, List.length_map, map_at _ hi', map_at _ hk', hi', hk', ha, h1, h2, h3, wrap_i64 (n := (k : Int) + 1) (by omega) (by omega)] <;> first
        | exact ⟨k + 1, ⟨rfl, rfl⟩, rfl, ⟨by omega, hnext (by simp only [late, ha, h1, h2, h3]; rfl)⟩, by omega⟩
        | (rw [← inTime_no hi' hk' (by simp only [late, ha, h1, h2, h3]; rfl)]; done)
    · have hk' : k = l.length := by simp at h; omega
      subst hk'
      simp only [go_sem, List.getElem?_toArray, Nat.reduceAdd, Nat.reduceSub, Nat.reduceMul, Nat.reduceLT, Nat.reduceLeDiff, Nat.reduceEqDiff, Nat.succ_ne_zero, reduceIte, wrap_i64 (n := (i : Int) + 1) (by omega) (by omega)]
      refine ⟨i + 1, ⟨rfl, rfl⟩, rfl, ⟨by omega, fun i' k' hi2 hk2 hlt => ?_⟩, by omega⟩
      by_cases e : i' = i
      · subst e; exact hg k' hk2 hk2
      · exact hf i' k' hi2 hk2 (by omega)
  · have hi' : i = l.length := by simp at h; omega
    subst hi'
    simp only [go_sem, List.getElem?_toArray, Nat.reduceAdd, Nat.reduceSub, Nat.reduceMul, Nat.reduceLT, Nat.reduceLeDiff, Nat.reduceEqDiff, Nat.succ_ne_zero, reduceIte]
    rw [← inTime_yes fun i' k' h1 h2 => hf i' k' h1 h2 h1]
theorem iInTime_spec (l : List DDeed) : Ctr Try.prog 13 [.c (.sl (l.map DDeed.c))] [.val (.c (.v (.bool (inTime l))))] := by
  refine Ctr.mk (fn := Try.f13) Try.call13 Try.func13 rfl mixed Try.ntmps13 Try.results13 (by kernel_rfl) rfl fun hw => ?_
  have hlen : l.length ≤ 9223372036854775807 := by have := hw.1.1; simpa [Go.maxLen] using this
  simp only [go_sem, List.getElem?_toArray, Nat.reduceAdd, Nat.reduceSub, Nat.reduceMul, Nat.reduceLT, Nat.reduceLeDiff, Nat.reduceEqDiff, Nat.succ_ne_zero, reduceIte, List.length_map]
  refine LoopK.mk 0 [0, 7, 8, 9] (A := Nat) (fun i => ⟨41, [(0, .c (.sl (l.map DDeed.c))), (7, .c (.sl (l.map DDeed.c))), (8, .c (.v (.int .i64 l.length))), (9, .c (.v (.int .i64 i)))], []⟩) (fun i => i ≤ l.length ∧ ∀ i' k (hi : i' < l.length) (hk : k < l.length), i' < i → late l[i'] l[k] = false) (fun i => l.length - i) 0 ⟨⟨rfl, rfl⟩, rfl, Nat.zero_le _, fun _ _ _ _ h => by omega⟩ ?_
  rintro i ⟨hi, hf⟩
  simp only [go_sem, List.getElem?_toArray, Nat.reduceAdd, Nat.reduceSub, Nat.reduceMul, Nat.reduceLT, Nat.reduceLeDiff, Nat.reduceEqDiff, Nat.succ_ne_zero, reduceIte, List.length_map]
  refine cndC.mk (fun h => ?_) (fun h => ?_)
  · have hi' : i < l.length := by simpa using h
    simp only [go_sem, List.getElem?_toArray, Nat.reduceAdd, Nat.reduceSub, Nat.reduceMul, Nat.reduceLT, Nat.reduceLeDiff, Nat.reduceEqDiff, Nat.succ_ne_zero, reduceIte, List.length_map, map_at _ hi']
    refine LoopK.mk 1 [0, 4, 7, 8, 9, 13, 14, 15] (A := Nat) (fun k => ⟨41, [(0, .c (.sl (l.map DDeed.c))), (4, .lp 0 0 0), (7, .c (.sl (l.map DDeed.c))), (8, .c (.v (.int .i64 l.length))), (9, .c (.v (.int .i64 i))), (13, .c (.sl (l.map DDeed.c))), (14, .c (.v (.int .i64 l.length))), (15, .c (.v (.int .i64 k)))], [⟨75, 25, [l[i].c], true, true⟩]⟩) (fun k => k ≤ l.length ∧ ∀ k' (hk : k' < l.length), k' < k → late l[i] l[k'] = false) (fun k => l.length - k) 0 ⟨⟨rfl, rfl⟩, by simp only [DDeed.c_eq, DQuery.c_eq, DPred.c_eq, DResult.c_eq, DVal.c_eq, List.cons_append, List.nil_append]; rfl, Nat.zero_le _, fun _ _ h => by omega⟩ ?_
    rintro k ⟨hk, hg⟩
    simp only [go_sem, List.getElem?_toArray, Nat.reduceAdd, Nat.reduceSub, Nat.reduceMul, Nat.reduceLT, Nat.reduceLeDiff, Nat.reduceEqDiff, Nat.succ_ne_zero, reduceIte, List.length_map]
    refine cndC.mk (fun h => ?_) (fun h => ?_)
    · have hk' : k < l.length := by simpa using h
      have hnext : late l[i] l[k] = false → ∀ k' (hk : k' < l.length), k' < k + 1 → late l[i] l[k'] = false := by
        intro hl k' hk'' hlt
        by_cases e : k' = k
        · subst e; exact hl
        · exact hg k' hk'' (by omega)
      simp only [go_sem, List.getElem?_toArray, Nat.reduceAdd, Nat.reduceSub, Nat.reduceMul, Nat.reduceLT, Nat.reduceLeDiff, Nat.reduceEqDiff, Nat.succ_ne_zero, reduceIte, map_at _ hk']
      rcases h1 : l[i].lin != -1 with _ | _ <;> rcases h2 : l[k].lin != -1 with _ | _ 
      all_goals simp only [go_sem, List.getElem?_toArray, Nat.reduceAdd, Nat.reduceSub, Nat.reduceMul, Nat.reduceLT, Nat.reduceLeDiff, Nat.reduceEqDiff, Nat.succ_ne_zero, reduceIte, List.length_map, map_at _ hi', map_at _ hk', hi', hk', h1, h2, wrap_i64 (n := (k : Int) + 1) (by omega) (by omega)]
      iterate 3
        · exact ⟨k + 1, ⟨rfl, rfl⟩, rfl, ⟨by omega, hnext (by simp only [late, h1, h2, Bool.and_false, Bool.false_and])⟩, by omega⟩
      · refine CallK.mk _ (by simpa only [go_sem] using iAhead_spec l[i] l[k]) fun _ => ?_
        rcases ha : ahead l[i] l[k] with _ | _ <;> rcases h3 : decide (l[i].lin ≥ l[k].lin) with _ | _ <;>
          simp only [go_sem, List.getElem?_toArray, Nat.reduceAdd, Nat.reduceSub, Nat.reduceMul, Nat.reduceLT, Nat.reduceLeDiff, Nat.reduceEqDiff, Nat.succ_ne_zero, reduceIte, ha, h3, h1, h2, wrap_i64 (n := (k : Int) + 1) (by omega) (by omega)] <;> first
          | exact ⟨k + 1, ⟨rfl, rfl⟩, rfl, ⟨by omega, hnext (by simp only [late, ha, h1, h2, h3]; rfl)⟩, by omega⟩
          | (rw [← inTime_no hi' hk' (by simp only [late, ha, h1, h2, h3]; rfl)]; done)
    · have hk' : k = l.length := by simp at h; omega
      subst hk'
      simp only [go_sem, List.getElem?_toArray, Nat.reduceAdd, Nat.reduceSub, Nat.reduceMul, Nat.reduceLT, Nat.reduceLeDiff, Nat.reduceEqDiff, Nat.succ_ne_zero, reduceIte, wrap_i64 (n := (i : Int) + 1) (by omega) (by omega)]
      refine ⟨i + 1, ⟨rfl, rfl⟩, rfl, ⟨by omega, fun i' k' hi2 hk2 hlt => ?_⟩, by omega⟩
      by_cases e : i' = i
      · subst e; exact hg k' hk2 hk2
      · exact hf i' k' hi2 hk2 (by omega)
  · have hi' : i = l.length := by simp at h; omega
    subst hi'
    simp only [go_sem, List.getElem?_toArray, Nat.reduceAdd, Nat.reduceSub, Nat.reduceMul, Nat.reduceLT, Nat.reduceLeDiff, Nat.reduceEqDiff, Nat.succ_ne_zero, reduceIte]
    rw [← inTime_yes fun i' k' h1 h2 => hf i' k' h1 h2 h1]
end Go.Proofs.Ytlnaidkchbklcaa
