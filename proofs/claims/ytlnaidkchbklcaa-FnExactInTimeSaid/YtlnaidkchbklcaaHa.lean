/- Walks and laws of this seat, over the value machine. -/
import Derived.Test.YtlnaidkchbklcaaGa
namespace Go.Proofs.Ytlnaidkchbklcaa
set_option linter.unusedSimpArgs false
set_option linter.unusedVariables false
open Go.Vm
set_option maxHeartbeats 1000000
set_option maxRecDepth 10000

def fits : List Int → List DVal → Bool
  | [], [] => true
  | c :: cs, v :: vs => valOk v && (v.ty == c) && fits cs vs
  | _, _ => false
theorem fits_len : ∀ (cs : List Int) (vs : List DVal), cs.length ≠ vs.length → fits cs vs = false
  | [], [], h => by simp at h
  | [], _ :: _, _ => rfl
  | _ :: _, [], _ => rfl
  | c :: cs, v :: vs, h => by simp only [fits]; rw [fits_len cs vs (by simpa using h)]; simp
theorem fits_drop (cs : List Int) (vs : List DVal) {k : Nat} (h1 : k < cs.length) (h2 : k < vs.length) : fits (cs.drop k) (vs.drop k) = (valOk vs[k] && (vs[k].ty == cs[k]) && fits (cs.drop (k + 1)) (vs.drop (k + 1))) := by
  rw [List.drop_eq_getElem_cons h1, List.drop_eq_getElem_cons h2]; rfl

theorem sFits_spec (cs : List Int) (vs : List DVal) : Ctr Try.prog 31 [.c (.sl (cs.map intC)), .c (.sl (vs.map DVal.c))] [.val (.c (.v (.bool (fits cs vs))))] := by
  refine Ctr.mk (fn := Try.f31) Try.call31 Try.func31 rfl mixed Try.ntmps31 Try.results31 (by kernel_rfl) rfl fun hw => ?_
  have hlen : vs.length ≤ 9223372036854775807 := by have := hw.2.1.1; simpa [Go.maxLen] using this
  simp only [go_sem, List.getElem?_toArray, Nat.reduceAdd, Nat.reduceSub, Nat.reduceMul, Nat.reduceLT, Nat.reduceLeDiff, Nat.reduceEqDiff, Nat.succ_ne_zero, reduceIte, List.length_map]
  refine cndC.mk (fun h => ?_) (fun h => ?_)
  · simp only [go_sem, List.getElem?_toArray, Nat.reduceAdd, Nat.reduceSub, Nat.reduceMul, Nat.reduceLT, Nat.reduceLeDiff, Nat.reduceEqDiff, Nat.succ_ne_zero, reduceIte]
    rw [fits_len cs vs (by simp at h; omega)]
  · have he : cs.length = vs.length := by simp at h; omega
    simp only [go_sem, List.getElem?_toArray, Nat.reduceAdd, Nat.reduceSub, Nat.reduceMul, Nat.reduceLT, Nat.reduceLeDiff, Nat.reduceEqDiff, Nat.succ_ne_zero, reduceIte]
    refine LoopK.mk 0 [0, 1, 5] (A := Nat) (fun k => ⟨35, [(0, .c (.sl (cs.map intC))), (1, .c (.sl (vs.map DVal.c))), (5, .c (.v (.int .i64 k)))], []⟩) (fun k => k ≤ vs.length ∧ fits (cs.drop k) (vs.drop k) = fits cs vs) (fun k => vs.length - k) 0 ⟨⟨rfl, rfl⟩, rfl, Nat.zero_le _, rfl⟩ ?_
    rintro k ⟨hk, hf⟩
    simp only [go_sem, List.getElem?_toArray, Nat.reduceAdd, Nat.reduceSub, Nat.reduceMul, Nat.reduceLT, Nat.reduceLeDiff, Nat.reduceEqDiff, Nat.succ_ne_zero, reduceIte, List.length_map]
    refine cndC.mk (fun h => ?_) (fun h => ?_)
    · have hk' : k < vs.length := by simpa using h
      have hk2 : k < cs.length := by omega
      rw [fits_drop cs vs hk2 hk'] at hf
      simp only [go_sem, List.getElem?_toArray, Nat.reduceAdd, Nat.reduceSub, Nat.reduceMul, Nat.reduceLT, Nat.reduceLeDiff, Nat.reduceEqDiff, Nat.succ_ne_zero, reduceIte]
      refine DrawK.mk ?_
      simp only [go_sem, List.getElem?_toArray, Nat.reduceAdd, Nat.reduceSub, Nat.reduceMul, Nat.reduceLT, Nat.reduceLeDiff, Nat.reduceEqDiff, Nat.succ_ne_zero, reduceIte, List.length_map, map_at _ hk', map_at _ hk2, hk', hk2]
      refine CallF.mk _ (by simpa only [go_sem] using sValOk_spec vs[k]) ?_
      rcases hv : valOk vs[k] with _ | _
      · simp only [go_sem, List.getElem?_toArray, Nat.reduceAdd, Nat.reduceSub, Nat.reduceMul, Nat.reduceLT, Nat.reduceLeDiff, Nat.reduceEqDiff, Nat.succ_ne_zero, reduceIte, hv]
        rw [hv] at hf
        simp at hf
        rw [hf]
      · simp only [go_sem, List.getElem?_toArray, Nat.reduceAdd, Nat.reduceSub, Nat.reduceMul, Nat.reduceLT, Nat.reduceLeDiff, Nat.reduceEqDiff, Nat.succ_ne_zero, reduceIte, hv, map_at _ hk', map_at _ hk2]
        rcases ht : vs[k].ty == cs[k] with _ | _
        · simp only [go_sem, List.getElem?_toArray, Nat.reduceAdd, Nat.reduceSub, Nat.reduceMul, Nat.reduceLT, Nat.reduceLeDiff, Nat.reduceEqDiff, Nat.succ_ne_zero, reduceIte, bne, ht]
          rw [ht] at hf
          simp at hf
          rw [hf]
        · simp only [go_sem, List.getElem?_toArray, Nat.reduceAdd, Nat.reduceSub, Nat.reduceMul, Nat.reduceLT, Nat.reduceLeDiff, Nat.reduceEqDiff, Nat.succ_ne_zero, reduceIte, bne, ht, wrap_i64 (n := (k : Int) + 1) (by omega) (by omega)]
          rw [hv, ht] at hf
          simp only [Bool.and_true, Bool.true_and] at hf
          exact ⟨k + 1, ⟨rfl, rfl⟩, rfl, ⟨by omega, hf⟩, by omega⟩
    · have hk' : k = vs.length := by simp at h; omega
      subst hk'
      simp only [go_sem, List.getElem?_toArray, Nat.reduceAdd, Nat.reduceSub, Nat.reduceMul, Nat.reduceLT, Nat.reduceLeDiff, Nat.reduceEqDiff, Nat.succ_ne_zero, reduceIte]
      rw [← hf, List.drop_length, ← he, List.drop_length]; rfl
theorem iFits_spec (cs : List Int) (vs : List DVal) : Ctr Try.prog 35 [.c (.sl (cs.map intC)), .c (.sl (vs.map DVal.c))] [.val (.c (.v (.bool (fits cs vs))))] := by
  refine Ctr.mk (fn := Try.f35) Try.call35 Try.func35 rfl mixed Try.ntmps35 Try.results35 (by kernel_rfl) rfl fun hw => ?_
  have hlen : vs.length ≤ 9223372036854775807 := by have := hw.2.1.1; simpa [Go.maxLen] using this
  simp only [go_sem, List.getElem?_toArray, Nat.reduceAdd, Nat.reduceSub, Nat.reduceMul, Nat.reduceLT, Nat.reduceLeDiff, Nat.reduceEqDiff, Nat.succ_ne_zero, reduceIte, List.length_map]
  refine cndC.mk (fun h => ?_) (fun h => ?_)
  · simp only [go_sem, List.getElem?_toArray, Nat.reduceAdd, Nat.reduceSub, Nat.reduceMul, Nat.reduceLT, Nat.reduceLeDiff, Nat.reduceEqDiff, Nat.succ_ne_zero, reduceIte]
    rw [fits_len cs vs (by simp at h; omega)]
  · have he : cs.length = vs.length := by simp at h; omega
    simp only [go_sem, List.getElem?_toArray, Nat.reduceAdd, Nat.reduceSub, Nat.reduceMul, Nat.reduceLT, Nat.reduceLeDiff, Nat.reduceEqDiff, Nat.succ_ne_zero, reduceIte, List.length_map]
    refine LoopK.mk 0 [0, 12, 13, 14] (A := Nat) (fun k => ⟨32, [(0, .c (.sl (cs.map intC))), (12, .c (.sl (vs.map DVal.c))), (13, .c (.v (.int .i64 vs.length))), (14, .c (.v (.int .i64 k)))], []⟩) (fun k => k ≤ vs.length ∧ fits (cs.drop k) (vs.drop k) = fits cs vs) (fun k => vs.length - k) 0 ⟨⟨rfl, rfl⟩, rfl, Nat.zero_le _, rfl⟩ ?_
    rintro k ⟨hk, hf⟩
    simp only [go_sem, List.getElem?_toArray, Nat.reduceAdd, Nat.reduceSub, Nat.reduceMul, Nat.reduceLT, Nat.reduceLeDiff, Nat.reduceEqDiff, Nat.succ_ne_zero, reduceIte, List.length_map]
    refine cndC.mk (fun h => ?_) (fun h => ?_)
    · have hk' : k < vs.length := by simpa using h
      have hk2 : k < cs.length := by omega
      rw [fits_drop cs vs hk2 hk'] at hf
      simp only [go_sem, List.getElem?_toArray, Nat.reduceAdd, Nat.reduceSub, Nat.reduceMul, Nat.reduceLT, Nat.reduceLeDiff, Nat.reduceEqDiff, Nat.succ_ne_zero, reduceIte, map_at _ hk']
      refine DrawK.mk ?_
      simp only [go_sem, List.getElem?_toArray, Nat.reduceAdd, Nat.reduceSub, Nat.reduceMul, Nat.reduceLT, Nat.reduceLeDiff, Nat.reduceEqDiff, Nat.succ_ne_zero, reduceIte, List.length_map, map_at _ hk', map_at _ hk2, hk', hk2]
      refine CallF.mk _ (by simpa only [go_sem] using iValOk_spec vs[k]) ?_
      rcases hv : valOk vs[k] with _ | _
      · simp only [go_sem, List.getElem?_toArray, Nat.reduceAdd, Nat.reduceSub, Nat.reduceMul, Nat.reduceLT, Nat.reduceLeDiff, Nat.reduceEqDiff, Nat.succ_ne_zero, reduceIte, hv]
        rw [hv] at hf
        simp at hf
        rw [hf]
      · simp only [go_sem, List.getElem?_toArray, Nat.reduceAdd, Nat.reduceSub, Nat.reduceMul, Nat.reduceLT, Nat.reduceLeDiff, Nat.reduceEqDiff, Nat.succ_ne_zero, reduceIte, hv, map_at _ hk', map_at _ hk2]
        rcases ht : vs[k].ty == cs[k] with _ | _
        · simp only [go_sem, List.getElem?_toArray, Nat.reduceAdd, Nat.reduceSub, Nat.reduceMul, Nat.reduceLT, Nat.reduceLeDiff, Nat.reduceEqDiff, Nat.succ_ne_zero, reduceIte, bne, ht]
          rw [ht] at hf
          simp at hf
          rw [hf]
        · simp only [go_sem, List.getElem?_toArray, Nat.reduceAdd, Nat.reduceSub, Nat.reduceMul, Nat.reduceLT, Nat.reduceLeDiff, Nat.reduceEqDiff, Nat.succ_ne_zero, reduceIte, bne, ht, wrap_i64 (n := (k : Int) + 1) (by omega) (by omega)]
          rw [hv, ht] at hf
          simp only [Bool.and_true, Bool.true_and] at hf
          exact ⟨k + 1, ⟨rfl, rfl⟩, rfl, ⟨by omega, hf⟩, by omega⟩
    · have hk' : k = vs.length := by simp at h; omega
      subst hk'
      simp only [go_sem, List.getElem?_toArray, Nat.reduceAdd, Nat.reduceSub, Nat.reduceMul, Nat.reduceLT, Nat.reduceLeDiff, Nat.reduceEqDiff, Nat.succ_ne_zero, reduceIte]
      rw [← hf, List.drop_length, ← he, List.drop_length]; rfl
end Go.Proofs.Ytlnaidkchbklcaa
