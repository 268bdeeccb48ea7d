/- Walks and laws of this seat, over the value machine. -/
import Derived.Test.YtlnaidkchbklcaaIa
namespace Go.Proofs.Ytlnaidkchbklcaa
set_option linter.unusedSimpArgs false
set_option linter.unusedVariables false
open Go.Vm
set_option maxHeartbeats 1000000
set_option maxRecDepth 10000

theorem lawTable_spec (t : DTable) : Ctr Try.prog 3 [.agg t.c] [.val (.c (.v (.bool true)))] := by
  refine Ctr.mk (fn := Try.f3) Try.call3 Try.func3 rfl mixed Try.ntmps3 Try.results3 (by kernel_rfl) rfl fun hw => ?_
  simp only [go_sem, List.getElem?_toArray, Nat.reduceAdd, Nat.reduceSub, Nat.reduceMul, Nat.reduceLT, Nat.reduceLeDiff, Nat.reduceEqDiff, Nat.succ_ne_zero, reduceIte]
  refine CallK.mk _ (by simpa only [go_sem] using szTable_spec t 1048576 (by omega)) fun _ => ?_
  simp only [go_sem, List.getElem?_toArray, Nat.reduceAdd, Nat.reduceSub, Nat.reduceMul, Nat.reduceLT, Nat.reduceLeDiff, Nat.reduceEqDiff, Nat.succ_ne_zero, reduceIte]
  refine cndC.mk (fun h => ?_) (fun h => ?_)
  · simp only [go_sem, List.getElem?_toArray, Nat.reduceAdd, Nat.reduceSub, Nat.reduceMul, Nat.reduceLT, Nat.reduceLeDiff, Nat.reduceEqDiff, Nat.succ_ne_zero, reduceIte]
  · have hf := (szTable_fit t 1048576 (by simp at h; omega) (by omega)).1
    simp only [go_sem, List.getElem?_toArray, Nat.reduceAdd, Nat.reduceSub, Nat.reduceMul, Nat.reduceLT, Nat.reduceLeDiff, Nat.reduceEqDiff, Nat.succ_ne_zero, reduceIte]
    refine CallK.mk _ (by simpa only [go_sem] using toTable_spec t hf) fun _ => ?_
    simp only [go_sem, List.getElem?_toArray, Nat.reduceAdd, Nat.reduceSub, Nat.reduceMul, Nat.reduceLT, Nat.reduceLeDiff, Nat.reduceEqDiff, Nat.succ_ne_zero, reduceIte]
    refine CallK.mk _ (by simpa only [go_sem] using sTable_spec t) fun _ => ?_
    simp only [go_sem, List.getElem?_toArray, Nat.reduceAdd, Nat.reduceSub, Nat.reduceMul, Nat.reduceLT, Nat.reduceLeDiff, Nat.reduceEqDiff, Nat.succ_ne_zero, reduceIte]
    refine CallK.mk _ (by simpa only [go_sem] using toTable_spec t hf) fun _ => ?_
    simp only [go_sem, List.getElem?_toArray, Nat.reduceAdd, Nat.reduceSub, Nat.reduceMul, Nat.reduceLT, Nat.reduceLeDiff, Nat.reduceEqDiff, Nat.succ_ne_zero, reduceIte]
    refine CallK.mk _ (by simpa only [go_sem] using iTable_spec t) fun _ => ?_
    simp only [go_sem, List.getElem?_toArray, Nat.reduceAdd, Nat.reduceSub, Nat.reduceMul, Nat.reduceLT, Nat.reduceLeDiff, Nat.reduceEqDiff, Nat.succ_ne_zero, reduceIte, beq_self_eq_true]
    refine DrawK.mk ?_
    simp only [go_sem, List.getElem?_toArray, Nat.reduceAdd, Nat.reduceSub, Nat.reduceMul, Nat.reduceLT, Nat.reduceLeDiff, Nat.reduceEqDiff, Nat.succ_ne_zero, reduceIte]
    refine CallF.mk _ (by simpa only [go_sem] using toTable_spec t hf) ?_
    simp only [go_sem, List.getElem?_toArray, Nat.reduceAdd, Nat.reduceSub, Nat.reduceMul, Nat.reduceLT, Nat.reduceLeDiff, Nat.reduceEqDiff, Nat.succ_ne_zero, reduceIte]
    refine CallF.mk _ (by simpa only [go_sem] using eqTable_spec t) ?_
    simp only [go_sem, List.getElem?_toArray, Nat.reduceAdd, Nat.reduceSub, Nat.reduceMul, Nat.reduceLT, Nat.reduceLeDiff, Nat.reduceEqDiff, Nat.succ_ne_zero, reduceIte]
end Go.Proofs.Ytlnaidkchbklcaa
