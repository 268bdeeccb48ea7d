/- Walks of value laws over a World. -/
import Derived.Test.YteiibjajcbiaoaaGreatUb
import Derived.Test.YteiibjajcbiaoaaGreatFa
namespace Go.Proofs.YteiibjajcbiaoaaGreat
set_option linter.unusedSimpArgs false
set_option linter.unusedVariables false
open Go.Vm
set_option maxHeartbeats 1000000
set_option maxRecDepth 10000

theorem lawUnpacked_spec (w : DWorld) : Ctr Tryz.prog 6 [.agg w.c] [.val (.c (.v (.bool true)))] := by
  refine Ctr.mk (fn := Tryz.f6) Tryz.call6 Tryz.func6 rfl mixed Tryz.ntmps6 Tryz.results6 (by kernel_rfl) rfl fun hw => ?_
  simp only [go_sem, List.getElem?_toArray, Nat.reduceAdd, Nat.reduceSub, Nat.reduceMul, Nat.reduceLT, Nat.reduceLeDiff, Nat.reduceEqDiff, Nat.succ_ne_zero, reduceIte]
  refine CallK.mk _ (by simpa only [go_sem] using szWorld_spec w 1048576 (by omega)) fun _ => ?_
  simp only [go_sem, List.getElem?_toArray, Nat.reduceAdd, Nat.reduceSub, Nat.reduceMul, Nat.reduceLT, Nat.reduceLeDiff, Nat.reduceEqDiff, Nat.succ_ne_zero, reduceIte]
  refine cndC.mk (fun h => ?_) (fun h => ?_)
  · simp only [go_sem, List.getElem?_toArray, Nat.reduceAdd, Nat.reduceSub, Nat.reduceMul, Nat.reduceLT, Nat.reduceLeDiff, Nat.reduceEqDiff, Nat.succ_ne_zero, reduceIte]
  · have hf := (szWorld_fit w 1048576 (by simp at h; omega) (by omega)).1
    simp only [go_sem, List.getElem?_toArray, Nat.reduceAdd, Nat.reduceSub, Nat.reduceMul, Nat.reduceLT, Nat.reduceLeDiff, Nat.reduceEqDiff, Nat.succ_ne_zero, reduceIte]
    refine CallK.mk _ (by simpa only [go_sem] using toWorld_spec w hf) fun _ => ?_
    simp only [go_sem, List.getElem?_toArray, Nat.reduceAdd, Nat.reduceSub, Nat.reduceMul, Nat.reduceLT, Nat.reduceLeDiff, Nat.reduceEqDiff, Nat.succ_ne_zero, reduceIte]
    refine CallK.mk _ (by simpa only [go_sem] using sUnpacked_spec w hf) fun _ => ?_
    simp only [go_sem, List.getElem?_toArray, Nat.reduceAdd, Nat.reduceSub, Nat.reduceMul, Nat.reduceLT, Nat.reduceLeDiff, Nat.reduceEqDiff, Nat.succ_ne_zero, reduceIte]
    refine CallK.mk _ (by simpa only [go_sem] using toWorld_spec w hf) fun _ => ?_
    simp only [go_sem, List.getElem?_toArray, Nat.reduceAdd, Nat.reduceSub, Nat.reduceMul, Nat.reduceLT, Nat.reduceLeDiff, Nat.reduceEqDiff, Nat.succ_ne_zero, reduceIte]
    refine CallK.mk _ (by simpa only [go_sem] using iUnpacked_spec w hf) fun _ => ?_
    simp only [go_sem, List.getElem?_toArray, Nat.reduceAdd, Nat.reduceSub, Nat.reduceMul, Nat.reduceLT, Nat.reduceLeDiff, Nat.reduceEqDiff, Nat.succ_ne_zero, reduceIte, beq_self_eq_true, bne_self_eq_false]
    try refine DrawK.mk ?_
    try simp only [go_sem, List.getElem?_toArray, Nat.reduceAdd, Nat.reduceSub, Nat.reduceMul, Nat.reduceLT, Nat.reduceLeDiff, Nat.reduceEqDiff, Nat.succ_ne_zero, reduceIte]
    first | refine CallF.mk _ (by simpa only [go_sem] using toWorld_spec w hf) ?_ | refine CallK.mk _ (by simpa only [go_sem] using toWorld_spec w hf) fun _ => ?_
    simp only [go_sem, List.getElem?_toArray, Nat.reduceAdd, Nat.reduceSub, Nat.reduceMul, Nat.reduceLT, Nat.reduceLeDiff, Nat.reduceEqDiff, Nat.succ_ne_zero, reduceIte]
    first | refine CallF.mk _ (by simpa only [go_sem] using eqWorld_spec w) ?_ | refine CallK.mk _ (by simpa only [go_sem] using eqWorld_spec w) fun _ => ?_
    simp only [go_sem, List.getElem?_toArray, Nat.reduceAdd, Nat.reduceSub, Nat.reduceMul, Nat.reduceLT, Nat.reduceLeDiff, Nat.reduceEqDiff, Nat.succ_ne_zero, reduceIte]

end Go.Proofs.YteiibjajcbiaoaaGreat
