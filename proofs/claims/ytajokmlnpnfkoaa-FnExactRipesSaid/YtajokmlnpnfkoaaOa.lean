/- Walks of value laws over a World. -/
import Derived.Test.YtajokmlnpnfkoaaNa
import Derived.Test.YtajokmlnpnfkoaaFa
namespace Go.Proofs.Ytajokmlnpnfkoaa
set_option linter.unusedSimpArgs false
set_option linter.unusedVariables false
open Go.Vm
set_option maxHeartbeats 1000000
set_option maxRecDepth 10000

theorem lawBound_spec (w : DWorld) : Ctr Try.prog 3 [.agg w.c] [.val (.c (.v (.bool true)))] := by
  refine Ctr.mk (fn := Try.f3) Try.call3 Try.func3 rfl mixed Try.ntmps3 Try.results3 (by kernel_rfl) rfl fun hw => ?_
  simp only [go_sem, List.getElem?_toArray, Nat.reduceAdd, Nat.reduceSub, Nat.reduceMul, Nat.reduceLT, Nat.reduceLeDiff, Nat.reduceEqDiff, Nat.succ_ne_zero, reduceIte]
  refine CallK.mk _ (by simpa only [go_sem] using szWorld_spec w 1048576 (by omega)) fun _ => ?_
  simp only [go_sem, List.getElem?_toArray, Nat.reduceAdd, Nat.reduceSub, Nat.reduceMul, Nat.reduceLT, Nat.reduceLeDiff, Nat.reduceEqDiff, Nat.succ_ne_zero, reduceIte]
  refine cndC.mk (fun h => ?_) (fun h => ?_)
  · simp only [go_sem, List.getElem?_toArray, Nat.reduceAdd, Nat.reduceSub, Nat.reduceMul, Nat.reduceLT, Nat.reduceLeDiff, Nat.reduceEqDiff, Nat.succ_ne_zero, reduceIte]
  · have hf := (szWorld_fit w 1048576 (by simp at h; omega) (by omega)).1
    simp only [go_sem, List.getElem?_toArray, Nat.reduceAdd, Nat.reduceSub, Nat.reduceMul, Nat.reduceLT, Nat.reduceLeDiff, Nat.reduceEqDiff, Nat.succ_ne_zero, reduceIte]
    refine CallK.mk _ (by simpa only [go_sem] using toWorld_spec w hf) fun _ => ?_
    simp only [go_sem, List.getElem?_toArray, Nat.reduceAdd, Nat.reduceSub, Nat.reduceMul, Nat.reduceLT, Nat.reduceLeDiff, Nat.reduceEqDiff, Nat.succ_ne_zero, reduceIte]
    refine CallK.mk _ (by simpa only [go_sem] using sBound_spec w) fun _ => ?_
    simp only [go_sem, List.getElem?_toArray, Nat.reduceAdd, Nat.reduceSub, Nat.reduceMul, Nat.reduceLT, Nat.reduceLeDiff, Nat.reduceEqDiff, Nat.succ_ne_zero, reduceIte]
    refine CallK.mk _ (by simpa only [go_sem] using toWorld_spec w hf) fun _ => ?_
    simp only [go_sem, List.getElem?_toArray, Nat.reduceAdd, Nat.reduceSub, Nat.reduceMul, Nat.reduceLT, Nat.reduceLeDiff, Nat.reduceEqDiff, Nat.succ_ne_zero, reduceIte]
    refine CallK.mk _ (by simpa only [go_sem] using iBound_spec w) fun _ => ?_
    simp only [go_sem, List.getElem?_toArray, Nat.reduceAdd, Nat.reduceSub, Nat.reduceMul, Nat.reduceLT, Nat.reduceLeDiff, Nat.reduceEqDiff, Nat.succ_ne_zero, reduceIte, beq_self_eq_true, bne_self_eq_false]
    try refine DrawK.mk ?_
    try simp only [go_sem, List.getElem?_toArray, Nat.reduceAdd, Nat.reduceSub, Nat.reduceMul, Nat.reduceLT, Nat.reduceLeDiff, Nat.reduceEqDiff, Nat.succ_ne_zero, reduceIte]
    first | refine CallF.mk _ (by simpa only [go_sem] using toWorld_spec w hf) ?_ | refine CallK.mk _ (by simpa only [go_sem] using toWorld_spec w hf) fun _ => ?_
    simp only [go_sem, List.getElem?_toArray, Nat.reduceAdd, Nat.reduceSub, Nat.reduceMul, Nat.reduceLT, Nat.reduceLeDiff, Nat.reduceEqDiff, Nat.succ_ne_zero, reduceIte]
    first | refine CallF.mk _ (by simpa only [go_sem] using eqWorld_spec w) ?_ | refine CallK.mk _ (by simpa only [go_sem] using eqWorld_spec w) fun _ => ?_
    simp only [go_sem, List.getElem?_toArray, Nat.reduceAdd, Nat.reduceSub, Nat.reduceMul, Nat.reduceLT, Nat.reduceLeDiff, Nat.reduceEqDiff, Nat.succ_ne_zero, reduceIte]

theorem lawBytesOf_spec (w : DWorld) : Ctr Try.prog 4 [.agg w.c] [.val (.c (.v (.bool true)))] := by
  refine Ctr.mk (fn := Try.f4) Try.call4 Try.func4 rfl mixed Try.ntmps4 Try.results4 (by kernel_rfl) rfl fun hw => ?_
  simp only [go_sem, List.getElem?_toArray, Nat.reduceAdd, Nat.reduceSub, Nat.reduceMul, Nat.reduceLT, Nat.reduceLeDiff, Nat.reduceEqDiff, Nat.succ_ne_zero, reduceIte]
  refine CallK.mk _ (by simpa only [go_sem] using szWorld_spec w 1048576 (by omega)) fun _ => ?_
  simp only [go_sem, List.getElem?_toArray, Nat.reduceAdd, Nat.reduceSub, Nat.reduceMul, Nat.reduceLT, Nat.reduceLeDiff, Nat.reduceEqDiff, Nat.succ_ne_zero, reduceIte]
  refine cndC.mk (fun h => ?_) (fun h => ?_)
  · simp only [go_sem, List.getElem?_toArray, Nat.reduceAdd, Nat.reduceSub, Nat.reduceMul, Nat.reduceLT, Nat.reduceLeDiff, Nat.reduceEqDiff, Nat.succ_ne_zero, reduceIte]
  · have hf := (szWorld_fit w 1048576 (by simp at h; omega) (by omega)).1
    simp only [go_sem, List.getElem?_toArray, Nat.reduceAdd, Nat.reduceSub, Nat.reduceMul, Nat.reduceLT, Nat.reduceLeDiff, Nat.reduceEqDiff, Nat.succ_ne_zero, reduceIte]
    refine CallK.mk _ (by simpa only [go_sem] using toWorld_spec w hf) fun _ => ?_
    simp only [go_sem, List.getElem?_toArray, Nat.reduceAdd, Nat.reduceSub, Nat.reduceMul, Nat.reduceLT, Nat.reduceLeDiff, Nat.reduceEqDiff, Nat.succ_ne_zero, reduceIte]
    refine CallK.mk _ (by simpa only [go_sem] using sBytesOf_spec w) fun _ => ?_
    simp only [go_sem, List.getElem?_toArray, Nat.reduceAdd, Nat.reduceSub, Nat.reduceMul, Nat.reduceLT, Nat.reduceLeDiff, Nat.reduceEqDiff, Nat.succ_ne_zero, reduceIte]
    refine CallK.mk _ (by simpa only [go_sem] using toWorld_spec w hf) fun _ => ?_
    simp only [go_sem, List.getElem?_toArray, Nat.reduceAdd, Nat.reduceSub, Nat.reduceMul, Nat.reduceLT, Nat.reduceLeDiff, Nat.reduceEqDiff, Nat.succ_ne_zero, reduceIte]
    refine CallK.mk _ (by simpa only [go_sem] using iBytesOf_spec w) fun _ => ?_
    simp only [go_sem, List.getElem?_toArray, Nat.reduceAdd, Nat.reduceSub, Nat.reduceMul, Nat.reduceLT, Nat.reduceLeDiff, Nat.reduceEqDiff, Nat.succ_ne_zero, reduceIte, beq_self_eq_true, bne_self_eq_false]
    try refine DrawK.mk ?_
    try simp only [go_sem, List.getElem?_toArray, Nat.reduceAdd, Nat.reduceSub, Nat.reduceMul, Nat.reduceLT, Nat.reduceLeDiff, Nat.reduceEqDiff, Nat.succ_ne_zero, reduceIte]
    first | refine CallF.mk _ (by simpa only [go_sem] using toWorld_spec w hf) ?_ | refine CallK.mk _ (by simpa only [go_sem] using toWorld_spec w hf) fun _ => ?_
    simp only [go_sem, List.getElem?_toArray, Nat.reduceAdd, Nat.reduceSub, Nat.reduceMul, Nat.reduceLT, Nat.reduceLeDiff, Nat.reduceEqDiff, Nat.succ_ne_zero, reduceIte]
    first | refine CallF.mk _ (by simpa only [go_sem] using eqWorld_spec w) ?_ | refine CallK.mk _ (by simpa only [go_sem] using eqWorld_spec w) fun _ => ?_
    simp only [go_sem, List.getElem?_toArray, Nat.reduceAdd, Nat.reduceSub, Nat.reduceMul, Nat.reduceLT, Nat.reduceLeDiff, Nat.reduceEqDiff, Nat.succ_ne_zero, reduceIte]

theorem lawPackedOf_spec (w : DWorld) : Ctr Try.prog 5 [.agg w.c] [.val (.c (.v (.bool true)))] := by
  refine Ctr.mk (fn := Try.f5) Try.call5 Try.func5 rfl mixed Try.ntmps5 Try.results5 (by kernel_rfl) rfl fun hw => ?_
  simp only [go_sem, List.getElem?_toArray, Nat.reduceAdd, Nat.reduceSub, Nat.reduceMul, Nat.reduceLT, Nat.reduceLeDiff, Nat.reduceEqDiff, Nat.succ_ne_zero, reduceIte]
  refine CallK.mk _ (by simpa only [go_sem] using szWorld_spec w 1048576 (by omega)) fun _ => ?_
  simp only [go_sem, List.getElem?_toArray, Nat.reduceAdd, Nat.reduceSub, Nat.reduceMul, Nat.reduceLT, Nat.reduceLeDiff, Nat.reduceEqDiff, Nat.succ_ne_zero, reduceIte]
  refine cndC.mk (fun h => ?_) (fun h => ?_)
  · simp only [go_sem, List.getElem?_toArray, Nat.reduceAdd, Nat.reduceSub, Nat.reduceMul, Nat.reduceLT, Nat.reduceLeDiff, Nat.reduceEqDiff, Nat.succ_ne_zero, reduceIte]
  · have hf := (szWorld_fit w 1048576 (by simp at h; omega) (by omega)).1
    simp only [go_sem, List.getElem?_toArray, Nat.reduceAdd, Nat.reduceSub, Nat.reduceMul, Nat.reduceLT, Nat.reduceLeDiff, Nat.reduceEqDiff, Nat.succ_ne_zero, reduceIte]
    refine CallK.mk _ (by simpa only [go_sem] using toWorld_spec w hf) fun _ => ?_
    simp only [go_sem, List.getElem?_toArray, Nat.reduceAdd, Nat.reduceSub, Nat.reduceMul, Nat.reduceLT, Nat.reduceLeDiff, Nat.reduceEqDiff, Nat.succ_ne_zero, reduceIte]
    refine CallK.mk _ (by simpa only [go_sem] using sPackedOf_spec w) fun _ => ?_
    simp only [go_sem, List.getElem?_toArray, Nat.reduceAdd, Nat.reduceSub, Nat.reduceMul, Nat.reduceLT, Nat.reduceLeDiff, Nat.reduceEqDiff, Nat.succ_ne_zero, reduceIte]
    refine CallK.mk _ (by simpa only [go_sem] using toWorld_spec w hf) fun _ => ?_
    simp only [go_sem, List.getElem?_toArray, Nat.reduceAdd, Nat.reduceSub, Nat.reduceMul, Nat.reduceLT, Nat.reduceLeDiff, Nat.reduceEqDiff, Nat.succ_ne_zero, reduceIte]
    refine CallK.mk _ (by simpa only [go_sem] using iPackedOf_spec w) fun _ => ?_
    simp only [go_sem, List.getElem?_toArray, Nat.reduceAdd, Nat.reduceSub, Nat.reduceMul, Nat.reduceLT, Nat.reduceLeDiff, Nat.reduceEqDiff, Nat.succ_ne_zero, reduceIte, beq_self_eq_true, bne_self_eq_false]
    try refine DrawK.mk ?_
    try simp only [go_sem, List.getElem?_toArray, Nat.reduceAdd, Nat.reduceSub, Nat.reduceMul, Nat.reduceLT, Nat.reduceLeDiff, Nat.reduceEqDiff, Nat.succ_ne_zero, reduceIte]
    first | refine CallF.mk _ (by simpa only [go_sem] using toWorld_spec w hf) ?_ | refine CallK.mk _ (by simpa only [go_sem] using toWorld_spec w hf) fun _ => ?_
    simp only [go_sem, List.getElem?_toArray, Nat.reduceAdd, Nat.reduceSub, Nat.reduceMul, Nat.reduceLT, Nat.reduceLeDiff, Nat.reduceEqDiff, Nat.succ_ne_zero, reduceIte]
    first | refine CallF.mk _ (by simpa only [go_sem] using eqWorld_spec w) ?_ | refine CallK.mk _ (by simpa only [go_sem] using eqWorld_spec w) fun _ => ?_
    simp only [go_sem, List.getElem?_toArray, Nat.reduceAdd, Nat.reduceSub, Nat.reduceMul, Nat.reduceLT, Nat.reduceLeDiff, Nat.reduceEqDiff, Nat.succ_ne_zero, reduceIte]

theorem lawUsed_spec (w : DWorld) : Ctr Try.prog 6 [.agg w.c] [.val (.c (.v (.bool true)))] := by
  refine Ctr.mk (fn := Try.f6) Try.call6 Try.func6 rfl mixed Try.ntmps6 Try.results6 (by kernel_rfl) rfl fun hw => ?_
  simp only [go_sem, List.getElem?_toArray, Nat.reduceAdd, Nat.reduceSub, Nat.reduceMul, Nat.reduceLT, Nat.reduceLeDiff, Nat.reduceEqDiff, Nat.succ_ne_zero, reduceIte]
  refine CallK.mk _ (by simpa only [go_sem] using szWorld_spec w 1048576 (by omega)) fun _ => ?_
  simp only [go_sem, List.getElem?_toArray, Nat.reduceAdd, Nat.reduceSub, Nat.reduceMul, Nat.reduceLT, Nat.reduceLeDiff, Nat.reduceEqDiff, Nat.succ_ne_zero, reduceIte]
  refine cndC.mk (fun h => ?_) (fun h => ?_)
  · simp only [go_sem, List.getElem?_toArray, Nat.reduceAdd, Nat.reduceSub, Nat.reduceMul, Nat.reduceLT, Nat.reduceLeDiff, Nat.reduceEqDiff, Nat.succ_ne_zero, reduceIte]
  · have hf := (szWorld_fit w 1048576 (by simp at h; omega) (by omega)).1
    simp only [go_sem, List.getElem?_toArray, Nat.reduceAdd, Nat.reduceSub, Nat.reduceMul, Nat.reduceLT, Nat.reduceLeDiff, Nat.reduceEqDiff, Nat.succ_ne_zero, reduceIte]
    refine CallK.mk _ (by simpa only [go_sem] using toWorld_spec w hf) fun _ => ?_
    simp only [go_sem, List.getElem?_toArray, Nat.reduceAdd, Nat.reduceSub, Nat.reduceMul, Nat.reduceLT, Nat.reduceLeDiff, Nat.reduceEqDiff, Nat.succ_ne_zero, reduceIte]
    refine CallK.mk _ (by simpa only [go_sem] using sUsed_spec w) fun _ => ?_
    simp only [go_sem, List.getElem?_toArray, Nat.reduceAdd, Nat.reduceSub, Nat.reduceMul, Nat.reduceLT, Nat.reduceLeDiff, Nat.reduceEqDiff, Nat.succ_ne_zero, reduceIte]
    refine CallK.mk _ (by simpa only [go_sem] using toWorld_spec w hf) fun _ => ?_
    simp only [go_sem, List.getElem?_toArray, Nat.reduceAdd, Nat.reduceSub, Nat.reduceMul, Nat.reduceLT, Nat.reduceLeDiff, Nat.reduceEqDiff, Nat.succ_ne_zero, reduceIte]
    refine CallK.mk _ (by simpa only [go_sem] using iUsed_spec w) fun _ => ?_
    simp only [go_sem, List.getElem?_toArray, Nat.reduceAdd, Nat.reduceSub, Nat.reduceMul, Nat.reduceLT, Nat.reduceLeDiff, Nat.reduceEqDiff, Nat.succ_ne_zero, reduceIte, beq_self_eq_true, bne_self_eq_false]
    try refine DrawK.mk ?_
    try simp only [go_sem, List.getElem?_toArray, Nat.reduceAdd, Nat.reduceSub, Nat.reduceMul, Nat.reduceLT, Nat.reduceLeDiff, Nat.reduceEqDiff, Nat.succ_ne_zero, reduceIte]
    first | refine CallF.mk _ (by simpa only [go_sem] using toWorld_spec w hf) ?_ | refine CallK.mk _ (by simpa only [go_sem] using toWorld_spec w hf) fun _ => ?_
    simp only [go_sem, List.getElem?_toArray, Nat.reduceAdd, Nat.reduceSub, Nat.reduceMul, Nat.reduceLT, Nat.reduceLeDiff, Nat.reduceEqDiff, Nat.succ_ne_zero, reduceIte]
    first | refine CallF.mk _ (by simpa only [go_sem] using eqWorld_spec w) ?_ | refine CallK.mk _ (by simpa only [go_sem] using eqWorld_spec w) fun _ => ?_
    simp only [go_sem, List.getElem?_toArray, Nat.reduceAdd, Nat.reduceSub, Nat.reduceMul, Nat.reduceLT, Nat.reduceLeDiff, Nat.reduceEqDiff, Nat.succ_ne_zero, reduceIte]

theorem lawRipes_spec (w : DWorld) : Ctr Try.prog 7 [.agg w.c] [.val (.c (.v (.bool true)))] := by
  refine Ctr.mk (fn := Try.f7) Try.call7 Try.func7 rfl mixed Try.ntmps7 Try.results7 (by kernel_rfl) rfl fun hw => ?_
  simp only [go_sem, List.getElem?_toArray, Nat.reduceAdd, Nat.reduceSub, Nat.reduceMul, Nat.reduceLT, Nat.reduceLeDiff, Nat.reduceEqDiff, Nat.succ_ne_zero, reduceIte]
  refine CallK.mk _ (by simpa only [go_sem] using szWorld_spec w 1048576 (by omega)) fun _ => ?_
  simp only [go_sem, List.getElem?_toArray, Nat.reduceAdd, Nat.reduceSub, Nat.reduceMul, Nat.reduceLT, Nat.reduceLeDiff, Nat.reduceEqDiff, Nat.succ_ne_zero, reduceIte]
  refine cndC.mk (fun h => ?_) (fun h => ?_)
  · simp only [go_sem, List.getElem?_toArray, Nat.reduceAdd, Nat.reduceSub, Nat.reduceMul, Nat.reduceLT, Nat.reduceLeDiff, Nat.reduceEqDiff, Nat.succ_ne_zero, reduceIte]
  · have hf := (szWorld_fit w 1048576 (by simp at h; omega) (by omega)).1
    simp only [go_sem, List.getElem?_toArray, Nat.reduceAdd, Nat.reduceSub, Nat.reduceMul, Nat.reduceLT, Nat.reduceLeDiff, Nat.reduceEqDiff, Nat.succ_ne_zero, reduceIte]
    refine CallK.mk _ (by simpa only [go_sem] using toWorld_spec w hf) fun _ => ?_
    simp only [go_sem, List.getElem?_toArray, Nat.reduceAdd, Nat.reduceSub, Nat.reduceMul, Nat.reduceLT, Nat.reduceLeDiff, Nat.reduceEqDiff, Nat.succ_ne_zero, reduceIte]
    refine CallK.mk _ (by simpa only [go_sem] using sRipes_spec w) fun _ => ?_
    simp only [go_sem, List.getElem?_toArray, Nat.reduceAdd, Nat.reduceSub, Nat.reduceMul, Nat.reduceLT, Nat.reduceLeDiff, Nat.reduceEqDiff, Nat.succ_ne_zero, reduceIte]
    refine CallK.mk _ (by simpa only [go_sem] using toWorld_spec w hf) fun _ => ?_
    simp only [go_sem, List.getElem?_toArray, Nat.reduceAdd, Nat.reduceSub, Nat.reduceMul, Nat.reduceLT, Nat.reduceLeDiff, Nat.reduceEqDiff, Nat.succ_ne_zero, reduceIte]
    refine CallK.mk _ (by simpa only [go_sem] using iRipes_spec w) fun _ => ?_
    simp only [go_sem, List.getElem?_toArray, Nat.reduceAdd, Nat.reduceSub, Nat.reduceMul, Nat.reduceLT, Nat.reduceLeDiff, Nat.reduceEqDiff, Nat.succ_ne_zero, reduceIte, beq_self_eq_true, bne_self_eq_false]
    try refine DrawK.mk ?_
    try simp only [go_sem, List.getElem?_toArray, Nat.reduceAdd, Nat.reduceSub, Nat.reduceMul, Nat.reduceLT, Nat.reduceLeDiff, Nat.reduceEqDiff, Nat.succ_ne_zero, reduceIte]
    first | refine CallF.mk _ (by simpa only [go_sem] using toWorld_spec w hf) ?_ | refine CallK.mk _ (by simpa only [go_sem] using toWorld_spec w hf) fun _ => ?_
    simp only [go_sem, List.getElem?_toArray, Nat.reduceAdd, Nat.reduceSub, Nat.reduceMul, Nat.reduceLT, Nat.reduceLeDiff, Nat.reduceEqDiff, Nat.succ_ne_zero, reduceIte]
    first | refine CallF.mk _ (by simpa only [go_sem] using eqWorld_spec w) ?_ | refine CallK.mk _ (by simpa only [go_sem] using eqWorld_spec w) fun _ => ?_
    simp only [go_sem, List.getElem?_toArray, Nat.reduceAdd, Nat.reduceSub, Nat.reduceMul, Nat.reduceLT, Nat.reduceLeDiff, Nat.reduceEqDiff, Nat.succ_ne_zero, reduceIte]

end Go.Proofs.Ytajokmlnpnfkoaa
