/- The laws' walks: hidden rows. -/
import Derived.Test.YthoeeoddgkjkkaaGreatXh
import Derived.Test.YthoeeoddgkjkkaaGreatFa
namespace Go.Proofs.YthoeeoddgkjkkaaGreat
set_option linter.unusedSimpArgs false
set_option linter.unusedVariables false
open Go.Vm
set_option maxHeartbeats 2000000
set_option maxRecDepth 10000
theorem lawHidden_spec (w : DWorld) : Ctr Tryz.prog 4 [.agg w.c] [.val (.c (.v (.bool (true))))]:=by
 refine Ctr.mk Tryz.call4 Tryz.func4 rfl mixed Tryz.ntmps4 Tryz.results4 (by kernel_rfl) rfl fun hw=>?_
 simp only [go_sem]
 refine CallK.mk _ (by simpa only [go_sem] using szWorld_spec w 1048576 (by omega)) fun _=>?_
 simp only [go_sem]
 refine cndC.mk (fun h=>?_) (fun h=>?_)
 ·simp only [go_sem]
 ·have hf:=(szWorld_fit w 1048576 (by simp at h; omega) (by omega)).1
  simp only [go_sem]
  refine CallK.mk _ (by simpa only [go_sem] using toWorld_spec w hf) fun _=>?_
  simp only [go_sem]
  refine CallK.mk _ (by simpa only [go_sem] using sHidden_spec w hf) fun _=>?_
  simp only [go_sem]
  refine CallK.mk _ (by simpa only [go_sem] using toWorld_spec w hf) fun _=>?_
  simp only [go_sem]
  refine CallK.mk _ (by simpa only [go_sem] using iHidden_spec w hf) fun _=>?_
  simp only [go_sem,beq_self_eq_true,bne_self_eq_false]
  try refine DrawK.mk ?_
  try simp only [go_sem]
  first | refine CallF.mk _ (by simpa only [go_sem] using toWorld_spec w hf) ?_ | refine CallK.mk _ (by simpa only [go_sem] using toWorld_spec w hf) fun _=>?_
  simp only [go_sem]
  first | refine CallF.mk _ (by simpa only [go_sem] using eqWorld_spec w) ?_ | refine CallK.mk _ (by simpa only [go_sem] using eqWorld_spec w) fun _=>?_
  simp only [go_sem]
end Go.Proofs.YthoeeoddgkjkkaaGreat
