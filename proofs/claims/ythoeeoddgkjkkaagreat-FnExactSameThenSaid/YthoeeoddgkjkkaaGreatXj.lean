/- The laws' walks: the same at all moments. -/
import Derived.Test.YthoeeoddgkjkkaaGreatXh
import Derived.Test.YthoeeoddgkjkkaaGreatFa
namespace Go.Proofs.YthoeeoddgkjkkaaGreat
set_option linter.unusedSimpArgs false
set_option linter.unusedVariables false
open Go.Vm
set_option maxHeartbeats 2000000
set_option maxRecDepth 10000
theorem lawSameThen_spec (a b : DWorld) : Ctr Tryz.prog 5 [.agg a.c,.agg b.c] [.val (.c (.v (.bool (true))))]:=by
 refine Ctr.mk Tryz.call5 Tryz.func5 rfl mixed Tryz.ntmps5 Tryz.results5 (by kernel_rfl) rfl fun hw=>?_
 simp only [go_sem]
 refine CallK.mk _ (by simpa only [go_sem] using szWorld_spec a 1048576 (by omega)) fun _=>?_
 simp only [go_sem]
 refine cndC.mk (fun h=>?_) (fun h=>?_)
 ·simp only [go_sem]
 have h00 : 0 ≤ szWorld a 1048576:=by simp at h; omega
 obtain ⟨hfa,hle⟩:=szWorld_fit a 1048576 h00 (by omega)
 simp only [go_sem]
 refine CallK.mk _ (by simpa only [go_sem] using szWorld_spec b (szWorld a 1048576) h00) fun _=>?_
 simp only [go_sem]
 refine cndC.mk (fun h=>?_) (fun h=>?_)
 ·simp only [go_sem]
 have h01 : 0 ≤ szWorld b (szWorld a 1048576):=by simp at h; omega
 have hfb:=(szWorld_fit b (szWorld a 1048576) h01 (by omega)).1
 simp only [go_sem]
 first | refine CallK.mk _ (by simpa only [go_sem] using toWorld_spec a hfa) fun _=>?_ | (refine DrawK.mk ?_; simp only [go_sem]; refine CallF.mk _ (by simpa only [go_sem] using toWorld_spec a hfa) ?_)
 simp only [go_sem]
 first | refine CallK.mk _ (by simpa only [go_sem] using toWorld_spec b hfb) fun _=>?_ | refine CallF.mk _ (by simpa only [go_sem] using toWorld_spec b hfb) ?_
 simp only [go_sem]
 first | refine CallK.mk _ (by simpa only [go_sem] using sSameThen_spec a b hfa hfb) fun _=>?_ | refine CallF.mk _ (by simpa only [go_sem] using sSameThen_spec a b hfa hfb) ?_
 simp only [go_sem]
 refine CallK.mk _ (by simpa only [go_sem] using toWorld_spec a hfa) fun _=>?_
 simp only [go_sem]
 refine CallK.mk _ (by simpa only [go_sem] using toWorld_spec b hfb) fun _=>?_
 simp only [go_sem]
 try refine DrawK.mk ?_
 try simp only [go_sem]
 first | refine CallK.mk _ (by simpa only [go_sem] using iSameThen_spec a b hfa hfb) fun _=>?_ | refine CallF.mk _ (by simpa only [go_sem] using iSameThen_spec a b hfa hfb) ?_
 simp only [go_sem,beq_self_eq_true,bne_self_eq_false]
 refine DrawK.mk ?_
 simp only [go_sem]
 refine CallF.mk _ (by simpa only [go_sem] using toWorld_spec a hfa) ?_
 simp only [go_sem]
 refine CallF.mk _ (by simpa only [go_sem] using eqWorld_spec a) ?_
 simp only [go_sem]
 refine DrawK.mk ?_
 simp only [go_sem]
 refine CallF.mk _ (by simpa only [go_sem] using toWorld_spec b hfb) ?_
 simp only [go_sem]
 refine CallF.mk _ (by simpa only [go_sem] using eqWorld_spec b) ?_
 simp only [go_sem]
end Go.Proofs.YthoeeoddgkjkkaaGreat
