/- A part. -/
import Derived.Test.YtnchiiikacemmaaGreatTe
import Derived.Test.YtnchiiikacemmaaGreatRd
set_option linter.unusedSimpArgs false
set_option linter.unusedVariables false
set_option maxHeartbeats 4000000
set_option maxRecDepth 10000
open Go.Proofs.Tryz
namespace Go.Proofs.YtnchiiikacemmaaGreat
open Go.Vm
theorem Ux (w:DWorld):Ctr prog 3 [.agg w.c] [.val (.c (.v (.bool true)))]:=by
 refine CM call3 func3 ntmps3 results3 fun hw=>?_
 simp only[go_sem]
 refine CW (S_ w 1048576 (by omega)) fun _=>?_
 simp only[go_sem]
 refine cndC.mk (fun h=>?_) (fun h=>?_)
 ·simp only[go_sem]
 ·have hf:=(O0 w 1048576 (by simp at h; omega) (by omega)).1
  simp only[go_sem]
  refine CW (F_ w hf) fun _=>?_
  simp only[go_sem]
  refine CW (X8 w hf) fun _=>?_
  simp only[go_sem]
  refine CW (F_ w hf) fun _=>?_
  simp only[go_sem]
  refine CW (X9 w hf) fun _=>?_
  simp only[go_sem,bD,aH]
  try refine DrawK.mk ?_
  try simp only[go_sem]
  first | refine CY (F_ w hf) ?_ | refine CW (F_ w hf) fun _=>?_
  simp only[go_sem]
  first | refine CY (Hw w) ?_ | refine CW (Hw w) fun _=>?_
  simp only[go_sem]
end Go.Proofs.YtnchiiikacemmaaGreat
