/- Counts of marks. -/
import Derived.Test.YthoeeoddgkjkkaaGreatBe
import Derived.Test.YthoeeoddgkjkkaaGreatXe
namespace Go.Proofs.YthoeeoddgkjkkaaGreat
set_option linter.unusedSimpArgs false
set_option linter.unusedVariables false
open Go.Vm
set_option maxHeartbeats 2000000
set_option maxRecDepth 10000
theorem ckVal_bd (k : Int) (x : DVal) : ckVal k x ≤ k + 3:=by unfold ckVal; omega
theorem ckRows_bd (xs : List DRow) (hl : xs.length ≤ 1099511627776) (hx : ∀ x ∈ xs,x.l.length ≤ 1048576) : ckL ckRow 1 xs ≤ 4000000000000000000:=by
 have h:=ckL_bound (c:=ckRow) 3145729 (by omega) xs (fun x hxx k=>by
  have h1:=ckL_bound (c:=ckVal) 3 (by omega) x.l (fun y _ k=>ckVal_bd k y) (k + 1)
  have h2:=hx x hxx
  unfold ckRow
  omega) 1
 omega
end Go.Proofs.YthoeeoddgkjkkaaGreat
