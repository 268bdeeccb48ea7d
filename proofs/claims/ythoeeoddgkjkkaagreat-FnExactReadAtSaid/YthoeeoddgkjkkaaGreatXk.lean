/- Counts of marks. -/
import Derived.Test.YthoeeoddgkjkkaaGreatBe
import Derived.Test.YthoeeoddgkjkkaaGreatXe
namespace Go.Proofs.YthoeeoddgkjkkaaGreat
set_option linter.unusedSimpArgs false
set_option linter.unusedVariables false
open Go.Vm
set_option maxHeartbeats 2000000
set_option maxRecDepth 10000
theorem mr (k:Int) (x:DVal):Ey k x≤k+3:=by unfold Ey; omega
theorem QZ (xs:List DRow) (hl:xs.length≤1099511627776) (hx:∀ x∈xs,x.l.length≤1048576):J4 FU 1 xs≤4000000000000000000:=by
 have h:=QD (c:=FU) 3145729 (by omega) xs (fun x hxx k=>by
  have h1:=QD (c:=Ey) 3 (by omega) x.l (fun y _ k=>mr k y) (k+1)
  have h2:=hx x hxx
  unfold FU
  omega) 1
 omega
end Go.Proofs.YthoeeoddgkjkkaaGreat
