/- A part. -/
import Derived.Test.YtnoldekcdlaahaaGreatPAc
set_option linter.unusedSimpArgs false
set_option linter.unusedVariables false
set_option maxHeartbeats 2000000
set_option maxRecDepth 10000
open Go.Proofs.Tryz
namespace Go.Proofs.YtnoldekcdlaahaaGreat
open Go.Vm
def Ff (d:DDeed):Bool:=
 if(!(Ad d.op 1 4&&(Ad d.task 0 4&&Ad d.code 0 5)))=true then false else
 if(decide (d.stamp<0)||(decide (d.inv<0)||(decide (d.id < -1)||((d.lin != -1)&&decide (d.lin<d.inv)))))=true then false else
 (d.ret == -1)||((d.lin != -1)&&decide (d.ret≥d.lin))
theorem Ue (d:DDeed):Ctr prog 192 [.agg d.c] [.val (.c (.v (.bool (Ff d))))]:=by
 refine CM call192 func192 ntmps192 results192 fun hw=>?_
 simp only[go_sem]
 refine AAM _ (AO d.op 1 4) fun _=>?_
 rcases h1:Ad d.op 1 4 with _ | _
 ·simp only[go_sem,Ff,h1,ag,aS]
 simp only[go_sem,h1]
 refine AAM _ (AO d.task 0 4) fun _=>?_
 rcases h2:Ad d.task 0 4 with _ | _
 ·simp only[go_sem,Ff,h1,h2,ag,aK,aS]
 simp only[go_sem,h1,h2]
 refine AAM _ (AO d.code 0 5) fun _=>?_
 exact AG7
theorem Uf (d:DDeed):Ctr prog 110 [.agg d.c] [.val (.c (.v (.bool (Ff d))))]:=by
 refine CM call110 func110 ntmps110 results110 fun hw=>?_
 simp only[go_sem]
 refine AAM _ (AL d.op 1 4) fun _=>?_
 rcases h1:Ad d.op 1 4 with _ | _
 ·simp only[go_sem,Ff,h1,ag,aS]
 simp only[go_sem,h1]
 refine AAM _ (AL d.task 0 4) fun _=>?_
 rcases h2:Ad d.task 0 4 with _ | _
 ·simp only[go_sem,Ff,h1,h2,ag,aK,aS]
 simp only[go_sem,h1,h2]
 refine AAM _ (AL d.code 0 5) fun _=>?_
 exact AG7
end Go.Proofs.YtnoldekcdlaahaaGreat
