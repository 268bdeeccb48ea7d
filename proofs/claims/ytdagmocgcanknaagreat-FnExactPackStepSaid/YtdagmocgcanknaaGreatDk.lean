/- A part. -/
import Derived.Test.YtdagmocgcanknaaGreatIa
set_option linter.unusedSimpArgs false
set_option linter.unusedVariables false
set_option maxHeartbeats 2000000
set_option maxRecDepth 10000
open Go.Proofs.Tryz
namespace Go.Proofs.YtdagmocgcanknaaGreat
open Go.Vm
def Fv (d:DDeed):Bool:=
 if(!(Ae d.op 1 4&&(Ae d.task 0 4&&Ae d.code 0 5)))=true then false else
 if(decide (d.stamp<0)||(decide (d.inv<0)||(decide (d.id < -1)||((d.lin != -1)&&decide (d.lin<d.inv)))))=true then false else
 (d.ret == -1)||((d.lin != -1)&&decide (d.ret>=d.lin))
theorem U9 (d:DDeed):Ctr prog 147 [.agg d.c] [.val (.c (.v (.bool (Fv d))))]:=by
 refine CM call147 func147 ntmps147 results147 fun hw=>?_;simp only[go_sem];refine AAO _ (AP d.op 1 4) fun _=>?_;rcases h1:Ae d.op 1 4 with _ | _
 .simp only[go_sem,Fv,h1,ac,aH]
 simp only[go_sem,h1];refine AAO _ (AP d.task 0 4) fun _=>?_;rcases h2:Ae d.task 0 4 with _ | _
 .simp only[go_sem,Fv,h1,h2,ac,ay,aH]
 simp only[go_sem,h1,h2];refine AAO _ (AP d.code 0 5) fun _=>?_;exact AHJ
theorem U_ (d:DDeed):Ctr prog 95 [.agg d.c] [.val (.c (.v (.bool (Fv d))))]:=by
 refine CM call95 func95 ntmps95 results95 fun hw=>?_;simp only[go_sem];refine AAO _ (AL d.op 1 4) fun _=>?_;rcases h1:Ae d.op 1 4 with _ | _
 .simp only[go_sem,Fv,h1,ac,aH]
 simp only[go_sem,h1];refine AAO _ (AL d.task 0 4) fun _=>?_;rcases h2:Ae d.task 0 4 with _ | _
 .simp only[go_sem,Fv,h1,h2,ac,ay,aH]
 simp only[go_sem,h1,h2];refine AAO _ (AL d.code 0 5) fun _=>?_;exact AHJ
