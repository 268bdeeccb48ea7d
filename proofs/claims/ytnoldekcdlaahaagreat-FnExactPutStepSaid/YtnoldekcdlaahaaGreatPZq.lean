/- A part. -/
import Derived.Test.YtnoldekcdlaahaaGreatPZr
import Derived.Test.YtnoldekcdlaahaaGreatPZj
set_option linter.unusedSimpArgs false
set_option linter.unusedVariables false
set_option maxHeartbeats 8000000
set_option maxRecDepth 10000
open Go.Proofs.Tryz
namespace Go.Proofs.YtnoldekcdlaahaaGreat
open Go.Vm
theorem jI (w:DWorld) (hf:Aa w):Ctr prog 39 [.agg w.c] [.val (.c (.v (.bool (Ec w))))]:=by
 refine CM call39 func39 ntmps39 results39 fun hw=>?_
 have hlt:=V9 hf
 have hld:=AAp hf
 unfold Ec headB
 simp only[go_sem]
 try refine AAm ?_
 try simp only[go_sem]
 first | refine CY (Vt w.c0) ?_ | refine CW (Vt w.c0) fun _=>?_
 rcases h1:L8 w.c0 with _ | _
 ·simp only[go_sem,h1,ag,aj,aK]
 simp only[go_sem,h1,aj]
 try refine AAm ?_
 try simp only[go_sem]
 first | refine ABL _ (AL w.time 0 1000000) ?_ | refine AAM _ (AL w.time 0 1000000) fun _=>?_
 rcases h2:Ad w.time 0 1000000 with _ | _
 ·simp only[go_sem,h2,ag,aj,aK]
 simp only[go_sem,h2,aj]
 try refine AAm ?_
 try simp only[go_sem]
 first | refine ABL _ (AL w.t 1 1000000) ?_ | refine AAM _ (AL w.t 1 1000000) fun _=>?_
 rcases h3:Ad w.t 1 1000000 with _ | _
 ·simp only[go_sem,h3,ag,aj,aK]
 simp only[go_sem,h3,aj]
 try refine AAm ?_
 try simp only[go_sem]
 first | refine ABL _ (AL w.e 0 1000000) ?_ | refine AAM _ (AL w.e 0 1000000) fun _=>?_
 rcases h4:Ad w.e 0 1000000 with _ | _
 ·simp only[go_sem,h4,ag,aj,aK]
 simp only[go_sem,h4,aj]
 try refine AAm ?_
 try simp only[go_sem]
 first | refine CY (RU w.d (lenD hf)) ?_ | refine CW (RU w.d (lenD hf)) fun _=>?_
 rcases h5:Il w.d with _ | _
 ·simp only[go_sem,h5,ag,aj,aK]
 simp only[go_sem,h5,aj]
 rcases h6:decide (w.d.ver>1000000) with _ | _
 rotate_left
 ·exact AN9
 simp only[go_sem,h6,aS,aj]
 try refine AAm ?_
 try simp only[go_sem]
 first | refine CY (gm w hf) ?_ | refine CW (gm w hf) fun _=>?_
 rcases h7:kU w with _ | _
 ·simp only[go_sem,h7,ag,aj,aK]
 simp only[go_sem,h7,aj]
 try refine AAm ?_
 try simp only[go_sem]
 first | refine CY (YI w hf) ?_ | refine CW (YI w hf) fun _=>?_
 rcases h8:RZ w with _ | _
 ·simp only[go_sem,h8,ag,aj,aK]
 simp only[go_sem,h8,aj]
 try refine AAm ?_
 try simp only[go_sem]
 first | refine CY (YH w hf) ?_ | refine CW (YH w hf) fun _=>?_
 rcases h9:gW w with _ | _
 ·simp only[go_sem,h9,ag,aj,aK]
 simp only[go_sem,h9,aj]
 try refine AAm ?_
 try simp only[go_sem]
 first | refine CY (gp w hf) ?_ | refine CW (gp w hf) fun _=>?_
 rcases h10:gX w with _ | _
 ·simp only[go_sem,h10,ag,aj,aK]
 simp only[go_sem,h10,aj]
 rcases h11:((w.tasks.length:Int)==5) with _ | _
 ·have g:((w.tasks.length:Int) != 5)=true:=by simp only[bne,h11,aS]
  simp only[go_sem,g,ag]
  try refine AAm ?_
  try simp only[go_sem,g]
 have g11:((w.tasks.length:Int) != 5)=false:=by simp only[bne,h11,aP]
 rcases h12:((w.p.length:Int)==5) with _ | _
 ·have g:((w.p.length:Int) != 5)=true:=by simp only[bne,h12,aS]
  simp only[go_sem,g11,g,ag,aj]
  try refine AAm ?_
  try simp only[go_sem,g11,g]
 have g12:((w.p.length:Int) != 5)=false:=by simp only[bne,h12,aP]
 simp only[go_sem,g11,g12,aj]
 try refine AAm ?_
 try simp only[go_sem,g11,g12]
 first | refine ABL _ (Vx w.p w.e (AF3 hf)) ?_ | refine AAM _ (Vx w.p w.e (AF3 hf)) fun _=>?_
 rcases h13:OY w.p w.e with _ | _
 ·simp only[go_sem,h13,ag]
 simp only[go_sem,h13,aj]
 have hl5:w.tasks.length=w.p.length:=by
  exact ANn
 unfold pR
 refine ABK 1 (A:=Nat) (fun x=>[(79,.c (.v (.int .i64 (x))))]) (fun _=>[⟨44,14,[w.c],true,true⟩]) (vk w.tasks fun k t=>QL w k t (w.p[k]?.getD 0)) (fun x=>w.tasks.length-x) 0 ⟨⟨rfl,rfl⟩,rfl,pO⟩ ?_
 intro k hk
 refine AOJ (fun h=>?_) fun h=>?_
 ·have hk':k<w.tasks.length:=by simpa using h
  have hp:k<w.p.length:=AOQ
  have e1:(w.p[k]?.getD 0)=w.p[k]:=by rw[au hp]; rfl
  simp only[go_sem,AA _ hk',hk']
  try refine AAm ?_
  try simp only[go_sem,AA _ hk',hk']
  first | refine CY (Rj w k hf hk' hp) ?_ | refine CW (Rj w k hf hk' hp) fun _=>?_
  rcases h14:QL w k w.tasks[k] w.p[k] with _ | _
  ·simp only[go_sem,h14,JJ (p:=fun k t=>QL w k t (w.p[k]?.getD 0)) hk' (by rw[e1]; exact h14),ag]
  ·exact AMP
 have hk':k=w.tasks.length:=by have:=hk.1; simp at h; omega
 subst hk'
 rw[TE hk,aj]
 unfold XP
 simp only[go_sem]
 refine ABK 1 (A:=Nat) (fun x=>[(90,.c (.v (.int .i64 (x))))]) (fun _=>[⟨44,14,[w.c],true,true⟩]) (FC w.deeds (deed1 w)) (fun x=>w.deeds.length-x) 0 ⟨⟨rfl,rfl⟩,rfl,DZ⟩ ?_
 intro j hj
 refine AOJ (fun h=>?_) fun h=>?_
 ·have hj':j<w.deeds.length:=by simpa using h
  simp only[go_sem,AA _ hj',hj']
  try refine AAm ?_
  try simp only[go_sem,AA _ hj',hj']
  first | refine CY (Uf w.deeds[j]) ?_ | refine CW (Uf w.deeds[j]) fun _=>?_
  rcases q1:Ff w.deeds[j] with _ | _
  ·simp only[go_sem,q1,BU (p:=deed1 w) hj' (by simp only[deed1,q1,ag]),ag]
  rcases q2:decide (w.deeds[j].inv≥w.time) with _ | _
  rotate_left
  ·simp only[go_sem,q1,q2,BU (p:=deed1 w) hj' (by simp only[deed1,q1,q2]; rfl),ag]
  rcases q3:decide (w.deeds[j].lin≥w.time) with _ | _
  rotate_left
  ·simp only[go_sem,q1,q2,q3,BU (p:=deed1 w) hj' (by simp only[deed1,q1,q2,q3]; rfl),ag]
  rcases q4:decide (w.deeds[j].ret≥w.time) with _ | _
  rotate_left
  ·simp only[go_sem,q1,q2,q3,q4,BU (p:=deed1 w) hj' (by simp only[deed1,q1,q2,q3,q4]; rfl),ag]
  exact ALz
 have hj':j=w.deeds.length:=AOw
 subst hj'
 rw[DN hj,aj]
 simp only[go_sem]
 try refine AAm ?_
 try simp only[go_sem]
 first | refine CY (RX w hf) ?_ | refine CW (RX w hf) fun _=>?_
 exact AI5
end Go.Proofs.YtnoldekcdlaahaaGreat
