/- A part. -/
import Derived.Test.YtdagmocgcanknaaGreatZp
import Derived.Test.YtdagmocgcanknaaGreatZj
set_option linter.unusedSimpArgs false
set_option linter.unusedVariables false
set_option maxHeartbeats 8000000
set_option maxRecDepth 10000
open Go.Proofs.Tryz
namespace Go.Proofs.YtdagmocgcanknaaGreat
open Go.Vm
theorem jR (w:DWorld) (hf:AU w):Ctr prog 30 [.agg w.c] [.val (.c (.v (.bool (Dl w))))]:=by
 refine CM call30 func30 ntmps30 results30 fun hw=>?_;have hlt:=Wi hf;have hld:=AA5 hf;unfold Dl headB;simp only[go_sem];try refine AAP ?_
 try simp only[go_sem]
 first | refine CY (WU w.c0) ?_ | refine CW (WU w.c0) fun _=>?_
 rcases h1:OG w.c0 with _ | _
 .simp only[go_sem,h1,ac,ah,ay]
 simp only[go_sem,h1,ah];try refine AAP ?_
 try simp only[go_sem]
 first | refine AAt _ (AL w.time 0 1000000) ?_ | refine AAO _ (AL w.time 0 1000000) fun _=>?_
 rcases h2:Ae w.time 0 1000000 with _ | _
 .simp only[go_sem,h2,ac,ah,ay]
 simp only[go_sem,h2,ah];try refine AAP ?_
 try simp only[go_sem]
 first | refine AAt _ (AL w.t 1 1000000) ?_ | refine AAO _ (AL w.t 1 1000000) fun _=>?_
 rcases h3:Ae w.t 1 1000000 with _ | _
 .simp only[go_sem,h3,ac,ah,ay]
 simp only[go_sem,h3,ah];try refine AAP ?_
 try simp only[go_sem]
 first | refine AAt _ (AL w.e 0 1000000) ?_ | refine AAO _ (AL w.e 0 1000000) fun _=>?_
 rcases h4:Ae w.e 0 1000000 with _ | _
 .simp only[go_sem,h4,ac,ah,ay]
 simp only[go_sem,h4,ah];try refine AAP ?_
 try simp only[go_sem]
 first | refine CY (SS w.d (lenD hf)) ?_ | refine CW (SS w.d (lenD hf)) fun _=>?_
 rcases h5:J4 w.d with _ | _
 .simp only[go_sem,h5,ac,ah,ay]
 simp only[go_sem,h5,ah];rcases h6:decide (w.d.ver>1000000) with _ | _;rotate_left
 .exact AOO
 simp only[go_sem,h6,aH,ah];try refine AAP ?_
 try simp only[go_sem]
 first | refine CY (gy w hf) ?_ | refine CW (gy w hf) fun _=>?_
 rcases h7:lN w with _ | _
 .simp only[go_sem,h7,ac,ah,ay]
 simp only[go_sem,h7,ah];try refine AAP ?_
 try simp only[go_sem]
 first | refine CY (Y1 w hf) ?_ | refine CW (Y1 w hf) fun _=>?_
 rcases h8:SY w with _ | _
 .simp only[go_sem,h8,ac,ah,ay]
 simp only[go_sem,h8,ah];try refine AAP ?_
 try simp only[go_sem]
 first | refine CY (Y5 w hf) ?_ | refine CW (Y5 w hf) fun _=>?_
 rcases h9:gm w with _ | _
 .simp only[go_sem,h9,ac,ah,ay]
 simp only[go_sem,h9,ah];try refine AAP ?_
 try simp only[go_sem]
 first | refine CY (gz w hf) ?_ | refine CW (gz w hf) fun _=>?_
 rcases h10:gp w with _ | _
 .simp only[go_sem,h10,ac,ah,ay]
 simp only[go_sem,h10,ah];rcases h11:((w.tasks.length:Int)==5) with _ | _
 .have g:((w.tasks.length:Int) != 5)=true:=by simp only[bne,h11,aH]
  simp only[go_sem,g,ac];try refine AAP ?_
  try simp only[go_sem,g]
 have g11:((w.tasks.length:Int) != 5)=false:=by simp only[bne,h11,aD]
 rcases h12:((w.p.length:Int)==5) with _ | _
 .have g:((w.p.length:Int) != 5)=true:=by simp only[bne,h12,aH]
  simp only[go_sem,g11,g,ac,ah];try refine AAP ?_
  try simp only[go_sem,g11,g]
 have g12:((w.p.length:Int) != 5)=false:=by simp only[bne,h12,aD]
 simp only[go_sem,g11,g12,ah];try refine AAP ?_
 try simp only[go_sem,g11,g12]
 first | refine AAt _ (WX w.p w.e (AF4 hf)) ?_ | refine AAO _ (WX w.p w.e (AF4 hf)) fun _=>?_
 rcases h13:PH w.p w.e with _ | _
 .simp only[go_sem,h13,ac]
 simp only[go_sem,h13,ah];have hl5:w.tasks.length=w.p.length:=by exact ANz
 unfold qK;refine AAe 1 (A:=Nat) (fun x=>[(79,.c (.v (.int .i64 (x))))]) (fun _=>[⟨44,14,[w.c],true,true⟩]) (wO w.tasks fun k t=>P5 w k t (w.p[k]?.getD 0)) (fun x=>w.tasks.length-x) 0 ⟨⟨rfl,rfl⟩,rfl,qJ⟩ ?_;intro k hk;refine AOd (fun h=>?_) fun h=>?_
 .have hk':k<w.tasks.length:=by simpa using h
  have hp:k<w.p.length:=AOl;have e1:(w.p[k]?.getD 0)=w.p[k]:=by rw[am hp]; rfl
  simp only[go_sem,AA _ hk',hk'];try refine AAP ?_
  try simp only[go_sem,AA _ hk',hk']
  first | refine CY (Sz w k hf hk' hp) ?_ | refine CW (Sz w k hf hk' hp) fun _=>?_
  rcases h14:P5 w k w.tasks[k] w.p[k] with _ | _
  .simp only[go_sem,h14,Je (p:=fun k t=>P5 w k t (w.p[k]?.getD 0)) hk' (by rw[e1]; exact h14),ac]
  .exact AMZ
 have hk':k=w.tasks.length:=by have:=hk.1; simp at h; omega
 subst hk';rw[Tq hk,ah];unfold X6;simp only[go_sem];refine AAe 1 (A:=Nat) (fun x=>[(90,.c (.v (.int .i64 (x))))]) (fun _=>[⟨44,14,[w.c],true,true⟩]) (FW w.deeds (deed1 w)) (fun x=>w.deeds.length-x) 0 ⟨⟨rfl,rfl⟩,rfl,D9⟩ ?_;intro j hj;refine AOd (fun h=>?_) fun h=>?_
 .have hj':j<w.deeds.length:=by simpa using h
  simp only[go_sem,AA _ hj',hj'];try refine AAP ?_
  try simp only[go_sem,AA _ hj',hj']
  first | refine CY (U_ w.deeds[j]) ?_ | refine CW (U_ w.deeds[j]) fun _=>?_
  rcases q1:Fv w.deeds[j] with _ | _
  .simp only[go_sem,q1,Ba (p:=deed1 w) hj' (by simp only[deed1,q1,ac]),ac]
  rcases q2:decide (w.deeds[j].inv>=w.time) with _ | _;rotate_left
  .simp only[go_sem,q1,q2,Ba (p:=deed1 w) hj' (by simp only[deed1,q1,q2]; rfl),ac]
  rcases q3:decide (w.deeds[j].lin>=w.time) with _ | _;rotate_left
  .simp only[go_sem,q1,q2,q3,Ba (p:=deed1 w) hj' (by simp only[deed1,q1,q2,q3]; rfl),ac]
  rcases q4:decide (w.deeds[j].ret>=w.time) with _ | _;rotate_left
  .simp only[go_sem,q1,q2,q3,q4,Ba (p:=deed1 w) hj' (by simp only[deed1,q1,q2,q3,q4]; rfl),ac]
  exact AL7
 have hj':j=w.deeds.length:=APM;subst hj';rw[DX hj,ah];simp only[go_sem];try refine AAP ?_
 try simp only[go_sem]
 first | refine CY (Sl w hf) ?_ | refine CW (Sl w hf) fun _=>?_
 exact AJC
