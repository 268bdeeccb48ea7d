/- A part. -/
import Derived.Test.YtnoldekcdlaahaaGreatPZr
import Derived.Test.YtnoldekcdlaahaaGreatPZj
set_option linter.unusedSimpArgs false
set_option linter.unusedVariables false
set_option maxHeartbeats 8000000
set_option maxRecDepth 10000
open Go.Proofs.Tryz
namespace Go.Proofs.YtnoldekcdlaahaaGreat
open Go.Vm
theorem Rn (w:DWorld) (k:Nat) (hf:Aa w) (hk:k<w.tasks.length) (hp:k<w.p.length):Ctr prog 89 [.agg w.c,.c (.v (.int .i64 ((k:Int))))] [.val (.c (.v (.bool (QL w k w.tasks[k] w.p[k]))))]:=by
 have hft:=gz hf hk
 have hft2:=hft
 rw[DR] at hft2
 have hlt:=hft2.2.2.1
 have hld:=AAp hf
 have hlb:=v_ hf
 refine CM call89 func89 ntmps89 results89 fun hw=>?_
 generalize ht:w.tasks[k]=t at hft hft2 hlt
 unfold QL
 simp only[go_sem,AA _ hk,hk,ht]
 try refine AAm ?_
 try simp only[go_sem,AA _ hk,hk,ht]
 first | refine CY (V7 t k hft) ?_ | refine CW (V7 t k hft) fun _=>?_
 rcases h1:G8 t k with _ | _
 ·exact ALu
 obtain⟨g1,g2,g3,g4,g5⟩:=kV h1
 simp only[go_sem,h1,AA _ hp,hp,aj]
 try refine AAm ?_
 try simp only[go_sem,h1,AA _ hp,hp]
 first | refine CY (YL t) ?_ | refine CW (YL t) fun _=>?_
 rcases h2:((w.p[k] != -1)==looks t) with _ | _
 ·simp only[go_sem,h2,aS,ag]
 simp only[go_sem,h2,aP,aj]
 try refine AAm ?_
 try simp only[go_sem,h2]
 first | refine CY (kW w t hf) ?_ | refine CW (kW w t hf) fun _=>?_
 rcases ho:ownB w t with _ | _
 ·rcases h3:t.op==0 with _ | _
  rotate_left
  ·have:ownB w t=(t.own==0):=by
    have e:t.op=0:=AOm
    simp[ownB,e]
   rw[this,g5 h3] at ho
   cases ho
  have ht2:gV w k t=false:=by
   unfold gV
   split
   ·rfl
   ·rw[ho,ag,aK,aK]
  simp only[go_sem,ho,ht2,bZ]
 rcases h3:t.op==0 with _ | _
 rotate_left
 ·simp only[go_sem,ho,h3,dh]
  try refine AAm ?_
  try simp only[go_sem,h3]
 simp only[go_sem,ho,h3,bZ]
 try refine AAm ?_
 try simp only[go_sem,h3]
 obtain⟨m,hm⟩:=aQ g1
 unfold gV
 rw[hm,bW]
 rcases bV m w.deeds.length with hml | hml
 rotate_left
 ·exact AL9
 have e1:decide ((m:Int)≥(w.deeds.length:Int))=false:=AOS
 rw[au hml]
 generalize hd:w.deeds[m]=d
 have hfd:GK d:=hd▸g_ hf hml
 try simp only[go_sem,hm,e1]
 try refine AAm ?_
 try simp only[go_sem,hm,e1]
 simp only[ho,aj]
 refine ABK 2 (A:=Nat) (fun x=>[(6,.c (.v (.int .i64 (x))))]) (fun _=>[⟨44,14,[w.c],true,true⟩,⟨72,25,[gy t (m:Int)],true,true⟩]) (FC t.l (there w)) (fun x=>t.l.length-x) 0 ⟨⟨rfl,rfl⟩,rfl,DZ⟩ ?_
 intro j hj
 refine AOJ (fun h=>?_) fun h=>?_
 ·have hj':j<t.l.length:=by simpa using h
  simp only[go_sem,AA _ hj',hj']
  try refine AAm ?_
  try simp only[go_sem,AA _ hj',hj']
  first | refine CY (GR w t.l[j]) ?_ | refine CW (GR w t.l[j]) fun _=>?_
  rcases h5:there w t.l[j] with _ | _
  ·simp only[go_sem,h5,BU (p:=there w) hj' h5,ag,aK]
  ·exact AMq
 have hj':j=t.l.length:=AOw
 subst hj'
 have hth:=DN hj
 rw[hth,aj]
 have HT:TaskIn w t d m:=⟨hml,hd,hm,hft,hfd,hth,g2,g3,g4⟩
 rcases h4:gU k t d with _ | _
 ·simp only[ag]
  unfold gU at h4
  simp only[go_sem,hm,AA _ hml,hml,hd]
  try refine AAm ?_
  try simp only[go_sem,hm,AA _ hml,hml,hd]
  rcases k1:d.task==(k:Int) with _ | _
  ·have j1:(d.task != (k:Int))=true:=by simp[bne,k1]
   simp only[go_sem,j1]
  have j1:(d.task != (k:Int))=false:=by simp[bne,k1]
  rcases k2:d.op==t.op with _ | _
  ·have j2:(d.op != t.op)=true:=by simp[bne,k2]
   simp only[go_sem,j1,j2]
  have j2:(d.op != t.op)=false:=by simp[bne,k2]
  rw[k1,k2,aj,aj] at h4
  have j3:(d.ret != -1)=true:=by simp[bne,h4]
  simp only[go_sem,j1,j2,j3]
 rw[aj]
 have h4b:=h4
 simp only[gU,ay] at h4b
 have j1:(d.task != (k:Int))=false:=by simp only[bne,h4b.1,aP]
 have j2:(d.op != t.op)=false:=by simp only[bne,h4b.2.1,aP]
 have j3:(d.ret != -1)=false:=by simp only[bne,h4b.2.2,aP]
 simp only[go_sem,hm,AA _ hml,hml,hd,j1,j2,j3]
 try refine AAm ?_
 try simp only[go_sem,hm,AA _ hml,hml,hd,j1,j2,j3]
 unfold swB
 rcases o1:t.op==1 with _ | _
 rotate_left
 ·simp only[go_sem,o1,bf]
  try refine AAm ?_
  try simp only[go_sem,o1]
  first | refine ABL _ (by simpa only[go_sem,hm] using TW w t d hf HT) ?_ | refine AAM _ (by simpa only[go_sem,hm] using TW w t d hf HT) fun _=>?_
  exact AI5
 rcases o2:t.op==2 with _ | _
 rotate_left
 ·simp only[go_sem,o1,o2,bf,aB,aX]
  try refine AAm ?_
  try simp only[go_sem,o1,o2]
  first | refine ABL _ (by simpa only[go_sem,hm] using Rk w t d hf HT) ?_ | refine AAM _ (by simpa only[go_sem,hm] using Rk w t d hf HT) fun _=>?_
  exact AI5
 rcases o3:t.op==3 with _ | _
 rotate_left
 ·simp only[go_sem,o1,o2,o3,bf,aB,aX]
  try refine AAm ?_
  try simp only[go_sem,o1,o2,o3]
  first | refine ABL _ (by simpa only[go_sem,hm] using Rl w t d hf HT) ?_ | refine AAM _ (by simpa only[go_sem,hm] using Rl w t d hf HT) fun _=>?_
  exact AI5
 simp only[go_sem,o1,o2,o3,aB,aX]
 unfold AAo
 try refine AAm ?_
 try simp only[go_sem,o1,o2,o3]
 first | refine ABL _ (AO t.pc 2 5) ?_ | refine AAM _ (AO t.pc 2 5) fun _=>?_
 rcases r1:Ad t.pc 2 5 with _ | _
 ·simp only[go_sem,r1,aS,dh]
 simp only[go_sem,r1,aP,bZ]
 try refine AAm ?_
 try simp only[go_sem,r1]
 first | refine ABL _ (AO (t.l.length:Int) 1 2) ?_ | refine AAM _ (AO (t.l.length:Int) 1 2) fun _=>?_
 exact AI5
theorem YM (w:DWorld) (hf:Aa w):Ctr prog 85 [.agg w.c] [.val (.c (.v (.bool (XP w))))]:=by
 refine CM call85 func85 ntmps85 results85 fun hw=>?_
 have hld:=AAp hf
 unfold XP
 simp only[go_sem]
 refine ABK 1 (A:=Nat) (fun x=>[(3,.c (.v (.int .i64 (x))))]) (fun _=>[⟨44,14,[w.c],true,true⟩]) (FC w.deeds (deed1 w)) (fun x=>w.deeds.length-x) 0 ⟨⟨rfl,rfl⟩,rfl,DZ⟩ ?_
 intro j hj
 refine AOJ (fun h=>?_) fun h=>?_
 ·have hj':j<w.deeds.length:=by simpa using h
  simp only[go_sem,AA _ hj',hj']
  try refine AAm ?_
  try simp only[go_sem,AA _ hj',hj']
  first | refine CY (Ue w.deeds[j]) ?_ | refine CW (Ue w.deeds[j]) fun _=>?_
  rcases q1:Ff w.deeds[j] with _ | _
  ·simp only[go_sem,q1,BU (p:=deed1 w) hj' (by simp only[deed1,q1,ag])]
  rcases q2:decide (w.deeds[j].inv≥w.time) with _ | _
  rotate_left
  ·simp only[go_sem,q1,q2,BU (p:=deed1 w) hj' (by simp only[deed1,q1,q2]; rfl)]
  rcases q3:decide (w.deeds[j].lin≥w.time) with _ | _
  rotate_left
  ·simp only[go_sem,q1,q2,q3,BU (p:=deed1 w) hj' (by simp only[deed1,q1,q2,q3]; rfl)]
  rcases q4:decide (w.deeds[j].ret≥w.time) with _ | _
  rotate_left
  ·simp only[go_sem,q1,q2,q3,q4,BU (p:=deed1 w) hj' (by simp only[deed1,q1,q2,q3,q4]; rfl)]
  exact ALz
 have hj':j=w.deeds.length:=AOw
 subst hj'
 simp only[go_sem,DN hj]
noncomputable def WA (w:DWorld):Bool:=headB w&&(Il w.d&&(!decide (w.d.ver>1000000)&&(((w.p.length:Int)==5)&&(OY w.p w.e&&(((w.tasks.length:Int)==5)&&(XP w&&(kR w&&(w.d.l.all (V5 w)&&(RZ w&&pR w)))))))))
theorem h_ (w:DWorld) (hf:Aa w):Ctr prog 28 [.agg w.c] [.val (.c (.v (.bool (WA w))))]:=by
 refine CM call28 func28 ntmps28 results28 fun hw=>?_
 have hlt:=V9 hf
 unfold WA headB
 simp only[go_sem,bD,aU,aO]
 try refine AAm ?_
 try simp only[go_sem]
 first | refine CY (Vu w.c0) ?_ | refine CW (Vu w.c0) fun _=>?_
 rcases h1:L8 w.c0 with _ | _
 ·simp only[go_sem,h1,ag,aj,aK]
 simp only[go_sem,h1,aj]
 try refine AAm ?_
 try simp only[go_sem]
 first | refine ABL _ (AO w.time 0 1000000) ?_ | refine AAM _ (AO w.time 0 1000000) fun _=>?_
 rcases h2:Ad w.time 0 1000000 with _ | _
 ·simp only[go_sem,h2,ag,aj,aK]
 simp only[go_sem,h2,aj]
 try refine AAm ?_
 try simp only[go_sem]
 first | refine ABL _ (AO w.t 1 1000000) ?_ | refine AAM _ (AO w.t 1 1000000) fun _=>?_
 rcases h3:Ad w.t 1 1000000 with _ | _
 ·simp only[go_sem,h3,ag,aj,aK]
 simp only[go_sem,h3,aj]
 try refine AAm ?_
 try simp only[go_sem]
 first | refine ABL _ (AO w.e 0 1000000) ?_ | refine AAM _ (AO w.e 0 1000000) fun _=>?_
 rcases h4:Ad w.e 0 1000000 with _ | _
 ·simp only[go_sem,h4,ag,aj,aK]
 simp only[go_sem,h4,aj]
 try refine AAm ?_
 try simp only[go_sem]
 first | refine CY (RV w.d (lenD hf)) ?_ | refine CW (RV w.d (lenD hf)) fun _=>?_
 rcases h5:Il w.d with _ | _
 ·simp only[go_sem,h5,ag,aj,aK]
 simp only[go_sem,h5,aj]
 rcases h6:decide (w.d.ver>1000000) with _ | _
 rotate_left
 ·exact AN9
 rcases h12:((w.p.length:Int)==5) with _ | _
 ·have g:((w.p.length:Int) != 5)=true:=by simp only[bne,h12,aS]
  simp only[go_sem,h6,g,aS,ag,aj]
  try refine AAm ?_
  try simp only[go_sem,h6,g]
 have g12:((w.p.length:Int) != 5)=false:=by simp only[bne,h12,aP]
 simp only[go_sem,h6,g12,aS,aj]
 try refine AAm ?_
 try simp only[go_sem,h6,g12]
 first | refine ABL _ (Vy w.p w.e (AF3 hf)) ?_ | refine AAM _ (Vy w.p w.e (AF3 hf)) fun _=>?_
 rcases h13:OY w.p w.e with _ | _
 ·simp only[go_sem,h13,ag]
 rcases h11:((w.tasks.length:Int)==5) with _ | _
 ·have g:((w.tasks.length:Int) != 5)=true:=by simp only[bne,h11,aS]
  simp only[go_sem,h13,g,ag,aj]
  try refine AAm ?_
  try simp only[go_sem,h13,g]
 have g11:((w.tasks.length:Int) != 5)=false:=by simp only[bne,h11,aP]
 simp only[go_sem,h13,g11,aj]
 try refine AAm ?_
 try simp only[go_sem,h13,g11]
 try refine AAm ?_
 try simp only[go_sem]
 first | refine CY (YM w hf) ?_ | refine CW (YM w hf) fun _=>?_
 rcases h7:XP w with _ | _
 ·simp only[go_sem,h7,ag,aj,aK]
 simp only[go_sem,h7,aj]
 try refine AAm ?_
 try simp only[go_sem]
 first | refine CY (gK w hf) ?_ | refine CW (gK w hf) fun _=>?_
 rcases h8:kR w with _ | _
 ·simp only[go_sem,h8,ag,aj,aK]
 simp only[go_sem,h8,aj]
 try refine AAm ?_
 try simp only[go_sem]
 first | refine CY (kS w hf) ?_ | refine CW (kS w hf) fun _=>?_
 rcases h9:w.d.l.all (V5 w) with _ | _
 ·simp only[go_sem,h9,ag,aj,aK]
 simp only[go_sem,h9,aj]
 try refine AAm ?_
 try simp only[go_sem]
 first | refine CY (YJ w hf) ?_ | refine CW (YJ w hf) fun _=>?_
 rcases h10:RZ w with _ | _
 ·simp only[go_sem,h10,ag,aj,aK]
 simp only[go_sem,h10,aj]
 have hl5:w.tasks.length=w.p.length:=by
  exact ANn
 unfold pR
 refine ABK 1 (A:=Nat) (fun x=>[(3,.c (.v (.int .i64 (x))))]) (fun _=>[⟨44,14,[w.c],true,true⟩]) (vk w.tasks fun k t=>QL w k t (w.p[k]?.getD 0)) (fun x=>w.tasks.length-x) 0 ⟨⟨rfl,rfl⟩,rfl,pO⟩ ?_
 intro k hk
 refine AOJ (fun h=>?_) fun h=>?_
 ·have hk':k<w.tasks.length:=by simpa using h
  have hp:k<w.p.length:=AOQ
  have e1:(w.p[k]?.getD 0)=w.p[k]:=by rw[au hp]; rfl
  simp only[go_sem,AA _ hk',hk']
  try refine AAm ?_
  try simp only[go_sem,AA _ hk',hk']
  first | refine CY (Rn w k hf hk' hp) ?_ | refine CW (Rn w k hf hk' hp) fun _=>?_
  rcases h14:QL w k w.tasks[k] w.p[k] with _ | _
  ·simp only[go_sem,h14,JJ (p:=fun k t=>QL w k t (w.p[k]?.getD 0)) hk' (by rw[e1]; exact h14)]
  ·exact AMP
 have hk':k=w.tasks.length:=by have:=hk.1; simp at h; omega
 subst hk'
 rw[TE hk]
 exact AI5
end Go.Proofs.YtnoldekcdlaahaaGreat
