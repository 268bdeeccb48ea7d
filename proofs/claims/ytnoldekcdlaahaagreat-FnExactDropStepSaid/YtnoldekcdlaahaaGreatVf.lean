/- A part. -/
import Derived.Test.YtnoldekcdlaahaaGreatVm
set_option linter.unusedSimpArgs false
set_option linter.unusedVariables false
set_option maxHeartbeats 8000000
set_option maxRecDepth 10000
open Go.Proofs.Tryz
namespace Go.Proofs.YtnoldekcdlaahaaGreat
open Go.Vm
section
variable {p q r:Prop}
theorem AE2(h:p:=by
 simp only[go_sem,F,ah,ag,G,dg1,dg2,dg3,dg4,ae]
 first | refine AAT _ (GK w.m[i] t.s) fun _=>?_ | (refine ABU ?_; simp only[go_sem,F,ah,ag,G,dg1,dg2,dg3,dg4,ae]; refine ACJ _ (GK w.m[i] t.s) ?_)
 simp only[go_sem,F,ah,ag,G,dg1,dg2,dg3,dg4,ae,hB]
 try simp only[go_sem,F,ah,ag,G,dg1,dg2,dg3,dg4,ae,eN,Q]
 first | refine AC4 (.c (.v (.int .i64 (EU (⟨w.c0,w.time,w.t,w.e,w.d,w.b,w.m.set i t.s,w.x,w.p,w.tasks,w.deeds⟩:DWorld) t.id)))) (InlS.bor (args':=[.agg (⟨w.c0,w.time,w.t,w.e,w.d,w.b,w.m.set i t.s,w.x,w.p,w.tasks,w.deeds⟩:DWorld).c,.c (.v (.int .i64 (t.id)))]) [.val (.c (.v (.int .i64 (EU (⟨w.c0,w.time,w.t,w.e,w.d,w.b,w.m.set i t.s,w.x,w.p,w.tasks,w.deeds⟩:DWorld) t.id))))] ⟨Oj (AO rfl (AQ _) (Ac _)) (AO rfl (Ba _) (Ci _)) (AO rfl (BG _) (DX _)) (AO rfl (AQ _) (Ac _)) (AO rfl (Bj _) (BZ _)) (AO rfl (AQ _) (Ac _)) (BorX.set rfl DTask.o_nr DTask.o_er fun x hx=>by have hx:w.tasks[n0]?=some x:=hx; rw[au hlt,hat] at hx; cases hx; exact La rfl hm) (AO rfl (Cc _) (Ai _)),.inl rfl,trivial⟩ rfl (Iu (⟨w.c0,w.time,w.t,w.e,w.d,w.b,w.m.set i t.s,w.x,w.p,w.tasks,w.deeds⟩:DWorld) t.id htl)) ?_ | refine ACy _ _ (InlS.bor (args':=[.agg (⟨w.c0,w.time,w.t,w.e,w.d,w.b,w.m.set i t.s,w.x,w.p,w.tasks,w.deeds⟩:DWorld).c,.c (.v (.int .i64 (t.id)))]) [.val (.c (.v (.int .i64 (EU (⟨w.c0,w.time,w.t,w.e,w.d,w.b,w.m.set i t.s,w.x,w.p,w.tasks,w.deeds⟩:DWorld) t.id))))] ⟨Oj (AO rfl (AQ _) (Ac _)) (AO rfl (Ba _) (Ci _)) (AO rfl (BG _) (DX _)) (AO rfl (AQ _) (Ac _)) (AO rfl (Bj _) (BZ _)) (AO rfl (AQ _) (Ac _)) (BorX.set rfl DTask.o_nr DTask.o_er fun x hx=>by have hx:w.tasks[n0]?=some x:=hx; rw[au hlt,hat] at hx; cases hx; exact La rfl hm) (AO rfl (Cc _) (Ai _)),.inl rfl,trivial⟩ rfl (Iu (⟨w.c0,w.time,w.t,w.e,w.d,w.b,w.m.set i t.s,w.x,w.p,w.tasks,w.deeds⟩:DWorld) t.id htl)) ?_
 simp only[go_sem,F,ah,ag,G,dg1,dg2,dg3,dg4,ae,eW,eN,Q]
 simp only[go_sem,F,ah,ag,G,dg1,dg2,dg3,dg4,ae,d0,eW,Q]
 first | refine' ACy _ _ (ACR (fn:=f247) call247 func247 rfl mixed ntmps247 results247 (by kernel_rfl) rfl fun m env=>?_) ?_ | (refine ABU ?_; simp only[go_sem,F,ah,ag,G,dg1,dg2,dg3,dg4,ae,Q]; refine' ACt _ _ (ACR (fn:=f247) call247 func247 rfl mixed ntmps247 results247 (by kernel_rfl) rfl fun m env=>?_) ?_)
 rotate_left 2
 ·simp only[go_sem,F,ah,ag,G,dg1,dg2,dg3,dg4,ae,Q]
  repeat (refine ABU ?_; simp only[go_sem,F,ah,ag,G,dg1,dg2,dg3,dg4,ae,Q])
  exact⟨rfl,rfl⟩
 simp only[go_sem,F,ah,ag,G,dg1,dg2,dg3,dg4,ae,Q]
 repeat (refine ABU ?_; simp only[go_sem,F,ah,ag,G,dg1,dg2,dg3,dg4,ae,Q])
 exact⟨rfl,rfl⟩):p:=h
theorem AQO(h:p:=by kernel_rfl):p:=h
end
theorem dM (w:DWorld) (k:Int) (hf:AX w):Ctr prog 10 [.agg w.c,.c (.v (.int .i64 (k)))] [.agg (MK w k).o,.val (.c (.v (.bool (NR w k 2))))]:=by
 refine ADq call10 func10 rfl mixed ntmps10 results10 AQO rfl fun hw=>?_
 simp only[go_sem]
 refine CW (LM w hf) fun _=>?_
 rcases h1:DY w with _ | _
 ·have e1:=O3 (k:=k) (op:=2) (.inl h1)
  simp only[go_sem,h1,e1,NS e1,aK]
  try refine ABU ?_
  try simp only[go_sem]
  refine CW (Di w hf) fun _=>?_
  simp only[go_sem]
  exact ALX
 simp only[go_sem,h1,aJ]
 refine AAT _ (AL k 0 2) fun _=>?_
 rcases h2:Aa k 0 2 with _ | _
 ·have e1:=O3 (w:=w) (op:=2) (.inr (.inl h2))
  simp only[go_sem,h2,e1,NS e1,aK]
  try refine ABU ?_
  try simp only[go_sem]
  refine CW (Di w hf) fun _=>?_
  simp only[go_sem]
  exact ALX
 simp only[go_sem,h2,aJ]
 refine ACK (fn:=f42) call42 func42 rfl mixed ntmps42 results42 AQO rfl ?_
 simp only[go_sem]
 refine CW (Di w hf) fun _=>?_
 simp only[go_sem]
 refine AAT [.val (.c (.v (.bool (NR w k 2))))] (by rw[← yw (op:=2) h1 h2]; simpa only[go_sem] using Ol w k 2 h1) fun _=>?_
 rcases e1:NR w k 2 with _ | _
 ·simp only[go_sem,e1,NS e1,aK]
  exact ALX
 obtain⟨n0,rfl,hn0⟩:=ZB h2 AOh
 have h3:(opAt w (n0:Int)==2)=true:=by simp only[NR,Wi,ay] at e1; exact e1.2.2.1
 obtain⟨n,hnn,hn,_,A⟩:=mO hf h1 h2 h3 AOq (.inr trivial)
 obtain rfl:n0=n:=AOh
 have e2:MK w (n0:Int)=Dj (CQ w n0 (Oe w n0)):=by simp[MK,e1]
 generalize Oe w (n0:Int)=t at *
 obtain⟨hlt,hlp,hat,hh,hh0,hth,hown,hsw,hop2,hok,hld,hlm,hlb,hlr,ht5⟩:=A
 obtain⟨m,hm⟩:∃ m:Nat,t.h=m:=⟨_,hh0⟩
 have htm:t.h.toNat=m:=by rw[hm]; rfl
 rw[htm] at hh
 simp only[htm] at hsw
 have hF:∀ row:List Cl,((w.tasks.map DTask.o).set n0 row)[n0]?=some row∧((w.deeds.map DDeed.o).set m row)[m]?=some row:=fun row=>⟨cO (by simpa using hlt),cO (by simpa using hh)⟩
 have F:n0<w.tasks.length∧n0<w.p.length∧(∀ f:DTask→List Cl,(w.tasks.map f)[n0]?=some (f t))∧((w.p.map intC)[n0]?=some [.v (.int .i64 w.p[n0])])∧(∀ x,(w.p.map intC).set n0 [.v (.int .i64 x)]=(w.p.set n0 x).map intC) ∧
  m<w.deeds.length∧(∀ f:DDeed→List Cl,(w.deeds.map f)[m]?=some (f w.deeds[m]))∧t.h=(m:Int)∧DTask.o t=_∧(∀ row:List Cl,((w.tasks.map DTask.o).set n0 row)[n0]?=some row)∧(∀ row:List Cl,((w.deeds.map DDeed.o).set m row)[m]?=some row)∧DDeed.o w.deeds[m]=_:=
  ⟨hlt,hlp,fun f=>by rw[AA f hlt,hat],AA intC hlp,fun x=>TT.symm,hh,fun f=>AA f hh,hm,DTask.o_eq t,fun row=>(hF row).1,fun row=>(hF row).2,DDeed.o_eq _⟩
 simp only[go_sem] at F
 have hst:∀ t':DTask,(w.tasks.map DTask.o).set n0 (DTask.o t')=(w.tasks.set n0 t').map DTask.o:=fun _=>TT.symm
 have hsd:∀ g:DDeed→DDeed,(w.deeds.map DDeed.o).set m (DDeed.o (g w.deeds[m]))=(w.deeds.modify m g).map DDeed.o:=fun g=>by rw[Dp g hh]; exact TT.symm
 simp only[go_sem,e1,e2,aJ]
 simp only[go_sem,F,ah,ag]
 have d00:decide ((0:Int)<0)=false:=rfl
 refine' ACy (.agg (l0 t).c) _ (ACR (fn:=f118) call118 func118 rfl mixed ntmps118 results118 AQO rfl fun m env=>?_) ?_
 rotate_left 1
 ·simp only[go_sem,F,ah,ag,d00,ae]
  rcases hz:decide ((0:Int)≥(t.l.length:Int)) with _ | _
  ·have hz1:0<t.l.length:=by have:=of_decide_eq_false hz; omega
   have hz2:(t.l.map DRef.c)[0]?=some (DRef.c (l0 t)):=by rw[AA _ hz1]; simp[l0,List.headD_eq_head?_getD,List.head?_eq_getElem?,hz1]
   simp only[go_sem] at hz2
   have hz3:Oo (.c (.v (.int .i64 (0))))=some 0:=Nc .i64 0
   simp only[go_sem,F,ah,ag,hz,hz1,hz2,hz3,ae]
   exact rfl
  ·have hz2:l0 t=⟨0,0,0,0,0⟩:=by have:=bZ hz; have e:=aai (show t.l.length=0 from AOh); simp[l0,e]
   rw[hz2]
   simp only[go_sem,F,ah,ag,hz]
   try exact rfl
 have dm0:decide ((m:Int)<0)=false:=AOi
 have dm1:decide ((m:Int)≥(w.deeds.length:Int))=false:=AOj
 simp only[go_sem,F,ah,ag]
 rcases p0:t.pc==0 with _ | _
 rotate_left
 ·have e9:t.pc=0:=by simpa using p0
  have ed:CQ w n0 t=Bh w n0 t:=AOt
  rw[ed]
  simp only[go_sem,F,ah,ag,p0]
  refine ACK (fn:=f119) call119 func119 rfl mixed ntmps119 results119 AQO rfl ?_
  simp only[go_sem,F,ah,ag]
  repeat (refine ABU ?_; simp only[go_sem,F,ah,ag])
  refine EndH.openR 10 n0 25 ?_
  simp only[openR,Bc,go_sem,F,ah]
  refine EndH.close 10 n0 [14,16,17,18,19] (row':=DTask.o (DV t 1)) rfl (hF _).1 rfl AOq ?_ ?_
  ·exact AIc
  simp only[Ar,EG,go_sem,F,ah]
  have hs1:=hst (DV t 1)
  try simp only[go_sem] at hs1
  simp only[go_sem,F,ah,hs1]
  exact AFT
 simp only[go_sem,F,ah,ag,p0]
 rcases p1:t.pc==1 with _ | _
 rotate_left
 ·have e9:t.pc=1:=by simpa using p1
  have ed:CQ w n0 t=(if decide (Ib w.d t.id<0)=true then codeW w n0 t 2 else setT w n0 (lT t [w.d.l.getD (Ib w.d t.id).toNat (l0 t)] 2)):=AOt
  rw[ed]
  simp only[go_sem,F,ah,ag,p1]
  refine AAm ?_
  simp only[go_sem,F,ah,ag]
  refine AC3 (args:=[.agg w.d.c,.c (.v (.int .i64 (t.id)))]) _ (by simp only[Ci,go_sem]) rfl (uA w.d t.id hlr) ?_
  rcases q1:decide (Ib w.d t.id<0) with _ | _
  ·obtain⟨j,hj,e4⟩:=rH (by simpa using q1)
   have hgj:(w.d.l.map DRef.c)[j]?=some (DRef.c w.d.l[j]):=AA DRef.c hj
   have e5:w.d.l.getD (Ib w.d t.id).toNat (l0 t)=w.d.l[j]:=by rw[e4]; simp[hj]
   rw[e5]
   simp only[go_sem,F,ah,ag,q1,e4,ae,hj,hgj]
   repeat (refine ABU ?_; simp only[go_sem,F,ah,ag,q1,e4,ae,hj,hgj])
   refine EndH.openR 10 n0 25 ?_
   simp only[openR,Bc,go_sem,F,ah]
   refine EndH.close 10 n0 [16,17,18,19,20] (row':=DTask.o (lT t [w.d.l[j]] 2)) rfl (hF _).1 rfl AOq ?_ ?_
   ·exact AIc
   simp only[Ar,EG,go_sem,F,ah]
   have hs1:=hst (lT t [w.d.l[j]] 2)
   try simp only[go_sem] at hs1
   simp only[go_sem,F,ah,hs1]
   exact AFT
  ·simp only[go_sem,F,ah,ag,q1]
   refine ACK (fn:=f121) call121 func121 rfl mixed ntmps121 results121 AQO rfl ?_
   simp only[go_sem,F,ah,ag]
   refine ACK (fn:=f240) call240 func240 rfl mixed ntmps240 results240 AQO rfl ?_
   simp only[go_sem,F,ah,ag]
   refine' ACy _ _ (ACR (fn:=f247) call247 func247 rfl mixed ntmps247 results247 AQO rfl fun m env=>?_) ?_
   rotate_left 2
   ·exact AJT
   simp only[go_sem,F,ah,ag,dm0,dm1,ae]
   repeat (refine ABU ?_; simp only[go_sem,F,ah,ag,dm0,dm1,ae])
   have hs2:=hsd (Cf w 2)
   simp only[DDeed.o_eq,Cf,Ry,IW,F,go_sem] at hs2
   simp only[go_sem,hs2]
   refine EndH.openR 10 n0 25 ?_
   simp only[openR,Bc,go_sem,F,ah]
   refine EndH.close 10 n0 [14,16,17,18,19] (row':=DTask.o (DV t 9)) rfl (hF _).1 rfl AOq ?_ ?_
   ·exact AIc
   simp only[Ar,EG,go_sem,F,ah]
   have hs1:=hst (DV t 9)
   try simp only[go_sem] at hs1
   simp only[go_sem,F,ah,hs1]
   exact AFT
 simp only[go_sem,F,ah,ag,p1]
 rcases p2:t.pc==2 with _ | _
 rotate_left
 ·have e9:t.pc=2:=by simpa using p2
  have ed:CQ w n0 t=(if(insOf w (l0 t) t.id==0)=true then codeW w n0 t 2 else setT w n0 (DV t (if(insOf w (l0 t) t.id == -1)=true then 3 else 5))):=AOt
  rw[ed]
  obtain⟨r,hl1,hthr,hcr,hidm,hk34⟩:=Ie hsw hth hop2 APZ
  have el0:l0 t=r:=by simp[l0,hl1]
  rw[el0]
  simp only[go_sem,F,ah,ag,p2,el0]
  refine ABU ?_
  simp only[go_sem,F,ah,ag,el0]
  refine ACt _ _ (InlS.bor (args':=[.agg w.c,.agg r.c,.c (.v (.int .i64 (t.id)))]) [.val (.c (.v (.int .i64 (insOf w r t.id))))] ⟨Oj (AO rfl (AQ _) (Ac _)) (AO rfl (Ba _) (Ci _)) (AO rfl (BG _) (DX _)) (AO rfl (AQ _) (Ac _)) (AO rfl (Bj _) (BZ _)) (AO rfl (AQ _) (Ac _)) (BorX.set rfl DTask.o_nr DTask.o_er fun x hx=>by rw[au hlt,hat] at hx; cases hx; exact La rfl hm) (AO rfl (Cc _) (Ai _)),Jt r,.inl rfl,trivial⟩ rfl (uO w r t.id hf hcr)) ?_
  simp only[go_sem,F,ah,ag,el0]
  rcases q1:insOf w r t.id==0 with _ | _
  rotate_left
  ·simp only[go_sem,F,ah,ag,q1]
   refine ACK (fn:=f121) call121 func121 rfl mixed ntmps121 results121 AQO rfl ?_
   simp only[go_sem,F,ah,ag]
   refine ACK (fn:=f240) call240 func240 rfl mixed ntmps240 results240 AQO rfl ?_
   simp only[go_sem,F,ah,ag]
   refine' ACy _ _ (ACR (fn:=f247) call247 func247 rfl mixed ntmps247 results247 AQO rfl fun m env=>?_) ?_
   rotate_left 2
   ·exact AJT
   simp only[go_sem,F,ah,ag,dm0,dm1,ae]
   repeat (refine ABU ?_; simp only[go_sem,F,ah,ag,dm0,dm1,ae])
   have hs2:=hsd (Cf w 2)
   simp only[DDeed.o_eq,Cf,Ry,IW,F,go_sem] at hs2
   simp only[go_sem,hs2]
   refine EndH.openR 10 n0 25 ?_
   simp only[openR,Bc,go_sem,F,ah]
   refine EndH.close 10 n0 [14,16,17,18,19] (row':=DTask.o (DV t 9)) rfl (hF _).1 rfl AOq ?_ ?_
   ·exact AIc
   simp only[Ar,EG,go_sem,F,ah]
   have hs1:=hst (DV t 9)
   try simp only[go_sem] at hs1
   simp only[go_sem,F,ah,hs1]
   exact AFT
  simp only[go_sem,F,ah,ag,q1]
  rcases q2:insOf w r t.id == -1 with _ | _
  ·simp only[go_sem,F,ah,ag,q2]
   repeat (refine ABU ?_; simp only[go_sem,F,ah,ag])
   refine EndH.openR 10 n0 25 ?_
   simp only[openR,Bc,go_sem,F,ah]
   refine EndH.close 10 n0 [14,16,17,18,19] (row':=DTask.o (DV t 5)) rfl (hF _).1 rfl AOq ?_ ?_
   ·exact AIc
   simp only[Ar,EG,go_sem,F,ah]
   have hs1:=hst (DV t 5)
   try simp only[go_sem] at hs1
   simp only[go_sem,F,ah,hs1]
   exact AFT
  ·simp only[go_sem,F,ah,ag,q2]
   repeat (refine ABU ?_; simp only[go_sem,F,ah,ag])
   refine EndH.openR 10 n0 25 ?_
   simp only[openR,Bc,go_sem,F,ah]
   refine EndH.close 10 n0 [14,16,17,18,19] (row':=DTask.o (DV t 3)) rfl (hF _).1 rfl AOq ?_ ?_
   ·exact AIc
   simp only[Ar,EG,go_sem,F,ah]
   have hs1:=hst (DV t 3)
   try simp only[go_sem] at hs1
   simp only[go_sem,F,ah,hs1]
   exact AFT
 simp only[go_sem,F,ah,ag,p2]
 rcases p3:t.pc==3 with _ | _
 rotate_left
 ·have e9:t.pc=3:=by simpa using p3
  have ed:CQ w n0 t=setT w n0 (Ag w t 4):=AOt
  rw[ed]
  simp only[go_sem,F,ah,ag,p3]
  refine ACK (fn:=f123) call123 func123 rfl mixed ntmps123 results123 AQO rfl ?_
  simp only[go_sem,F,ah,ag]
  repeat (refine ABU ?_; simp only[go_sem,F,ah,ag])
  refine EndH.openR 10 n0 25 ?_
  simp only[openR,Bc,go_sem,F,ah]
  refine EndH.close 10 n0 [14,16,17,18,19] (row':=DTask.o (Ag w t 4)) rfl (hF _).1 rfl AOq ?_ ?_
  ·exact AIc
  simp only[Ar,EG,go_sem,F,ah]
  have hs1:=hst (Ag w t 4)
  try simp only[go_sem] at hs1
  simp only[go_sem,F,ah,hs1]
  exact AFT
 simp only[go_sem,F,ah,ag,p3]
 rcases p4:t.pc==4 with _ | _
 rotate_left
 ·have e9:t.pc=4:=by simpa using p4
  have ed:CQ w n0 t=setT (Dw w (l0 t) t.id t.s t.at0) n0 (DV t 5):=AOt
  rw[ed]
  obtain⟨r,hl1,hthr,hcr,hidm,hk34⟩:=Ie hsw hth hop2 APZ
  have el0:l0 t=r:=by simp[l0,hl1]
  rw[el0]
  have hkind:=hk34 APZ
  obtain⟨c1,c2,c3⟩:=Gz hcr
  obtain⟨q,hq,hb,hbat⟩ | ⟨_,hbat⟩:=DR w r.buf
  rotate_left
  ·simp only[there,hbat] at hthr; cases hthr
  obtain⟨j,hj⟩:=aO (show 0≤t.id-r.first from AOh)
  obtain⟨c4,c5⟩:=c3 AOh
  have c6:IntKind.i64.wrap (t.id-r.first)=(j:Int):=c4.trans hj
  rw[hj] at c5
  have hid:IntKind.i64.wrap (r.first+(j:Int))=t.id:=by rw[← hj,wrap_i64 AOh AOh]; omega
  have hblen:(w.b[q].c0.l.length:Int)=r.many:=uP hthr hkind hbat
  have hjl:j<w.b[q].c0.l.length:=AOh
  have hkne:(r.kind != 1)=false:=by simp only[bne,hkind,aJ]
  have hins:YA w r t.id=w.b[q].c0.l[j].ins:=by simp only[YA,hbat,hj,bH]; simp[hjl]
  have G:(r.kind != 1)=false∧Oo (.c (.v (.int .i64 (r.buf))))=some q∧q<w.b.length∧(∀ f:DBuf→List Cl,(w.b.map f)[q]?=some (f w.b[q]))∧(∀ row:List Cl,((w.b.map DBuf.o).set q row)[q]?=some row)∧IntKind.i64.wrap (t.id-r.first)=(j:Int)∧IntKind.i64.wrap (r.first+(j:Int))=t.id:=⟨hkne,by rw[hb]; exact Nc .i64 q,hq,fun f=>AA f hq,fun row=>cO APc,c6,hid⟩
  have hch:Bl w r=(w.b[q].c0,true):=by simp only[Bl,hbat,hkind,aj]; simp only[there,hbat] at hthr; simp[hthr]
  have hcj:(IntKind.i64.wrap (t.id-r.first))=(j:Int):=c6
  simp only[go_sem,F,ah,ag,p4,el0]
  first | refine ABU ?_ | skip
  simp only[go_sem,F,ah,ag,G,ae,el0]
  rcases hB:Jr w.b[q].c0.l[j].ins t.s with _ | _
  ·refine' ACt _ _ (ACR (fn:=f124) call124 func124 rfl mixed ntmps124 results124 AQO rfl fun m env=>?_) ?_
   rotate_left 2
   ·simp only[go_sem,F,ah,ag,G,ae,el0]
    refine DrawK.headE (x:=some (8,4)) (Head.openR 6 q 5 0 _) AQO AQO ?_ AQO
    simp only[openR,Bc,go_sem,F,G,el0,ah,ag]
    refine' ACt _ _ (ACR (fn:=f154) call154 func154 rfl mixed ntmps154 results154 AQO rfl fun m env=>?_) ?_
    rotate_left 2
    ·exact AE1
    simp only[go_sem,F,ah,ag,G,ae,el0]
    first | refine ACw (args:=[.agg w.b[q].c0.c,.c (.v (.int .i64 (j))),.c (.v (.int .i64 (t.s)))]) _ APA AO5 (Fz w.b[q].c0 j t.s (IL hf hq).1 hjl) fun _=>?_ | (refine ABU ?_; simp only[go_sem,F,ah,ag,G,ae,el0]; refine AC2 (args:=[.agg w.b[q].c0.c,.c (.v (.int .i64 (j))),.c (.v (.int .i64 (t.s)))]) _ APA AO5 (Fz w.b[q].c0 j t.s (IL hf hq).1 hjl) ?_)
    refine AOf ?_
    exact AMi
   have eS:Dw w r t.id t.s t.at0=w:=by simp only[Dw,Zc,hins,hB]; rfl
   rw[eS]
   simp only[go_sem,F,ah,ag,G,ae,el0]
   repeat (refine ABU ?_; simp only[go_sem,F,ah,ag,G,el0])
   refine EndH.openR 10 n0 25 ?_
   simp only[openR,Bc,go_sem,F,ah]
   refine EndH.close 10 n0 [14,25,26,27,28] (row':=DTask.o (DV t 5)) rfl (hF _).1 rfl AOq ?_ ?_
   ·exact AIc
   simp only[Ar,EG,go_sem,F,ah]
   have hs1:=hst (DV t 5)
   try simp only[go_sem] at hs1
   simp only[go_sem,F,ah,hs1]
   refine EndH.close 6 q [17,18] (row':=DBuf.o (w.b[q])) rfl (cO APc) rfl AOq ?_ ?_
   ·exact AMS
   simp only[Ar,EG,go_sem,F,ah]
   have hs3:(w.b.map DBuf.o).set q (DBuf.o w.b[q])=w.b.map DBuf.o:=by rw[← TT,List.set_getElem_self]
   simp only[go_sem] at hs3
   simp only[go_sem,F,ah,hs1,hs3]
   exact AFT
  have hsb:=(TT (f:=DBuf.o) (l:=w.b) (i:=q) (a:=D6 j t.s w.b[q])).symm
  simp only[go_sem] at hsb
  have hq1:r.buf.toNat=q:=by rw[hb]; rfl
  have hj1:(t.id-r.first).toNat=j:=by rw[hj]; rfl
  rcases hP:decide (OH w.deeds t.id<0) with _ | _
  ·obtain⟨x,hx,e5⟩:=rG (by simpa using hP)
   have Q:OH w.deeds t.id=(x:Int)∧x<w.deeds.length∧(∀ f:DDeed→List Cl,(w.deeds.map f)[x]?=some (f w.deeds[x]))∧(∀ row:List Cl,((w.deeds.map DDeed.o).set x row)[x]?=some row):=⟨e5,hx,fun f=>AA f hx,fun row=>cO (by simpa using hx)⟩
   have d0:decide ((x:Int)≥0)=true:=AOi
   have hx0:¬ ((x:Int)<0):=AOh
   have eS:Dw w r t.id t.s t.at0=⟨w.c0,w.time,w.t,w.e,w.d,w.b.set q (D6 j t.s w.b[q]),w.m,w.x,w.p,w.tasks,w.deeds.modify x (IW t.s t.at0)⟩:=by simp only[Dw,Zc,hins,hB,hq1,hj1,e5,O1,bH,Dp _ hq]; simp[hx0]
   rw[eS]
   refine' ACt _ _ (ACR (fn:=f124) call124 func124 rfl mixed ntmps124 results124 AQO rfl fun m env=>?_) ?_
   rotate_left 2
   ·simp only[go_sem,F,ah,ag,G,ae,el0]
    refine DrawK.headE (x:=some (8,4)) (Head.openR 6 q 5 0 _) AQO AQO ?_ AQO
    simp only[openR,Bc,go_sem,F,G,el0,ah,ag]
    refine' ACt _ _ (ACR (fn:=f154) call154 func154 rfl mixed ntmps154 results154 AQO rfl fun m env=>?_) ?_
    rotate_left 2
    ·exact AE1
    simp only[go_sem,F,ah,ag,G,ae,el0]
    first | refine ACw (args:=[.agg w.b[q].c0.c,.c (.v (.int .i64 (j))),.c (.v (.int .i64 (t.s)))]) _ APA AO5 (Fz w.b[q].c0 j t.s (IL hf hq).1 hjl) fun _=>?_ | (refine ABU ?_; simp only[go_sem,F,ah,ag,G,ae,el0]; refine AC2 (args:=[.agg w.b[q].c0.c,.c (.v (.int .i64 (j))),.c (.v (.int .i64 (t.s)))]) _ APA AO5 (Fz w.b[q].c0 j t.s (IL hf hq).1 hjl) ?_)
    refine AOf ?_
    repeat (refine ABU ?_; simp only[go_sem,F,ah,ag,G,ae,el0])
    first | refine ACw (args:=[.c (.sl (w.deeds.map DDeed.c)),.c (.v (.int .i64 (t.id)))]) _ AO3 rfl (Jd w.deeds t.id hld) fun _=>?_ | refine AC2 (args:=[.c (.sl (w.deeds.map DDeed.c)),.c (.v (.int .i64 (t.id)))]) _ AO3 rfl (Jd w.deeds t.id hld) ?_ | refine AC3 (args:=[.c (.sl (w.deeds.map DDeed.c)),.c (.v (.int .i64 (t.id)))]) _ AO3 rfl (Jd w.deeds t.id hld) ?_
    simp only[go_sem,F,ah,ag,G,ae,el0,Q,d0]
    repeat (refine ABU ?_; simp only[go_sem,F,ah,ag,G,ae,el0,Q,d0])
    exact AMi
   simp only[go_sem,F,ah,ag,G,ae,el0,Q]
   repeat (refine ABU ?_; simp only[go_sem,F,ah,ag,G,el0])
   refine EndH.openR 10 n0 25 ?_
   simp only[openR,Bc,go_sem,F,ah]
   refine EndH.close 10 n0 [14,25,26,27,28] (row':=DTask.o (DV t 5)) rfl (hF _).1 rfl AOq ?_ ?_
   ·exact AIc
   simp only[Ar,EG,go_sem,F,ah]
   have hs1:=hst (DV t 5)
   try simp only[go_sem] at hs1
   simp only[go_sem,F,ah,hs1]
   refine EndH.close 6 q [23,18] (row':=DBuf.o (D6 j t.s w.b[q])) rfl (cO APc) rfl AOq ?_ ?_
   ·exact AMS
   simp only[Ar,EG,go_sem,F,ah]
   have hs2:(w.deeds.map DDeed.o).set x (DDeed.o (IW t.s t.at0 w.deeds[x]))=(w.deeds.modify x (IW t.s t.at0)).map DDeed.o:=by rw[Dp _ hx]; exact TT.symm
   simp only[DDeed.o_eq,IW,go_sem] at hs2
   simp only[go_sem,F,ah,hs1,hsb,hs2]
   exact AFT
  ·have eS:Dw w r t.id t.s t.at0=⟨w.c0,w.time,w.t,w.e,w.d,w.b.set q (D6 j t.s w.b[q]),w.m,w.x,w.p,w.tasks,w.deeds⟩:=by simp only[Dw,Zc,hins,hB,hq1,hj1,O1,Dp _ hq,aX,bu (bZ hP)]
   rw[eS]
   have d0:decide (OH w.deeds t.id≥0)=false:=by simp at hP ⊢; omega
   refine' ACt _ _ (ACR (fn:=f124) call124 func124 rfl mixed ntmps124 results124 AQO rfl fun m env=>?_) ?_
   rotate_left 2
   ·simp only[go_sem,F,ah,ag,G,ae,el0]
    refine DrawK.headE (x:=some (8,4)) (Head.openR 6 q 5 0 _) AQO AQO ?_ AQO
    simp only[openR,Bc,go_sem,F,G,el0,ah,ag]
    refine' ACt _ _ (ACR (fn:=f154) call154 func154 rfl mixed ntmps154 results154 AQO rfl fun m env=>?_) ?_
    rotate_left 2
    ·exact AE1
    simp only[go_sem,F,ah,ag,G,ae,el0]
    first | refine ACw (args:=[.agg w.b[q].c0.c,.c (.v (.int .i64 (j))),.c (.v (.int .i64 (t.s)))]) _ APA AO5 (Fz w.b[q].c0 j t.s (IL hf hq).1 hjl) fun _=>?_ | (refine ABU ?_; simp only[go_sem,F,ah,ag,G,ae,el0]; refine AC2 (args:=[.agg w.b[q].c0.c,.c (.v (.int .i64 (j))),.c (.v (.int .i64 (t.s)))]) _ APA AO5 (Fz w.b[q].c0 j t.s (IL hf hq).1 hjl) ?_)
    refine AOf ?_
    repeat (refine ABU ?_; simp only[go_sem,F,ah,ag,G,ae,el0])
    first | refine ACw (args:=[.c (.sl (w.deeds.map DDeed.c)),.c (.v (.int .i64 (t.id)))]) _ AO3 rfl (Jd w.deeds t.id hld) fun _=>?_ | refine AC2 (args:=[.c (.sl (w.deeds.map DDeed.c)),.c (.v (.int .i64 (t.id)))]) _ AO3 rfl (Jd w.deeds t.id hld) ?_ | refine AC3 (args:=[.c (.sl (w.deeds.map DDeed.c)),.c (.v (.int .i64 (t.id)))]) _ AO3 rfl (Jd w.deeds t.id hld) ?_
    simp only[go_sem,F,ah,ag,G,ae,el0,d0]
    exact AMi
   simp only[go_sem,F,ah,ag,G,ae,el0]
   repeat (refine ABU ?_; simp only[go_sem,F,ah,ag,G,el0])
   refine EndH.openR 10 n0 25 ?_
   simp only[openR,Bc,go_sem,F,ah]
   refine EndH.close 10 n0 [14,25,26,27,28] (row':=DTask.o (DV t 5)) rfl (hF _).1 rfl AOq ?_ ?_
   ·exact AIc
   simp only[Ar,EG,go_sem,F,ah]
   have hs1:=hst (DV t 5)
   try simp only[go_sem] at hs1
   simp only[go_sem,F,ah,hs1]
   refine EndH.close 6 q [23,18] (row':=DBuf.o (D6 j t.s w.b[q])) rfl (cO APc) rfl AOq ?_ ?_
   ·exact AMS
   simp only[Ar,EG,go_sem,F,ah]
   simp only[go_sem,F,ah,hs1,hsb]
   exact AFT
 simp only[go_sem,F,ah,ag,p4]
 rcases p5:t.pc==5 with _ | _
 rotate_left
 ·have e9:t.pc=5:=by simpa using p5
  have ed:CQ w n0 t=(if(IB w t.id==0)=true then BM w n0 t else if(IB w t.id == -1)=true then setT w n0 (DV t 6) else codeW w n0 t 2):=AOt
  rw[ed]
  obtain⟨r,hl1,hthr,hcr,hidm,hk34⟩:=Ie hsw hth hop2 APZ
  obtain⟨i,hi⟩:∃ i:Nat,t.id=i:=APE
  have him:i<w.m.length:=AOh
  have hmk:IB w t.id=w.m[i]:=AP9
  have hit:t.id.toNat=i:=by rw[hi]; rfl
  have dg1:decide (t.id≥0)=true:=by rw[hi]; simp
  have dg2:decide (t.id<(w.m.length:Int))=true:=AOj
  have dg3:decide (t.id<0)=false:=by rw[hi]; simp
  have dg4:decide (t.id≥(w.m.length:Int))=false:=AOj
  have G:Oo (.c (.v (.int .i64 (t.id))))=some i∧i<w.m.length∧(w.m.map intC)[i]?=some [.v (.int .i64 w.m[i])]∧(∀ x,(w.m.map intC).set i [.v (.int .i64 x)]=(w.m.set i x).map intC):=⟨AP0,him,AA intC him,fun x=>TT.symm⟩
  simp only[go_sem,F,ah,ag,p5]
  refine ACK (fn:=f125) call125 func125 rfl mixed ntmps125 results125 AQO rfl ?_
  simp only[go_sem,F,ah,ag]
  refine ABU ?_
  simp only[go_sem,F,ah,ag]
  refine ACt _ _ (InlS.bor (args':=[.agg w.c,.c (.v (.int .i64 (t.id)))]) [.val (.c (.v (.int .i64 (IB w t.id))))] ⟨Oj (AO rfl (AQ _) (Ac _)) (AO rfl (Ba _) (Ci _)) (AO rfl (BG _) (DX _)) (AO rfl (AQ _) (Ac _)) (AO rfl (Bj _) (BZ _)) (AO rfl (AQ _) (Ac _)) (BorX.set rfl DTask.o_nr DTask.o_er fun x hx=>by rw[au hlt,hat] at hx; cases hx; exact La rfl hm) (AO rfl (Cc _) (Ai _)),.inl rfl,trivial⟩ rfl (mM w t.id hlm)) ?_
  rw[hmk]
  simp only[go_sem,F,ah,ag]
  rcases q1:w.m[i]==0 with _ | _
  rotate_left
  ·simp only[go_sem,F,ah,ag,G,dg1,dg2,dg3,dg4,ae,q1]
   repeat (refine ABU ?_; simp only[go_sem,F,ah,ag,G,dg1,dg2,dg3,dg4,ae,q1])
   refine EndH.openR 10 n0 25 ?_
   simp only[openR,Bc,go_sem,F,ah]
   refine EndH.close 10 n0 [14,16,17,18,19] (row':=DTask.o (DU t 6)) rfl (hF _).1 rfl AOq ?_ ?_
   ·exact AIc
   simp only[Ar,EG,go_sem,F,ah]
   have hs1:=hst (DU t 6)
   try simp only[go_sem] at hs1
   simp only[go_sem,F,ah,hs1]
   have hc1:BM w n0 t=⟨w.c0,w.time,w.t,w.e,w.d,w.b,w.m.set i (-1),w.x,w.p,w.tasks.set n0 (DU t 6),w.deeds⟩:=by simp only[BM,hit]
   simp only[hc1]
   exact AFT
  simp only[go_sem,F,ah,ag,q1]
  rcases q2:w.m[i] == -1 with _ | _
  ·simp only[go_sem,F,ah,ag,q2]
   refine ACK (fn:=f121) call121 func121 rfl mixed ntmps121 results121 AQO rfl ?_
   simp only[go_sem,F,ah,ag]
   refine ACK (fn:=f240) call240 func240 rfl mixed ntmps240 results240 AQO rfl ?_
   simp only[go_sem,F,ah,ag]
   refine' ACy _ _ (ACR (fn:=f247) call247 func247 rfl mixed ntmps247 results247 AQO rfl fun m env=>?_) ?_
   rotate_left 2
   ·exact AJT
   simp only[go_sem,F,ah,ag,dm0,dm1,ae]
   repeat (refine ABU ?_; simp only[go_sem,F,ah,ag,dm0,dm1,ae])
   have hs2:=hsd (Cf w 2)
   simp only[DDeed.o_eq,Cf,Ry,IW,F,go_sem] at hs2
   simp only[go_sem,hs2]
   refine EndH.openR 10 n0 25 ?_
   simp only[openR,Bc,go_sem,F,ah]
   refine EndH.close 10 n0 [14,16,17,18,19] (row':=DTask.o (DV t 9)) rfl (hF _).1 rfl AOq ?_ ?_
   ·exact AIc
   simp only[Ar,EG,go_sem,F,ah]
   have hs1:=hst (DV t 9)
   try simp only[go_sem] at hs1
   simp only[go_sem,F,ah,hs1]
   exact AFT
  ·simp only[go_sem,F,ah,ag,q2]
   repeat (refine ABU ?_; simp only[go_sem,F,ah,ag])
   refine EndH.openR 10 n0 25 ?_
   simp only[openR,Bc,go_sem,F,ah]
   refine EndH.close 10 n0 [14,16,17,18,19] (row':=DTask.o (DV t 6)) rfl (hF _).1 rfl AOq ?_ ?_
   ·exact AIc
   simp only[Ar,EG,go_sem,F,ah]
   have hs1:=hst (DV t 6)
   try simp only[go_sem] at hs1
   simp only[go_sem,F,ah,hs1]
   exact AFT
 simp only[go_sem,F,ah,ag,p5]
 rcases p6:t.pc==6 with _ | _
 rotate_left
 ·have e9:t.pc=6:=by simpa using p6
  have ed:CQ w n0 t=setT w n0 (Ag w t 7):=AOt
  rw[ed]
  simp only[go_sem,F,ah,ag,p6]
  refine ACK (fn:=f123) call123 func123 rfl mixed ntmps123 results123 AQO rfl ?_
  simp only[go_sem,F,ah,ag]
  repeat (refine ABU ?_; simp only[go_sem,F,ah,ag])
  refine EndH.openR 10 n0 25 ?_
  simp only[openR,Bc,go_sem,F,ah]
  refine EndH.close 10 n0 [14,16,17,18,19] (row':=DTask.o (Ag w t 7)) rfl (hF _).1 rfl AOq ?_ ?_
  ·exact AIc
  simp only[Ar,EG,go_sem,F,ah]
  have hs1:=hst (Ag w t 7)
  try simp only[go_sem] at hs1
  simp only[go_sem,F,ah,hs1]
  exact AFT
 simp only[go_sem,F,ah,ag,p6]
 rcases p7:t.pc==7 with _ | _
 rotate_left
 ·have e9:t.pc=7:=by simpa using p7
  have ed:CQ w n0 t=(if t.won=true then setT (CP w t.id t.s t.at0) n0 (DV t 9) else codeW (CP w t.id t.s t.at0) n0 t 2):=AOt
  rw[ed]
  obtain⟨r,hl1,hthr,hcr,hidm,hk34⟩:=Ie hsw hth hop2 APZ
  obtain⟨i,hi⟩:∃ i:Nat,t.id=i:=APE
  have him:i<w.m.length:=AOh
  have hmk:IB w t.id=w.m[i]:=AP9
  have hit:t.id.toNat=i:=by rw[hi]; rfl
  have dg1:decide (t.id≥0)=true:=by rw[hi]; simp
  have dg2:decide (t.id<(w.m.length:Int))=true:=AOj
  have dg3:decide (t.id<0)=false:=by rw[hi]; simp
  have dg4:decide (t.id≥(w.m.length:Int))=false:=AOj
  have G:Oo (.c (.v (.int .i64 (t.id))))=some i∧i<w.m.length∧(w.m.map intC)[i]?=some [.v (.int .i64 w.m[i])]∧(∀ x,(w.m.map intC).set i [.v (.int .i64 x)]=(w.m.set i x).map intC):=⟨AP0,him,AA intC him,fun x=>TT.symm⟩
  have htl:w.tasks.length≤1048576:=AOh
  simp only[go_sem,F,ah,ag,p7]
  first | refine ABU ?_ | skip
  simp only[go_sem,F,ah,ag,G,dg1,dg2,dg3,dg4,ae]
  rcases hB:Jr w.m[i] t.s with _ | _
  ·refine' ACt _ _ (ACR (fn:=f126) call126 func126 rfl mixed ntmps126 results126 AQO rfl fun m env=>?_) ?_
   rotate_left 2
   ·simp only[go_sem,F,ah,ag,G,dg1,dg2,dg3,dg4,ae]
    first | refine AAT _ (GK w.m[i] t.s) fun _=>?_ | (refine ABU ?_; simp only[go_sem,F,ah,ag,G,dg1,dg2,dg3,dg4,ae]; refine ACJ _ (GK w.m[i] t.s) ?_)
    simp only[go_sem,F,ah,ag,G,dg1,dg2,dg3,dg4,ae,hB]
    exact AMi
   have eS:CP w t.id t.s t.at0=w:=by simp only[CP,hmk,hB]; rfl
   rw[eS]
   simp only[go_sem,F,ah,ag,G,dg1,dg2,dg3,dg4,ae]
   rcases q3:t.won with _ | _
   ·simp only[go_sem,F,ah,ag,G,dg1,dg2,dg3,dg4,ae,q3]
    refine ACK (fn:=f121) call121 func121 rfl mixed ntmps121 results121 AQO rfl ?_
    simp only[go_sem,F,ah,ag]
    refine ACK (fn:=f240) call240 func240 rfl mixed ntmps240 results240 AQO rfl ?_
    simp only[go_sem,F,ah,ag]
    refine' ACy _ _ (ACR (fn:=f247) call247 func247 rfl mixed ntmps247 results247 AQO rfl fun m env=>?_) ?_
    rotate_left 2
    ·exact AJT
    simp only[go_sem,F,ah,ag,dm0,dm1,ae]
    repeat (refine ABU ?_; simp only[go_sem,F,ah,ag,dm0,dm1,ae])
    have hs2:=hsd (Cf w 2)
    simp only[DDeed.o_eq,Cf,Ry,IW,F,go_sem] at hs2
    simp only[go_sem,hs2]
    exact AE0
   ·simp only[go_sem,F,ah,ag,G,dg1,dg2,dg3,dg4,ae,q3]
    repeat (refine ABU ?_; simp only[go_sem,F,ah,ag,G,dg1,dg2,dg3,dg4,ae,q3])
    exact AE0
  have eN:P5 w.m[i] t.s=t.s:=by simp only[Jr] at hB; simp only[P5,hB,aX]
  have eW:EU (⟨w.c0,w.time,w.t,w.e,w.d,w.b,w.m.set i t.s,w.x,w.p,w.tasks,w.deeds⟩:DWorld) t.id=EU w t.id:=rfl
  rcases hP:decide (EU w t.id<0) with _ | _
  ·obtain⟨x,hx,e5,hxo,hxw⟩:=jr (by simpa using hP)
   obtain⟨y,hy,e6,hyk⟩:=SL h1 hx (by rw[hxo]; decide)
   by_cases hxn:x=n0
   ·subst x
    have hym:y=m:=by rw[hat,hm] at e6; omega
    subst y
    have q3:t.won=true:=by rw[← hat]; exact hxw
    have d0:decide ((n0:Int)≥0)=true:=AOi
    have hoH:NQ w t.id=(m:Int):=by simp[NQ,e5,hx,e6]
    have Q:EU w t.id=(n0:Int)∧m<w.deeds.length∧(∀ f:DDeed→List Cl,(w.deeds.map f)[m]?=some (f w.deeds[m]))∧(∀ row:List Cl,((w.deeds.map DDeed.o).set m row)[m]?=some row)∧decide ((m:Int)<0)=false∧decide ((m:Int)≥(w.deeds.length:Int))=false:=⟨e5,hy,fun f=>AA f hy,fun row=>cO (by simpa using hy),AOi,AOj⟩
    skip
    have hs4:(w.deeds.map DDeed.o).set m (DDeed.o (IW t.s t.at0 w.deeds[m]))=(w.deeds.modify m (IW t.s t.at0)).map DDeed.o:=by rw[Dp _ hy]; exact TT.symm
    simp only[DDeed.o_eq,IW,go_sem,F] at hs4
    obtain⟨D,hD⟩:∃ D,D=w.deeds.modify m (IW t.s t.at0):=⟨_,rfl⟩
    rw[← hD] at hs4
    have eS:CP w t.id t.s t.at0=⟨w.c0,w.time,w.t,w.e,w.d,w.b,w.m.set i t.s,w.x,w.p,w.tasks,D⟩:=APB
    rw[eS]
    refine' ACt _ _ (ACR (fn:=f126) call126 func126 rfl mixed ntmps126 results126 AQO rfl fun m env=>?_) ?_
    rotate_left 2
    ·exact AE2
    simp only[go_sem,F,ah,ag,G,dg1,dg2,dg3,dg4,ae,Q,hs4]
    simp only[go_sem,F,ah,ag,G,dg1,dg2,dg3,dg4,ae,q3]
    repeat (refine ABU ?_; simp only[go_sem,F,ah,ag,G,dg1,dg2,dg3,dg4,ae,q3])
    exact AE0
   have d0:decide ((x:Int)≥0)=true:=AOi
   have hoH:NQ w t.id=(y:Int):=by simp[NQ,e5,hx,e6]
   have Q:EU w t.id=(x:Int)∧y<w.deeds.length∧(∀ f:DDeed→List Cl,(w.deeds.map f)[y]?=some (f w.deeds[y]))∧(∀ row:List Cl,((w.deeds.map DDeed.o).set y row)[y]?=some row)∧decide ((y:Int)<0)=false∧decide ((y:Int)≥(w.deeds.length:Int))=false∧x<w.tasks.length∧(∀ row:List Cl,((w.tasks.map DTask.o).set n0 row)[x]?=some (DTask.o w.tasks[x]))∧w.tasks[x].h=(y:Int):=⟨e5,hy,fun f=>AA f hy,fun row=>cO (by simpa using hy),AOi,AOj,hx,fun row=>by rw[List.getElem?_set_ne (Ne.symm hxn)]; exact AA DTask.o hx,e6⟩
   simp only[DTask.o_eq,go_sem] at Q
   have hs4:(w.deeds.map DDeed.o).set y (DDeed.o (IW t.s t.at0 w.deeds[y]))=(w.deeds.modify y (IW t.s t.at0)).map DDeed.o:=by rw[Dp _ hy]; exact TT.symm
   simp only[DDeed.o_eq,IW,go_sem,F] at hs4
   obtain⟨D,hD⟩:∃ D,D=w.deeds.modify y (IW t.s t.at0):=⟨_,rfl⟩
   rw[← hD] at hs4
   have eS:CP w t.id t.s t.at0=⟨w.c0,w.time,w.t,w.e,w.d,w.b,w.m.set i t.s,w.x,w.p,w.tasks,D⟩:=APB
   rw[eS]
   refine' ACt _ _ (ACR (fn:=f126) call126 func126 rfl mixed ntmps126 results126 AQO rfl fun m env=>?_) ?_
   rotate_left 2
   ·exact AE2
   simp only[go_sem,F,ah,ag,G,dg1,dg2,dg3,dg4,ae,Q,hs4]
   rcases q3:t.won with _ | _
   ·have hym:y≠m:=by
     intro e
     subst e
     obtain⟨y0,hy0,f1,f2⟩:=SL h1 hlt (by rw[hat,hop2]; decide)
     have f3:y0=y:=by rw[hat,hm] at f1; omega
     subst f3
     exact hxn (by rw[f2] at hyk; omega)
    have hDlen:D.length=w.deeds.length:=by rw[hD]; simp
    have hDl:m<D.length:=AOh
    have hDe:D[m]=w.deeds[m]:=by simp only[hD,List.getElem_modify,hym,aW]
    have hDs:(D.map DDeed.o).set m (DDeed.o (Cf w 2 w.deeds[m]))=(D.modify m (Cf w 2)).map DDeed.o:=by rw[Dp _ hDl,hDe]; exact TT.symm
    simp only[DDeed.o_eq,Cf,Ry,IW,F,go_sem] at hDs
    have Q2:D.length=w.deeds.length∧decide ((m:Int)<0)=false∧decide ((m:Int)≥(w.deeds.length:Int))=false∧(∀ f:DDeed→List Cl,(D.map f)[m]?=some (f w.deeds[m]))∧(∀ row:List Cl,((D.map DDeed.o).set m row)[m]?=some row):=⟨hDlen,dm0,dm1,fun f=>by rw[AA f hDl,hDe],fun row=>cO (by simpa using hDl)⟩
    simp only[go_sem,F,ah,ag,G,dg1,dg2,dg3,dg4,ae,q3]
    refine ACK (fn:=f121) call121 func121 rfl mixed ntmps121 results121 AQO rfl ?_
    simp only[go_sem,F,ah,ag,G,dg1,dg2,dg3,dg4,ae,Q2]
    refine ACK (fn:=f240) call240 func240 rfl mixed ntmps240 results240 AQO rfl ?_
    simp only[go_sem,F,ah,ag,G,dg1,dg2,dg3,dg4,ae,Q2]
    first | refine' ACy _ _ (ACR (fn:=f247) call247 func247 rfl mixed ntmps247 results247 AQO rfl fun m env=>?_) ?_ | (refine ABU ?_; simp only[go_sem,F,ah,ag,G,dg1,dg2,dg3,dg4,ae,Q2]; refine' ACt _ _ (ACR (fn:=f247) call247 func247 rfl mixed ntmps247 results247 AQO rfl fun m env=>?_) ?_)
    rotate_left 2
    ·simp only[go_sem,F,ah,ag,G,dg1,dg2,dg3,dg4,ae,Q2]
     repeat (refine ABU ?_; simp only[go_sem,F,ah,ag,G,dg1,dg2,dg3,dg4,ae,Q2])
     exact AMi
    simp only[go_sem,F,ah,ag,G,dg1,dg2,dg3,dg4,ae,Q2]
    repeat (refine ABU ?_; simp only[go_sem,F,ah,ag,G,dg1,dg2,dg3,dg4,ae,Q2])
    simp only[go_sem,F,ah,ag,G,dg1,dg2,dg3,dg4,ae,Q2,hDs]
    exact AE0
   ·simp only[go_sem,F,ah,ag,G,dg1,dg2,dg3,dg4,ae,q3]
    repeat (refine ABU ?_; simp only[go_sem,F,ah,ag,G,dg1,dg2,dg3,dg4,ae,q3])
    exact AE0
  ·have d0:decide (EU w t.id≥0)=false:=by simp at hP ⊢; omega
   have hoH:NQ w t.id = -1:=by simp only[NQ,bu (bZ hP)]
   have eS:CP w t.id t.s t.at0=⟨w.c0,w.time,w.t,w.e,w.d,w.b,w.m.set i t.s,w.x,w.p,w.tasks,w.deeds⟩:=by simp only[CP,hmk,hB,hit,hoH,O1]; rfl
   rw[eS]
   refine' ACt _ _ (ACR (fn:=f126) call126 func126 rfl mixed ntmps126 results126 AQO rfl fun m env=>?_) ?_
   rotate_left 2
   ·simp only[go_sem,F,ah,ag,G,dg1,dg2,dg3,dg4,ae]
    first | refine AAT _ (GK w.m[i] t.s) fun _=>?_ | (refine ABU ?_; simp only[go_sem,F,ah,ag,G,dg1,dg2,dg3,dg4,ae]; refine ACJ _ (GK w.m[i] t.s) ?_)
    simp only[go_sem,F,ah,ag,G,dg1,dg2,dg3,dg4,ae,hB]
    try simp only[go_sem,F,ah,ag,G,dg1,dg2,dg3,dg4,ae,eN]
    first | refine AC4 (.c (.v (.int .i64 (EU (⟨w.c0,w.time,w.t,w.e,w.d,w.b,w.m.set i t.s,w.x,w.p,w.tasks,w.deeds⟩:DWorld) t.id)))) (InlS.bor (args':=[.agg (⟨w.c0,w.time,w.t,w.e,w.d,w.b,w.m.set i t.s,w.x,w.p,w.tasks,w.deeds⟩:DWorld).c,.c (.v (.int .i64 (t.id)))]) [.val (.c (.v (.int .i64 (EU (⟨w.c0,w.time,w.t,w.e,w.d,w.b,w.m.set i t.s,w.x,w.p,w.tasks,w.deeds⟩:DWorld) t.id))))] ⟨Oj (AO rfl (AQ _) (Ac _)) (AO rfl (Ba _) (Ci _)) (AO rfl (BG _) (DX _)) (AO rfl (AQ _) (Ac _)) (AO rfl (Bj _) (BZ _)) (AO rfl (AQ _) (Ac _)) (BorX.set rfl DTask.o_nr DTask.o_er fun x hx=>by have hx:w.tasks[n0]?=some x:=hx; rw[au hlt,hat] at hx; cases hx; exact La rfl hm) (AO rfl (Cc _) (Ai _)),.inl rfl,trivial⟩ rfl (Iu (⟨w.c0,w.time,w.t,w.e,w.d,w.b,w.m.set i t.s,w.x,w.p,w.tasks,w.deeds⟩:DWorld) t.id htl)) ?_ | refine ACy _ _ (InlS.bor (args':=[.agg (⟨w.c0,w.time,w.t,w.e,w.d,w.b,w.m.set i t.s,w.x,w.p,w.tasks,w.deeds⟩:DWorld).c,.c (.v (.int .i64 (t.id)))]) [.val (.c (.v (.int .i64 (EU (⟨w.c0,w.time,w.t,w.e,w.d,w.b,w.m.set i t.s,w.x,w.p,w.tasks,w.deeds⟩:DWorld) t.id))))] ⟨Oj (AO rfl (AQ _) (Ac _)) (AO rfl (Ba _) (Ci _)) (AO rfl (BG _) (DX _)) (AO rfl (AQ _) (Ac _)) (AO rfl (Bj _) (BZ _)) (AO rfl (AQ _) (Ac _)) (BorX.set rfl DTask.o_nr DTask.o_er fun x hx=>by have hx:w.tasks[n0]?=some x:=hx; rw[au hlt,hat] at hx; cases hx; exact La rfl hm) (AO rfl (Cc _) (Ai _)),.inl rfl,trivial⟩ rfl (Iu (⟨w.c0,w.time,w.t,w.e,w.d,w.b,w.m.set i t.s,w.x,w.p,w.tasks,w.deeds⟩:DWorld) t.id htl)) ?_
    simp only[go_sem,F,ah,ag,G,dg1,dg2,dg3,dg4,ae,eW,eN]
    simp only[go_sem,F,ah,ag,G,dg1,dg2,dg3,dg4,ae,d0,eW]
    exact AMi
   simp only[go_sem,F,ah,ag,G,dg1,dg2,dg3,dg4,ae]
   rcases q3:t.won with _ | _
   ·simp only[go_sem,F,ah,ag,G,dg1,dg2,dg3,dg4,ae,q3]
    refine ACK (fn:=f121) call121 func121 rfl mixed ntmps121 results121 AQO rfl ?_
    simp only[go_sem,F,ah,ag]
    refine ACK (fn:=f240) call240 func240 rfl mixed ntmps240 results240 AQO rfl ?_
    simp only[go_sem,F,ah,ag]
    refine' ACy _ _ (ACR (fn:=f247) call247 func247 rfl mixed ntmps247 results247 AQO rfl fun m env=>?_) ?_
    rotate_left 2
    ·exact AJT
    simp only[go_sem,F,ah,ag,dm0,dm1,ae]
    repeat (refine ABU ?_; simp only[go_sem,F,ah,ag,dm0,dm1,ae])
    have hs2:=hsd (Cf w 2)
    simp only[DDeed.o_eq,Cf,Ry,IW,F,go_sem] at hs2
    simp only[go_sem,hs2]
    exact AE0
   ·simp only[go_sem,F,ah,ag,G,dg1,dg2,dg3,dg4,ae,q3]
    repeat (refine ABU ?_; simp only[go_sem,F,ah,ag,G,dg1,dg2,dg3,dg4,ae,q3])
    exact AE0
 simp only[go_sem,F,ah,ag,p7]
 have ed:CQ w n0 t=endW w n0 t.h.toNat:=by simp only[CQ,p0,p1,p2,p3,p4,p5,p6,p7,aC,aW]
 rw[ed]
 refine ACK (fn:=f127) call127 func127 rfl mixed ntmps127 results127 AQO rfl ?_
 simp only[go_sem,F,ah,ag]
 refine ABU ?_
 simp only[go_sem,F,ah,ag,dm0,dm1,ae]
 refine' ACt _ _ (ACR (fn:=f247) call247 func247 rfl mixed ntmps247 results247 AQO rfl fun m env=>?_) ?_
 rotate_left 2
 ·exact AJT
 simp only[go_sem,F,ah,ag,dm0,dm1,ae]
 repeat (refine ABU ?_; simp only[go_sem,F,ah,ag,dm0,dm1,ae])
 have hs1:=hst CX
 try simp only[go_sem] at hs1
 have hs2:=hsd (Ry w)
 simp only[DDeed.o_eq,Cf,Ry,IW,F,go_sem] at hs2
 simp only[go_sem,hs2]
 have hsp:=F.2.2.2.2.1 (-1)
 try simp only[go_sem] at hsp
 try simp only[go_sem,F,ah,ag,hsp]
 refine EndH.close 10 n0 [] (row':=DTask.o CX) rfl (hF _).1 rfl AOq ?_ ?_
 ·exact AM_
 simp only[Ar,EG,go_sem,F,ah]
 simp only[go_sem,F,ah,ag,hs1]
 exact AFT
end Go.Proofs.YtnoldekcdlaahaaGreat
