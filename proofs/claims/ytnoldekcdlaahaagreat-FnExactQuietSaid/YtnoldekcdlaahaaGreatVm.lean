/- A part. -/
import Derived.Test.YtnoldekcdlaahaaGreatVe
set_option linter.unusedSimpArgs false
set_option linter.unusedVariables false
set_option maxHeartbeats 8000000
set_option maxRecDepth 10000
open Go.Proofs.Tryz
namespace Go.Proofs.YtnoldekcdlaahaaGreat
open Go.Vm
section
variable {p q r:Prop}
theorem AQK(h:p:=by kernel_rfl):p:=h
end
theorem dN (w:DWorld) (k:Int) (hf:AX w):Ctr prog 8 [.agg w.c,.c (.v (.int .i64 (k)))] [.agg (MK w k).o,.val (.c (.v (.bool (NR w k 2))))]:=by
 refine ADq call8 func8 rfl mixed ntmps8 results8 AQK rfl fun hw=>?_
 simp only[go_sem]
 refine CW (ET w hf) fun _=>?_
 simp only[go_sem]
 refine CW (LP w hf) fun _=>?_
 rcases h1:DY w with _ | _
 ·have e1:=O3 (k:=k) (op:=2) (.inl h1)
  simp only[go_sem,h1,e1,NS e1]
  exact ALX
 simp only[go_sem,h1]
 refine AAT _ (AP k 0 2) fun _=>?_
 rcases h2:Aa k 0 2 with _ | _
 ·have e1:=O3 (w:=w) (op:=2) (.inr (.inl h2))
  simp only[go_sem,h2,e1,NS e1]
  exact ALX
 obtain⟨n0,rfl,hn0⟩:=ZB h2 AOh
 have hlt0:n0<w.tasks.length:=by have:=(Hm h1).1; omega
 have hop:opAt w (n0:Int)=w.tasks[n0].op:=by simp[opAt,hlt0]
 simp only[go_sem,h2,ae,AA _ hlt0,hlt0]
 rcases h3:opAt w (n0:Int)==2 with _ | _
 ·have e1:=O3 (w:=w) (k:=(n0:Int)) (.inr (.inr (.inl h3)))
  have h3':(w.tasks[n0].op != 2)=true:=by rw[bne,← hop,h3]; rfl
  simp only[go_sem,h3',e1,NS e1]
  exact ALX
 have h3':(w.tasks[n0].op != 2)=false:=by rw[bne,← hop,h3]; rfl
 simp only[go_sem,h3']
 refine ACy _ _ (ng w rfl) ?_
 rcases h4:TV w with _ | _
 ·have e1:=O3 (w:=w) (k:=(n0:Int)) (op:=2) (.inr (.inr (.inr h4)))
  simp only[go_sem,h4,e1,NS e1]
  exact ALX
 have e1:NR w (n0:Int) 2=true:=by simp[NR,Wi,h1,h2,h3,h4]
 obtain⟨n,hnn,hn,_,A⟩:=mO hf h1 h2 h3 AOq (.inr trivial)
 obtain rfl:n0=n:=AOh
 have e2:MK w (n0:Int)=Dj (CQ w n0 (Oe w n0)):=by simp[MK,e1]
 generalize Oe w (n0:Int)=t at *
 obtain⟨hlt,hlp,hat,hh,hh0,hth,hown,hsw,hop2,hok,hld,hlm,hlb,hlr,ht5⟩:=A
 obtain⟨m,hm⟩:∃ m:Nat,t.h=m:=⟨_,hh0⟩
 have htm:t.h.toNat=m:=by rw[hm]; rfl
 rw[htm] at hh
 simp only[htm] at hsw
 have hF:∀ row:List Cl,((w.tasks.map DTask.o).set n0 row)[n0]?=some row∧((w.deeds.map DDeed.o).set m row)[m]?=some row:=fun row=>⟨cO (by simpa using hlt),cO (by simpa using hh)⟩
 have F:n0<w.tasks.length∧n0<w.p.length∧(∀ f:DTask→List Cl,(w.tasks.map f)[n0]?=some (f t))∧((w.p.map intC)[n0]?=some [.v (.int .i64 w.p[n0])])∧(∀ x,(w.p.map intC).set n0 [.v (.int .i64 x)]=(w.p.set n0 x).map intC) ∧
  m<w.deeds.length∧(∀ f:DDeed→List Cl,(w.deeds.map f)[m]?=some (f w.deeds[m]))∧t.h=(m:Int)∧DTask.o t=_∧(∀ row:List Cl,((w.tasks.map DTask.o).set n0 row)[n0]?=some row)∧(∀ row:List Cl,((w.deeds.map DDeed.o).set m row)[m]?=some row)∧DDeed.o w.deeds[m]=_:=
  ⟨hlt,hlp,fun f=>by rw[AA f hlt,hat],AA intC hlp,fun x=>TT.symm,hh,fun f=>AA f hh,hm,DTask.o_eq t,fun row=>(hF row).1,fun row=>(hF row).2,DDeed.o_eq _⟩
 simp only[go_sem] at F
 have hst:∀ t':DTask,(w.tasks.map DTask.o).set n0 (DTask.o t')=(w.tasks.set n0 t').map DTask.o:=fun _=>TT.symm
 have hsd:∀ g:DDeed→DDeed,(w.deeds.map DDeed.o).set m (DDeed.o (g w.deeds[m]))=(w.deeds.modify m g).map DDeed.o:=fun g=>by rw[Dp g hh]; exact TT.symm
 simp only[go_sem,h4,e1,e2]
 refine ACK (fn:=f31) call31 func31 rfl mixed ntmps31 results31 AQK rfl ?_
 simp only[go_sem,F,ah,ag]
 rcases p0:t.pc==0 with _ | _
 rotate_left
 ·have e9:t.pc=0:=by simpa using p0
  have ed:CQ w n0 t=Bh w n0 t:=AOt
  rw[ed]
  have hs1:=hst (DV t 1)
  simp only[DTask.o_eq,DV,lT,Ag,DU,CX,IU,KJ,F,go_sem] at hs1
  simp only[go_sem,F,ah,ag,p0]
  refine ABU ?_
  simp only[go_sem,F,ah,ag,hs1]
  exact AFT
 simp only[go_sem,F,ah,ag,p0]
 rcases p1:t.pc==1 with _ | _
 rotate_left
 ·have e9:t.pc=1:=by simpa using p1
  have ed:CQ w n0 t=(if decide (Ib w.d t.id<0)=true then codeW w n0 t 2 else setT w n0 (lT t [w.d.l.getD (Ib w.d t.id).toNat (l0 t)] 2)):=AOt
  rw[ed]
  simp only[go_sem,F,ah,ag,p1]
  refine ACK (fn:=f90) call90 func90 rfl mixed ntmps90 results90 AQK rfl ?_
  simp only[go_sem,F,ah,ag]
  refine AAm ?_
  simp only[go_sem,F,ah,ag]
  refine AC3 (args:=[.agg w.d.c,.c (.v (.int .i64 (t.id)))]) _ (by simp only[Ci,go_sem]) rfl (t_ w.d t.id hlr) ?_
  rcases q1:decide (Ib w.d t.id<0) with _ | _
  ·obtain⟨j,hj,e4⟩:=rH (by simpa using q1)
   have hgj:(w.d.l.map DRef.c)[j]?=some (DRef.c w.d.l[j]):=AA DRef.c hj
   have e5:w.d.l.getD (Ib w.d t.id).toNat (l0 t)=w.d.l[j]:=by rw[e4]; simp[hj]
   rw[e5]
   simp only[go_sem,F,ah,ag,q1,e4,ae,hj,hgj]
   repeat (refine ABU ?_; simp only[go_sem,F,ah,ag,q1,e4,ae,hj,hgj])
   refine EndH.openR 8 n0 25 ?_
   simp only[openR,Bc,go_sem,F,ah]
   refine EndH.close 8 n0 [11,12,13,14,15] (row':=DTask.o (lT t [w.d.l[j]] 2)) rfl (hF _).1 rfl AOq ?_ ?_
   ·exact AIc
   simp only[Ar,EG,go_sem,F,ah]
   have hs1:=hst (lT t [w.d.l[j]] 2)
   simp only[go_sem] at hs1
   simp only[go_sem,F,ah,hs1]
   exact AFT
  ·have hs1:=hst (DV t 9)
   simp only[DTask.o_eq,DV,lT,Ag,DU,CX,IU,KJ,F,go_sem] at hs1
   have hs2:=hsd (Cf w 2)
   simp only[DDeed.o_eq,Cf,Ry,IW,F,go_sem] at hs2
   simp only[go_sem,F,ah,ag,q1]
   refine ACK (fn:=f92) call92 func92 rfl mixed ntmps92 results92 AQK rfl ?_
   simp only[go_sem,F,ah,ag]
   refine ACK (fn:=f150) call150 func150 rfl mixed ntmps150 results150 AQK rfl ?_
   simp only[go_sem,F,ah,ag]
   repeat (refine ABU ?_; simp only[go_sem,F,ah,ag])
   simp only[go_sem,F,ah,ag,hs1,hs2]
   exact AFT
 simp only[go_sem,F,ah,ag,p1]
 rcases p2:t.pc==2 with _ | _
 rotate_left
 ·have e9:t.pc=2:=by simpa using p2
  have ed:CQ w n0 t=(if(insOf w (l0 t) t.id==0)=true then codeW w n0 t 2 else setT w n0 (DV t (if(insOf w (l0 t) t.id == -1)=true then 3 else 5))):=AOt
  rw[ed]
  obtain⟨r,hl1,hthr,hcr,hidm,hk34⟩:=Ie hsw hth hop2 APZ
  have el0:l0 t=r:=by simp[l0,hl1]
  rw[el0]
  simp only[go_sem,F,ah,ag,hl1,p2]
  refine DrawK.headE (x:=none) (Head.openR 8 n0 25 0 _) AQK AQK ?_
  simp only[openR,Bc,go_sem,F,hl1,ah,ag]
  have hxs : [DRef.c r]=t.l.map DRef.c:=by rw[hl1]; rfl
  refine ACt _ _ (InlS.bor (args':=[.agg w.c,.agg r.c,.c (.v (.int .i64 (t.id)))]) [.val (.c (.v (.int .i64 (insOf w r t.id))))] ⟨Oj (AO rfl (AQ _) (Ac _)) (AO rfl (Ba _) (Ci _)) (AO rfl (BG _) (DX _)) (AO rfl (AQ _) (Ac _)) (AO rfl (Bj _) (BZ _)) (AO rfl (AQ _) (Ac _)) (BorX.set rfl DTask.o_nr DTask.o_er fun x hx=>AOz) (AO rfl (Cc _) (Ai _)),Jt r,.inl rfl,trivial⟩ rfl (uN w r t.id hf hcr)) ?_
  simp only[go_sem,F,ah,ag,hl1]
  rcases q1:insOf w r t.id==0 with _ | _
  rotate_left
  ·simp only[go_sem,F,ah,ag,hl1,q1]
   refine ACK (fn:=f92) call92 func92 rfl mixed ntmps92 results92 AQK rfl ?_
   simp only[go_sem,F,ah,ag]
   refine ACK (fn:=f150) call150 func150 rfl mixed ntmps150 results150 AQK rfl ?_
   simp only[go_sem,F,ah,ag]
   repeat (refine ABU ?_; simp only[go_sem,F,ah,ag])
   have hs2:=hsd (Cf w 2)
   simp only[DDeed.o_eq,Cf,Ry,IW,F,go_sem] at hs2
   simp only[go_sem,hs2]
   refine EndH.close 8 n0 [11,12,13,14,15] (row':=DTask.o (DV t 9)) rfl (hF _).1 rfl AOq ?_ ?_
   ·exact ALY
   simp only[Ar,EG,go_sem,F,ah]
   have hs1:=hst (DV t 9)
   simp only[go_sem] at hs1
   simp only[go_sem,F,ah,hs1]
   exact AJV
  simp only[go_sem,F,ah,ag,hl1,q1]
  refine AAT _ (X_ (insOf w r t.id)) fun _=>?_
  rcases q2:insOf w r t.id == -1 with _ | _
  ·simp only[go_sem,F,ah,ag,hl1,q2]
   refine EndH.close 8 n0 [11,12,13,14,15] (row':=DTask.o (DV t 5)) rfl (hF _).1 rfl AOq ?_ ?_
   ·exact ALY
   simp only[Ar,EG,go_sem,F,ah]
   have hs1:=hst (DV t 5)
   simp only[go_sem] at hs1
   simp only[go_sem,F,ah,hs1]
   exact AJV
  ·simp only[go_sem,F,ah,ag,hl1,q2]
   refine EndH.close 8 n0 [11,12,13,14,15] (row':=DTask.o (DV t 3)) rfl (hF _).1 rfl AOq ?_ ?_
   ·exact ALY
   simp only[Ar,EG,go_sem,F,ah]
   have hs1:=hst (DV t 3)
   simp only[go_sem] at hs1
   simp only[go_sem,F,ah,hs1]
   exact AJV
 simp only[go_sem,F,ah,ag,p2]
 rcases p3:t.pc==3 with _ | _
 rotate_left
 ·have e9:t.pc=3:=by simpa using p3
  have ed:CQ w n0 t=setT w n0 (Ag w t 4):=AOt
  rw[ed]
  have e8:IntKind.i64.wrap (t.pc+1)=4:=APZ
  have hs1:=hst (Ag w t 4)
  simp only[DTask.o_eq,DV,lT,Ag,DU,CX,IU,KJ,F,go_sem] at hs1
  simp only[go_sem,F,ah,ag,p3,e8]
  repeat (refine ABU ?_; simp only[go_sem,F,ah,ag,p3,e8])
  simp only[go_sem,F,ah,ag,hs1]
  exact AFT
 simp only[go_sem,F,ah,ag,p3]
 rcases p6:t.pc==6 with _ | _
 rotate_left
 ·have e9:t.pc=6:=by simpa using p6
  have ed:CQ w n0 t=setT w n0 (Ag w t 7):=AOt
  rw[ed]
  have e8:IntKind.i64.wrap (t.pc+1)=7:=APZ
  have hs1:=hst (Ag w t 7)
  simp only[DTask.o_eq,DV,lT,Ag,DU,CX,IU,KJ,F,go_sem] at hs1
  simp only[go_sem,F,ah,ag,p6,e8]
  repeat (refine ABU ?_; simp only[go_sem,F,ah,ag,p6,e8])
  simp only[go_sem,F,ah,ag,hs1]
  exact AFT
 simp only[go_sem,F,ah,ag,p6]
 rcases p4:t.pc==4 with _ | _
 rotate_left
 ·have e9:t.pc=4:=by simpa using p4
  have ed:CQ w n0 t=setT (Dw w (l0 t) t.id t.s t.at0) n0 (DV t 5):=AOt
  rw[ed]
  obtain⟨r,hl1,hthr,hcr,hidm,hk34⟩:=Ie hsw hth hop2 APZ
  have el0:l0 t=r:=by simp[l0,hl1]
  rw[el0]
  have hkind:=hk34 APZ
  obtain⟨c1,c2,c3⟩:=Gz hcr
  obtain⟨q,hq,hb,hbat⟩ | ⟨_,hbat⟩:=DR w r.buf
  rotate_left
  ·simp only[there,hbat] at hthr; cases hthr
  obtain⟨j,hj⟩:=aO (show 0≤t.id-r.first from AOh)
  obtain⟨c4,c5⟩:=c3 AOh
  have c6:IntKind.i64.wrap (t.id-r.first)=(j:Int):=c4.trans hj
  rw[hj] at c5
  have hid:IntKind.i64.wrap (r.first+(j:Int))=t.id:=by rw[← hj,wrap_i64 AOh AOh]; omega
  have hblen:(w.b[q].c0.l.length:Int)=r.many:=uP hthr hkind hbat
  have hjl:j<w.b[q].c0.l.length:=AOh
  have hkne:(r.kind != 1)=false:=by simp only[bne,hkind,aJ]
  have hins:YA w r t.id=w.b[q].c0.l[j].ins:=by simp only[YA,hbat,hj,bH]; simp[hjl]
  have G:(r.kind != 1)=false∧Oo (.c (.v (.int .i64 (r.buf))))=some q∧q<w.b.length∧(∀ f:DBuf→List Cl,(w.b.map f)[q]?=some (f w.b[q]))∧(∀ row:List Cl,((w.b.map DBuf.o).set q row)[q]?=some row)∧IntKind.i64.wrap (t.id-r.first)=(j:Int)∧IntKind.i64.wrap (r.first+(j:Int))=t.id:=⟨hkne,by rw[hb]; exact Nc .i64 q,hq,fun f=>AA f hq,fun row=>cO APc,c6,hid⟩
  simp only[go_sem,F,ah,ag,hl1,p4]
  refine DrawK.headE (x:=none) (Head.openR 8 n0 25 0 _) AQK AQK ?_
  simp only[openR,Bc,go_sem,F,hl1,ah,ag]
  have hxs : [DRef.c r]=t.l.map DRef.c:=by rw[hl1]; rfl
  rcases hB:Jr w.b[q].c0.l[j].ins t.s with _ | _
  ·refine' ACt _ _ (ACR (fn:=f94) call94 func94 rfl mixed ntmps94 results94 AQK rfl fun m env=>?_) ?_
   rotate_left 2
   ·simp only[go_sem,F,ah,ag,hl1,G,ae]
    refine AAm ?_
    simp only[go_sem,F,ah,ag,hl1,G,ae]
    refine AC4 (.c (.v (.bool (there w r)))) (InlS.bor (args':=[.agg w.c,.agg r.c]) [.val (.c (.v (.bool (there w r))))] ⟨Oj (AO rfl (AQ _) (Ac _)) (AO rfl (Ba _) (Ci _)) (AO rfl (BG _) (DX _)) (AO rfl (AQ _) (Ac _)) (AO rfl (Bj _) (BZ _)) (AO rfl (AQ _) (Ac _)) (BorX.set rfl DTask.o_nr DTask.o_er fun x hx=>AOz) (AO rfl (Cc _) (Ai _)),Jt r,trivial⟩ rfl (Eu w r)) ?_
    simp only[go_sem,F,ah,ag,hl1,G,ae,hthr]
    refine DrawK.headE (x:=some (15,11)) (Head.openR 4 q 5 0 _) AQK AQK ?_ AQK
    simp only[openR,Bc,go_sem,F,G,hl1,ah,ag]
    refine AC2 (args:=[.agg w.b[q].c0.c,.c (.v (.int .i64 (j))),.c (.v (.int .i64 (t.s)))]) _ APA AO5 (L_ w.b[q].c0 j t.s (IL hf hq).1 hjl) ?_
    simp only[go_sem,F,ah,ag,hl1,G,ae,hB]
    exact AMi
   have eS:Dw w r t.id t.s t.at0=w:=by simp only[Dw,Zc,hins,hB]; rfl
   rw[eS]
   simp only[go_sem,F,ah,ag,hl1,G,ae]
   refine EndH.close 8 n0 [11,12,13,14,15] (row':=DTask.o (DV t 5)) rfl (hF _).1 rfl AOq ?_ ?_
   ·exact ALY
   simp only[Ar,EG,go_sem,F,ah]
   refine EndH.close 4 q [17,18] (row':=DBuf.o (w.b[q])) rfl (cO APc) rfl AOq ?_ ?_
   ·exact AMS
   simp only[Ar,EG,go_sem,F,ah]
   have hs3:(w.b.map DBuf.o).set q (DBuf.o w.b[q])=w.b.map DBuf.o:=by rw[← TT,List.set_getElem_self]
   simp only[go_sem] at hs3
   have hs1:=hst (DV t 5)
   simp only[go_sem] at hs1
   simp only[go_sem,F,ah,hs1,hs3]
   exact AJV
  have hsb:=(TT (f:=DBuf.o) (l:=w.b) (i:=q) (a:=D6 j t.s w.b[q])).symm
  simp only[go_sem] at hsb
  have hq1:r.buf.toNat=q:=by rw[hb]; rfl
  have hj1:(t.id-r.first).toNat=j:=by rw[hj]; rfl
  rcases hP:decide (OH w.deeds t.id<0) with _ | _
  ·obtain⟨x,hx,e5⟩:=rG (by simpa using hP)
   have Q:OH w.deeds t.id=(x:Int)∧x<w.deeds.length∧(∀ f:DDeed→List Cl,(w.deeds.map f)[x]?=some (f w.deeds[x]))∧(∀ row:List Cl,((w.deeds.map DDeed.o).set x row)[x]?=some row):=⟨e5,hx,fun f=>AA f hx,fun row=>cO (by simpa using hx)⟩
   have d0:decide ((x:Int)≥0)=true:=AOi
   have hx0:¬ ((x:Int)<0):=AOh
   have eS:Dw w r t.id t.s t.at0=⟨w.c0,w.time,w.t,w.e,w.d,w.b.set q (D6 j t.s w.b[q]),w.m,w.x,w.p,w.tasks,w.deeds.modify x (IW t.s t.at0)⟩:=by simp only[Dw,Zc,hins,hB,hq1,hj1,e5,O1,bH,Dp _ hq]; simp[hx0]
   rw[eS]
   refine' ACt _ _ (ACR (fn:=f94) call94 func94 rfl mixed ntmps94 results94 AQK rfl fun m env=>?_) ?_
   rotate_left 2
   ·simp only[go_sem,F,ah,ag,hl1,G,ae]
    refine AAm ?_
    simp only[go_sem,F,ah,ag,hl1,G,ae]
    refine AC4 (.c (.v (.bool (there w r)))) (InlS.bor (args':=[.agg w.c,.agg r.c]) [.val (.c (.v (.bool (there w r))))] ⟨Oj (AO rfl (AQ _) (Ac _)) (AO rfl (Ba _) (Ci _)) (AO rfl (BG _) (DX _)) (AO rfl (AQ _) (Ac _)) (AO rfl (Bj _) (BZ _)) (AO rfl (AQ _) (Ac _)) (BorX.set rfl DTask.o_nr DTask.o_er fun x hx=>AOz) (AO rfl (Cc _) (Ai _)),Jt r,trivial⟩ rfl (Eu w r)) ?_
    simp only[go_sem,F,ah,ag,hl1,G,ae,hthr]
    refine DrawK.headE (x:=some (15,11)) (Head.openR 4 q 5 0 _) AQK AQK ?_ AQK
    simp only[openR,Bc,go_sem,F,G,hl1,ah,ag]
    refine AC2 (args:=[.agg w.b[q].c0.c,.c (.v (.int .i64 (j))),.c (.v (.int .i64 (t.s)))]) _ APA AO5 (L_ w.b[q].c0 j t.s (IL hf hq).1 hjl) ?_
    simp only[go_sem,F,ah,ag,hl1,G,ae,hB]
    repeat (refine ABU ?_; simp only[go_sem,F,ah,ag,hl1,G,ae])
    first | refine ACw (args:=[.c (.sl (w.deeds.map DDeed.c)),.c (.v (.int .i64 (t.id)))]) _ AO3 rfl (Jc w.deeds t.id hld) fun _=>?_ | refine AC2 (args:=[.c (.sl (w.deeds.map DDeed.c)),.c (.v (.int .i64 (t.id)))]) _ AO3 rfl (Jc w.deeds t.id hld) ?_ | refine AC3 (args:=[.c (.sl (w.deeds.map DDeed.c)),.c (.v (.int .i64 (t.id)))]) _ AO3 rfl (Jc w.deeds t.id hld) ?_
    simp only[go_sem,F,ah,ag,hl1,G,ae,Q,d0]
    repeat (refine ABU ?_; simp only[go_sem,F,ah,ag,hl1,G,ae,Q,d0])
    exact AMi
   simp only[go_sem,F,ah,ag,hl1,G,ae,Q]
   refine EndH.close 8 n0 [11,12,13,14,15] (row':=DTask.o (DV t 5)) rfl (hF _).1 rfl AOq ?_ ?_
   ·exact ALY
   simp only[Ar,EG,go_sem,F,ah]
   refine EndH.close 4 q [18,19] (row':=DBuf.o (D6 j t.s w.b[q])) rfl (cO APc) rfl AOq ?_ ?_
   ·exact AMS
   simp only[Ar,EG,go_sem,F,ah]
   have hs2:(w.deeds.map DDeed.o).set x (DDeed.o (IW t.s t.at0 w.deeds[x]))=(w.deeds.modify x (IW t.s t.at0)).map DDeed.o:=by rw[Dp _ hx]; exact TT.symm
   simp only[DDeed.o_eq,IW,go_sem] at hs2
   have hs1:=hst (DV t 5)
   simp only[go_sem] at hs1
   simp only[go_sem,F,ah,hs1,hsb,hs2]
   exact AJV
  ·have eS:Dw w r t.id t.s t.at0=⟨w.c0,w.time,w.t,w.e,w.d,w.b.set q (D6 j t.s w.b[q]),w.m,w.x,w.p,w.tasks,w.deeds⟩:=by simp only[Dw,Zc,hins,hB,hq1,hj1,O1,Dp _ hq,aX,bu (bZ hP)]
   rw[eS]
   have d0:decide (OH w.deeds t.id≥0)=false:=by simp at hP ⊢; omega
   refine' ACt _ _ (ACR (fn:=f94) call94 func94 rfl mixed ntmps94 results94 AQK rfl fun m env=>?_) ?_
   rotate_left 2
   ·simp only[go_sem,F,ah,ag,hl1,G,ae]
    refine AAm ?_
    simp only[go_sem,F,ah,ag,hl1,G,ae]
    refine AC4 (.c (.v (.bool (there w r)))) (InlS.bor (args':=[.agg w.c,.agg r.c]) [.val (.c (.v (.bool (there w r))))] ⟨Oj (AO rfl (AQ _) (Ac _)) (AO rfl (Ba _) (Ci _)) (AO rfl (BG _) (DX _)) (AO rfl (AQ _) (Ac _)) (AO rfl (Bj _) (BZ _)) (AO rfl (AQ _) (Ac _)) (BorX.set rfl DTask.o_nr DTask.o_er fun x hx=>AOz) (AO rfl (Cc _) (Ai _)),Jt r,trivial⟩ rfl (Eu w r)) ?_
    simp only[go_sem,F,ah,ag,hl1,G,ae,hthr]
    refine DrawK.headE (x:=some (15,11)) (Head.openR 4 q 5 0 _) AQK AQK ?_ AQK
    simp only[openR,Bc,go_sem,F,G,hl1,ah,ag]
    refine AC2 (args:=[.agg w.b[q].c0.c,.c (.v (.int .i64 (j))),.c (.v (.int .i64 (t.s)))]) _ APA AO5 (L_ w.b[q].c0 j t.s (IL hf hq).1 hjl) ?_
    simp only[go_sem,F,ah,ag,hl1,G,ae,hB]
    repeat (refine ABU ?_; simp only[go_sem,F,ah,ag,hl1,G,ae])
    first | refine ACw (args:=[.c (.sl (w.deeds.map DDeed.c)),.c (.v (.int .i64 (t.id)))]) _ AO3 rfl (Jc w.deeds t.id hld) fun _=>?_ | refine AC2 (args:=[.c (.sl (w.deeds.map DDeed.c)),.c (.v (.int .i64 (t.id)))]) _ AO3 rfl (Jc w.deeds t.id hld) ?_ | refine AC3 (args:=[.c (.sl (w.deeds.map DDeed.c)),.c (.v (.int .i64 (t.id)))]) _ AO3 rfl (Jc w.deeds t.id hld) ?_
    simp only[go_sem,F,ah,ag,hl1,G,ae,d0]
    exact AMi
   simp only[go_sem,F,ah,ag,hl1,G,ae]
   refine EndH.close 8 n0 [11,12,13,14,15] (row':=DTask.o (DV t 5)) rfl (hF _).1 rfl AOq ?_ ?_
   ·exact ALY
   simp only[Ar,EG,go_sem,F,ah]
   refine EndH.close 4 q [18,19] (row':=DBuf.o (D6 j t.s w.b[q])) rfl (cO APc) rfl AOq ?_ ?_
   ·exact AMS
   simp only[Ar,EG,go_sem,F,ah]
   have hs1:=hst (DV t 5)
   simp only[go_sem] at hs1
   simp only[go_sem,F,ah,hs1,hsb]
   exact AJV
 simp only[go_sem,F,ah,ag,p4]
 rcases p5:t.pc==5 with _ | _
 rotate_left
 ·have e9:t.pc=5:=by simpa using p5
  have ed:CQ w n0 t=(if(IB w t.id==0)=true then BM w n0 t else if(IB w t.id == -1)=true then setT w n0 (DV t 6) else codeW w n0 t 2):=AOt
  rw[ed]
  obtain⟨r,hl1,hthr,hcr,hidm,hk34⟩:=Ie hsw hth hop2 APZ
  obtain⟨i,hi⟩:∃ i:Nat,t.id=i:=APE
  have him:i<w.m.length:=AOh
  have hmk:IB w t.id=w.m[i]:=AP9
  have hit:t.id.toNat=i:=by rw[hi]; rfl
  have G:Oo (.c (.v (.int .i64 (t.id))))=some i∧i<w.m.length∧(w.m.map intC)[i]?=some [.v (.int .i64 w.m[i])]∧(∀ x,(w.m.map intC).set i [.v (.int .i64 x)]=(w.m.set i x).map intC):=⟨AP0,him,AA intC him,fun x=>TT.symm⟩
  simp only[go_sem,F,ah,ag,G,ae,p5]
  repeat (refine ABU ?_; simp only[go_sem,F,ah,ag,G,ae])
  rw[hmk]
  rcases q1:w.m[i]==0 with _ | _
  rotate_left
  ·have hs1:=hst (DU t 6)
   simp only[DTask.o_eq,DV,lT,Ag,DU,CX,IU,KJ,F,go_sem] at hs1
   simp only[go_sem,F,ah,ag,G,ae,q1]
   repeat (refine ABU ?_; simp only[go_sem,F,ah,ag,G,ae])
   simp only[go_sem,F,ah,ag,G,ae,hs1]
   have hc1:BM w n0 t=⟨w.c0,w.time,w.t,w.e,w.d,w.b,w.m.set i (-1),w.x,w.p,w.tasks.set n0 (DU t 6),w.deeds⟩:=by simp only[BM,hit]
   simp only[hc1]
   exact AFT
  simp only[go_sem,F,ah,ag,G,ae,q1]
  refine AAT _ (X_ w.m[i]) fun _=>?_
  rcases q2:w.m[i] == -1 with _ | _
  ·have hs1:=hst (DV t 9)
   simp only[DTask.o_eq,DV,lT,Ag,DU,CX,IU,KJ,F,go_sem] at hs1
   have hs2:=hsd (Cf w 2)
   simp only[DDeed.o_eq,Cf,Ry,IW,F,go_sem] at hs2
   simp only[go_sem,F,ah,ag,G,ae,q1,q2]
   refine ACK (fn:=f92) call92 func92 rfl mixed ntmps92 results92 AQK rfl ?_
   simp only[go_sem,F,ah,ag,G,ae]
   refine ACK (fn:=f150) call150 func150 rfl mixed ntmps150 results150 AQK rfl ?_
   simp only[go_sem,F,ah,ag,G,ae]
   repeat (refine ABU ?_; simp only[go_sem,F,ah,ag,G,ae])
   simp only[go_sem,F,ah,ag,G,ae,hs1,hs2]
   exact AFT
  ·have hs1:=hst (DV t 6)
   simp only[DTask.o_eq,DV,lT,Ag,DU,CX,IU,KJ,F,go_sem] at hs1
   simp only[go_sem,F,ah,ag,G,ae,q1,q2]
   simp only[go_sem,F,ah,ag,G,ae,hs1]
   exact AFT
 simp only[go_sem,F,ah,ag,p5]
 rcases p7:t.pc==7 with _ | _
 rotate_left
 ·have e9:t.pc=7:=by simpa using p7
  have ed:CQ w n0 t=(if t.won=true then setT (CP w t.id t.s t.at0) n0 (DV t 9) else codeW (CP w t.id t.s t.at0) n0 t 2):=AOt
  rw[ed]
  obtain⟨r,hl1,hthr,hcr,hidm,hk34⟩:=Ie hsw hth hop2 APZ
  obtain⟨i,hi⟩:∃ i:Nat,t.id=i:=APE
  have him:i<w.m.length:=AOh
  have hmk:IB w t.id=w.m[i]:=AP9
  have hit:t.id.toNat=i:=by rw[hi]; rfl
  have G:Oo (.c (.v (.int .i64 (t.id))))=some i∧i<w.m.length∧(w.m.map intC)[i]?=some [.v (.int .i64 w.m[i])]∧(∀ x,(w.m.map intC).set i [.v (.int .i64 x)]=(w.m.set i x).map intC):=⟨AP0,him,AA intC him,fun x=>TT.symm⟩
  simp only[go_sem,F,ah,ag,G,ae,p7]
  have d1:IntKind.i64.wrap ((w.m.length:Int)-1)=(w.m.length:Int)-1:=wrap_i64 AOh AOh
  have d2:IntKind.i64.wrap ((w.deeds.length:Int)-1)=(w.deeds.length:Int)-1:=wrap_i64 AOh AOh
  have hr1:Aa t.id 0 ((w.m.length:Int)-1)=true:=by rw[hi]; simp[Aa]; omega
  have htl:w.tasks.length≤1048576:=AOh
  have hs1:=hst (DV t 9)
  simp only[DTask.o_eq,DV,lT,Ag,DU,CX,IU,KJ,F,go_sem] at hs1
  have hs2:=hsd (Cf w 2)
  simp only[DDeed.o_eq,Cf,Ry,IW,F,go_sem] at hs2
  refine ABU ?_
  simp only[go_sem,F,ah,ag,G,ae]
  rcases hB:Jr w.m[i] t.s with _ | _
  ·refine' ACt _ _ (ACR (fn:=f95) call95 func95 rfl mixed ntmps95 results95 AQK rfl fun m env=>?_) ?_
   rotate_left 2
   ·simp only[go_sem,F,ah,ag,G,ae,d1]
    first | refine AAT _ (AP t.id 0 ((w.m.length:Int)-1)) fun _=>?_ | (refine AAm ?_; simp only[go_sem,F,ah,ag,G,ae,d1]; refine AB5 _ (AP t.id 0 ((w.m.length:Int)-1)) ?_)
    simp only[go_sem,F,ah,ag,G,ae,d1,hr1]
    first | refine AAT _ (Ic w.m[i] t.s) fun _=>?_ | (refine ABU ?_; simp only[go_sem,F,ah,ag,G,ae]; refine ACJ _ (Ic w.m[i] t.s) ?_)
    simp only[go_sem,F,ah,ag,G,ae,hB]
    exact AMi
   have eS:CP w t.id t.s t.at0=w:=by simp only[CP,hmk,hB]; rfl
   rw[eS]
   simp only[go_sem,F,ah,ag,G,ae]
   rcases q3:t.won with _ | _
   ·simp only[go_sem,F,ah,ag,G,ae,q3]
    refine ACK (fn:=f92) call92 func92 rfl mixed ntmps92 results92 AQK rfl ?_
    simp only[go_sem,F,ah,ag,G,ae]
    refine ACK (fn:=f150) call150 func150 rfl mixed ntmps150 results150 AQK rfl ?_
    simp only[go_sem,F,ah,ag,G,ae]
    repeat (refine ABU ?_; simp only[go_sem,F,ah,ag,G,ae])
    simp only[go_sem,F,ah,ag,G,ae,hs1,hs2]
    exact AE3
   ·simp only[q3] at hs1
    simp only[go_sem,F,ah,ag,G,ae,q3,hs1]
    exact AE3
  have eN:P5 w.m[i] t.s=t.s:=by simp only[Jr] at hB; simp only[P5,hB,aX]
  have eW:EU (⟨w.c0,w.time,w.t,w.e,w.d,w.b,w.m.set i t.s,w.x,w.p,w.tasks,w.deeds⟩:DWorld) t.id=EU w t.id:=rfl
  rcases hP:decide (EU w t.id<0) with _ | _
  ·obtain⟨x,hx,e5,hxo,hxw⟩:=jr (by simpa using hP)
   obtain⟨y,hy,e6,hyk⟩:=SL h1 hx (by rw[hxo]; decide)
   have Q:EU w t.id=(x:Int)∧x<w.tasks.length∧(∀ f:DTask→List Cl,(w.tasks.map f)[x]?=some (f w.tasks[x]))∧w.tasks[x].h=(y:Int)∧y<w.deeds.length∧(∀ f:DDeed→List Cl,(w.deeds.map f)[y]?=some (f w.deeds[y]))∧(∀ row:List Cl,((w.deeds.map DDeed.o).set y row)[y]?=some row):=⟨e5,hx,fun f=>AA f hx,e6,hy,fun f=>AA f hy,fun row=>cO (by simpa using hy)⟩
   have d0:decide ((x:Int)≥0)=true:=AOi
   have hr2:Aa (y:Int) 0 ((w.deeds.length:Int)-1)=true:=AQB
   have hoH:NQ w t.id=(y:Int):=by simp[NQ,e5,hx,e6]
   have hs4:(w.deeds.map DDeed.o).set y (DDeed.o (IW t.s t.at0 w.deeds[y]))=(w.deeds.modify y (IW t.s t.at0)).map DDeed.o:=by rw[Dp _ hy]; exact TT.symm
   simp only[DDeed.o_eq,IW,go_sem] at hs4
   obtain⟨D,hD⟩:∃ D,D=w.deeds.modify y (IW t.s t.at0):=⟨_,rfl⟩
   rw[← hD] at hs4
   have eS:CP w t.id t.s t.at0=⟨w.c0,w.time,w.t,w.e,w.d,w.b,w.m.set i t.s,w.x,w.p,w.tasks,D⟩:=APB
   rw[eS]
   refine' ACt _ _ (ACR (fn:=f95) call95 func95 rfl mixed ntmps95 results95 AQK rfl fun m env=>?_) ?_
   rotate_left 2
   ·simp only[go_sem,F,ah,ag,G,ae,d1]
    first | refine AAT _ (AP t.id 0 ((w.m.length:Int)-1)) fun _=>?_ | (refine AAm ?_; simp only[go_sem,F,ah,ag,G,ae,d1]; refine AB5 _ (AP t.id 0 ((w.m.length:Int)-1)) ?_)
    simp only[go_sem,F,ah,ag,G,ae,d1,hr1]
    first | refine AAT _ (Ic w.m[i] t.s) fun _=>?_ | (refine ABU ?_; simp only[go_sem,F,ah,ag,G,ae]; refine ACJ _ (Ic w.m[i] t.s) ?_)
    simp only[go_sem,F,ah,ag,G,ae,hB,eN]
    repeat (refine ABU ?_; simp only[go_sem,F,ah,ag,G,ae,eN])
    first | refine ACw (args:=[.agg (⟨w.c0,w.time,w.t,w.e,w.d,w.b,w.m.set i t.s,w.x,w.p,w.tasks,w.deeds⟩:DWorld).c,.c (.v (.int .i64 (t.id)))]) _ APF rfl (MW (⟨w.c0,w.time,w.t,w.e,w.d,w.b,w.m.set i t.s,w.x,w.p,w.tasks,w.deeds⟩:DWorld) t.id htl) fun _=>?_ | (refine AAm ?_; simp only[go_sem,F,ah,ag,G,ae,eN]; refine AC3 (args:=[.agg (⟨w.c0,w.time,w.t,w.e,w.d,w.b,w.m.set i t.s,w.x,w.p,w.tasks,w.deeds⟩:DWorld).c,.c (.v (.int .i64 (t.id)))]) _ APF rfl (MW (⟨w.c0,w.time,w.t,w.e,w.d,w.b,w.m.set i t.s,w.x,w.p,w.tasks,w.deeds⟩:DWorld) t.id htl) ?_)
    simp only[go_sem,F,ah,ag,G,ae,eW,Q,d0,d2]
    first | refine AAT _ (AP (y:Int) 0 ((w.deeds.length:Int)-1)) fun _=>?_ | (refine AAm ?_; simp only[go_sem,F,ah,ag,G,ae,eW,Q,d0,d2]; refine AB5 _ (AP (y:Int) 0 ((w.deeds.length:Int)-1)) ?_)
    simp only[go_sem,F,ah,ag,G,ae,Q,hr2]
    repeat (refine ABU ?_; simp only[go_sem,F,ah,ag,G,ae,Q])
    exact AMi
   simp only[go_sem,F,ah,ag,G,ae,Q,hs4]
   rcases q3:t.won with _ | _
   ·have hym:y≠m:=by
     intro e
     subst e
     obtain⟨y0,hy0,f1,f2⟩:=SL h1 hlt (by rw[hat,hop2]; decide)
     have f3:y0=y:=by rw[hat,hm] at f1; omega
     subst f3
     have f4:x=n0:=by rw[f2] at hyk; omega
     subst f4
     rw[hat,q3] at hxw; cases hxw
    have hDl:m<D.length:=by rw[hD]; simpa using hh
    have hDe:D[m]=w.deeds[m]:=by simp only[hD,List.getElem_modify,hym,aW]
    have hDs:(D.map DDeed.o).set m (DDeed.o (Cf w 2 w.deeds[m]))=(D.modify m (Cf w 2)).map DDeed.o:=by rw[Dp _ hDl,hDe]; exact TT.symm
    simp only[DDeed.o_eq,Cf,Ry,IW,F,go_sem] at hDs
    have Q2:m<D.length∧(∀ f:DDeed→List Cl,(D.map f)[m]?=some (f w.deeds[m]))∧(∀ row:List Cl,((D.map DDeed.o).set m row)[m]?=some row):=⟨hDl,fun f=>by rw[AA f hDl,hDe],fun row=>cO (by simpa using hDl)⟩
    simp only[go_sem,F,ah,ag,G,ae,q3,hs4]
    refine ACK (fn:=f92) call92 func92 rfl mixed ntmps92 results92 AQK rfl ?_
    simp only[go_sem,F,ah,ag,G,ae,Q2,hs4]
    refine ACK (fn:=f150) call150 func150 rfl mixed ntmps150 results150 AQK rfl ?_
    simp only[go_sem,F,ah,ag,G,ae,Q2,hs4]
    repeat (refine ABU ?_; simp only[go_sem,F,ah,ag,G,ae,Q2,hs4])
    simp only[go_sem,F,ah,ag,G,ae,Q2,hs1,hs4,hDs]
    exact AE3
   ·simp only[q3] at hs1
    simp only[go_sem,F,ah,ag,G,ae,q3,hs1,hs4]
    exact AE3
  ·have d0:decide (EU w t.id≥0)=false:=by simp at hP ⊢; omega
   have hoH:NQ w t.id = -1:=by simp only[NQ,bu (bZ hP)]
   have eS:CP w t.id t.s t.at0=⟨w.c0,w.time,w.t,w.e,w.d,w.b,w.m.set i t.s,w.x,w.p,w.tasks,w.deeds⟩:=by simp only[CP,hmk,hB,hit,hoH,O1]; rfl
   rw[eS]
   refine' ACt _ _ (ACR (fn:=f95) call95 func95 rfl mixed ntmps95 results95 AQK rfl fun m env=>?_) ?_
   rotate_left 2
   ·simp only[go_sem,F,ah,ag,G,ae,d1]
    first | refine AAT _ (AP t.id 0 ((w.m.length:Int)-1)) fun _=>?_ | (refine AAm ?_; simp only[go_sem,F,ah,ag,G,ae,d1]; refine AB5 _ (AP t.id 0 ((w.m.length:Int)-1)) ?_)
    simp only[go_sem,F,ah,ag,G,ae,d1,hr1]
    first | refine AAT _ (Ic w.m[i] t.s) fun _=>?_ | (refine ABU ?_; simp only[go_sem,F,ah,ag,G,ae]; refine ACJ _ (Ic w.m[i] t.s) ?_)
    simp only[go_sem,F,ah,ag,G,ae,hB,eN]
    repeat (refine ABU ?_; simp only[go_sem,F,ah,ag,G,ae,eN])
    first | refine ACw (args:=[.agg (⟨w.c0,w.time,w.t,w.e,w.d,w.b,w.m.set i t.s,w.x,w.p,w.tasks,w.deeds⟩:DWorld).c,.c (.v (.int .i64 (t.id)))]) _ APF rfl (MW (⟨w.c0,w.time,w.t,w.e,w.d,w.b,w.m.set i t.s,w.x,w.p,w.tasks,w.deeds⟩:DWorld) t.id htl) fun _=>?_ | (refine AAm ?_; simp only[go_sem,F,ah,ag,G,ae,eN]; refine AC3 (args:=[.agg (⟨w.c0,w.time,w.t,w.e,w.d,w.b,w.m.set i t.s,w.x,w.p,w.tasks,w.deeds⟩:DWorld).c,.c (.v (.int .i64 (t.id)))]) _ APF rfl (MW (⟨w.c0,w.time,w.t,w.e,w.d,w.b,w.m.set i t.s,w.x,w.p,w.tasks,w.deeds⟩:DWorld) t.id htl) ?_)
    simp only[go_sem,F,ah,ag,G,ae,eW,d0]
    try refine AAm ?_
    try simp only[go_sem,F,ah,ag,G,ae,eW,d0]
    exact AMi
   simp only[go_sem,F,ah,ag,G,ae]
   rcases q3:t.won with _ | _
   ·simp only[go_sem,F,ah,ag,G,ae,q3]
    refine ACK (fn:=f92) call92 func92 rfl mixed ntmps92 results92 AQK rfl ?_
    simp only[go_sem,F,ah,ag,G,ae]
    refine ACK (fn:=f150) call150 func150 rfl mixed ntmps150 results150 AQK rfl ?_
    simp only[go_sem,F,ah,ag,G,ae]
    repeat (refine ABU ?_; simp only[go_sem,F,ah,ag,G,ae])
    simp only[go_sem,F,ah,ag,G,ae,hs1,hs2]
    exact AE3
   ·simp only[q3] at hs1
    simp only[go_sem,F,ah,ag,G,ae,q3,hs1]
    exact AE3
 simp only[go_sem,F,ah,ag,p7]
 have ed:CQ w n0 t=endW w n0 t.h.toNat:=by simp only[CQ,p0,p1,p2,p3,p4,p5,p6,p7,aC,aW]
 rw[ed]
 have hs1:=hst CX
 try simp only[go_sem] at hs1
 have hs2:=hsd (Ry w)
 simp only[DDeed.o_eq,Cf,Ry,IW,F,go_sem] at hs2
 have hsp:=F.2.2.2.2.1 (-1)
 try simp only[go_sem] at hsp
 refine ACK (fn:=f96) call96 func96 rfl mixed ntmps96 results96 AQK rfl ?_
 simp only[go_sem,F,ah,ag]
 repeat (refine ABU ?_; simp only[go_sem,F,ah,ag])
 simp only[go_sem,F,ah,ag,hs2,hsp]
 refine EndH.close 8 n0 [] (row':=DTask.o CX) rfl (hF _).1 rfl AOq ?_ ?_
 ·exact AM_
 simp only[Ar,EG,go_sem,F,ah]
 simp only[go_sem,F,ah,ag,hs1,hs2,hsp]
 exact AFT
def AGX (t:DTask) (hv pc:Int) (d:Nat):List Cl:=[.v (.int .i64 t.op),.v (.int .i64 pc),.v (.int .i64 hv),.ow 64 3 (t.r.map DVal.c),.v (.int .i64 t.id),.v (.int .i64 t.q.kind),.v (.int .i64 t.q.p.kind),.v (.int .i64 t.q.p.col),.v (.int .i64 t.q.p.op),.v (.int .i64 t.q.p.v.ty),.v (.int .i64 t.q.p.v.n),.v (.string t.q.p.v.s),.ow 67 7 (t.q.p.l.map DPred.o),.v (.int .i64 t.q.col),.ow 3 1 (t.q.out.map intC),.v (.int .i64 t.ts),.v (.int .i64 t.ver),.ref d,.v (.int .i64 t.i),.v (.int .i64 t.j),.v (.int .i64 t.s),.v (.int .i64 t.at0),.v (.int .i64 t.own),.v (.bool t.won),.ow 204 2 (t.got.map DRow.o)]
theorem La {st:List Ob} {t:DTask} {hv:Int} {d y4 z4:Nat} {u4 v4:Bool} (h4:DT st d=some ⟨y4,z4,t.l.map DRef.c,u4,v4⟩) (eh:t.h=hv):BorR st (AGX t hv t.pc d) (DTask.c t):=by
 subst eh
 have g:∀ (x:Value),UF st (.v x) (.v x):=fun x=>.inr ⟨rfl,rfl⟩
 have g1:UF st (.ow 64 3 (t.r.map DVal.c)) (.sl (t.r.map DVal.c)):=.inr ⟨rfl,by simp only[er,L8]⟩
 have g2:UF st (.ow 67 7 (t.q.p.l.map DPred.o)) (.sl (t.q.p.l.map DPred.c)):=.inr ⟨rfl,by simp only[er,JE]⟩
 have g3:UF st (.ow 3 1 (t.q.out.map intC)) (.sl (t.q.out.map intC)):=.inr ⟨rfl,by simp only[er,Ac]⟩
 have g4:UF st (.ref d) (.sl (t.l.map DRef.c)):=.inl ⟨d,_,rfl,h4,Ba _,by rw[Ci]⟩
 have g5:UF st (.ow 204 2 (t.got.map DRow.o)) (.sl (t.got.map DRow.c)):=.inr ⟨rfl,by simp only[er,Jo]⟩
 simp only[go_sem,BorR,AGX]
 exact ANN
theorem oM {st:List Ob} {b:DBuf} {a c y1 y2 z1 z2:Nat} {u1 u2 v1 v2:Bool} (h1:DT st a=some ⟨y1,z1,b.c0.l.map DSlot.o,u1,v1⟩) (h2:DT st c=some ⟨y2,z2,b.g.map byteC,u2,v2⟩):BorR st [.v (.int .i64 b.gen),.v (.int .i64 b.kind),.v (.int .i64 b.c0.next),.ref a,.ref c] (DBuf.c b):=by
 have g:∀ (x:Value),UF st (.v x) (.v x):=fun x=>.inr ⟨rfl,rfl⟩
 simp only[go_sem,BorR]
 exact⟨g _,g _,g _,.inl ⟨a,_,rfl,h1,FO _,by rw[Ia]⟩,.inl ⟨c,_,rfl,h2,Bv _,by rw[AAZ]⟩⟩
def uT (w:DWorld) (k op:Int):Bool:=Aa k 0 4&&((opAt w k==op)&&TV w)
theorem Ol (w:DWorld) (k op:Int) (hw0:DY w=true):Ctr prog 117 [.agg w.c,.c (.v (.int .i64 (k))),.c (.v (.int .i64 (op)))] [.val (.c (.v (.bool (uT w k op))))]:=by
 have hl:=Hm hw0
 refine CM call117 func117 ntmps117 results117 fun hw=>?_
 unfold uT
 simp only[go_sem]
 try refine AAm ?_
 try simp only[go_sem]
 first | refine AB5 _ (AL k 0 4) ?_ | refine AAT _ (AL k 0 4) fun _=>?_
 rcases h1:Aa k 0 4 with _ | _
 ·exact AMH
 obtain⟨n,rfl,hn⟩:=ZB h1 AOh
 have h2:n<w.tasks.length:=AOh
 have h3:n<w.p.length:=AOh
 have e:opAt w (n:Int)=w.tasks[n].op:=by simp[opAt,h2]
 have d2:decide ((n:Int)<(w.tasks.length:Int))=true:=AOj
 have d3:decide ((n:Int)<(w.p.length:Int))=true:=AOj
 simp only[go_sem,h1,ae,h2,h3,d2,d3,AA _ h2,e,aj]
 rcases h4:w.tasks[n].op==op with _ | _
 ·simp only[go_sem,h4,ai,ae,h2,h3,AA _ h2]
 simp only[go_sem,h4,ae,h2,h3,AA _ h2,aj]
 try refine AAm ?_
 try simp only[go_sem,ae,h2,h3,h4,AA _ h2]
 first | refine CY (Rx w) ?_ | refine CW (Rx w) fun _=>?_
 rw[lw hw0]
 rcases h5:TV w with _ | _<;>simp only[go_sem,h5,ae,h2,h3,AA _ h2,aJ,aK]
theorem yw {w:DWorld} {k op:Int} (h1:DY w=true) (h2:Aa k 0 2=true):uT w k op=NR w k op:=by
 have h3:Aa k 0 4=true:=by simp[Aa] at h2 ⊢; omega
 simp[uT,NR,Wi,h1,h2,h3]
end Go.Proofs.YtnoldekcdlaahaaGreat
