/- A part. -/
import Derived.Test.YtnoldekcdlaahaaGreatPVi
import Derived.Test.YtnoldekcdlaahaaGreatPVq
import Derived.Test.YtnoldekcdlaahaaGreatPVn
set_option linter.unusedSimpArgs false
set_option linter.unusedVariables false
set_option maxHeartbeats 8000000
set_option maxRecDepth 10000
open Go.Proofs.Tryz
namespace Go.Proofs.YtnoldekcdlaahaaGreat
open Go.Vm
section
variable {p q r:Prop}
theorem AQB(h:p:=by kernel_rfl):p:=h
end
def AD2 (t:DTask) (hv pc:Int) (d:Nat):List Cl:=[.v (.int .i64 t.op),.v (.int .i64 pc),.v (.int .i64 hv),.ow 64 3 (t.r.map DVal.c),.v (.int .i64 t.id),.v (.int .i64 t.q.kind),.v (.int .i64 t.q.p.kind),.v (.int .i64 t.q.p.col),.v (.int .i64 t.q.p.op),.v (.int .i64 t.q.p.v.ty),.v (.int .i64 t.q.p.v.n),.v (.string t.q.p.v.s),.ow 67 7 (t.q.p.l.map DPred.o),.v (.int .i64 t.q.col),.ow 3 1 (t.q.out.map intC),.v (.int .i64 t.ts),.v (.int .i64 t.ver),.ref d,.v (.int .i64 t.i),.v (.int .i64 t.j),.v (.int .i64 t.s),.v (.int .i64 t.at0),.v (.int .i64 t.own),.v (.bool t.won),.ow 204 2 (t.got.map DRow.o)]
theorem AJl {st:List Ob} {t:DTask} {hv:Int} {d y4 z4:Nat} {u4 v4:Bool} (h4:Cf st d=some ⟨y4,z4,t.l.map DRef.c,u4,v4⟩) (eh:t.h=hv):BorR st (AD2 t hv t.pc d) (DTask.c t):=by
 subst eh
 have g:∀ (x:Value),UF st (.v x) (.v x):=fun x=>.inr ⟨rfl,rfl⟩
 have g1:UF st (.ow 64 3 (t.r.map DVal.c)) (.sl (t.r.map DVal.c)):=.inr ⟨rfl,by simp only[er,FN]⟩
 have g2:UF st (.ow 67 7 (t.q.p.l.map DPred.o)) (.sl (t.q.p.l.map DPred.c)):=.inr ⟨rfl,by simp only[er,JF]⟩
 have g3:UF st (.ow 3 1 (t.q.out.map intC)) (.sl (t.q.out.map intC)):=.inr ⟨rfl,by simp only[er,Ah]⟩
 have g4:UF st (.ref d) (.sl (t.l.map DRef.c)):=.inl ⟨d,_,rfl,h4,BO _,by rw[DI]⟩
 have g5:UF st (.ow 204 2 (t.got.map DRow.o)) (.sl (t.got.map DRow.c)):=.inr ⟨rfl,by simp only[er,Jk]⟩
 simp only[go_sem,BorR,AD2]
 exact AM4
theorem UI {st:List Ob} {b:DBuf} {a c y1 y2 z1 z2:Nat} {u1 u2 v1 v2:Bool} (h1:Cf st a=some ⟨y1,z1,b.c0.l.map DSlot.o,u1,v1⟩) (h2:Cf st c=some ⟨y2,z2,b.g.map byteC,u2,v2⟩):BorR st [.v (.int .i64 b.gen),.v (.int .i64 b.kind),.v (.int .i64 b.c0.next),.ref a,.ref c] (DBuf.c b):=by
 have g:∀ (x:Value),UF st (.v x) (.v x):=fun x=>.inr ⟨rfl,rfl⟩
 simp only[go_sem,BorR]
 exact⟨g _,g _,g _,.inl ⟨a,_,rfl,h1,ED _,by rw[Fg]⟩,.inl ⟨c,_,rfl,h2,CQ _,by rw[zT]⟩⟩
def AFo (w:DWorld) (k op:Int):Bool:=Ad k 0 4&&((opAt w k==op)&&mM w)
theorem iU (w:DWorld) (k op:Int) (hw0:Ec w=true):Ctr prog 117 [.agg w.c,.c (.v (.int .i64 (k))),.c (.v (.int .i64 (op)))] [.val (.c (.v (.bool (AFo w k op))))]:=by
 have hl:=PW hw0
 refine CM call117 func117 ntmps117 results117 fun hw=>?_
 unfold AFo
 simp only[go_sem]
 try refine AAm ?_
 try simp only[go_sem]
 first | refine ABL _ (AL k 0 4) ?_ | refine AAM _ (AL k 0 4) fun _=>?_
 rcases h1:Ad k 0 4 with _ | _
 ·exact ALu
 obtain⟨n,rfl,hn⟩:=Yh h1 AOQ
 have h2:n<w.tasks.length:=AOQ
 have h3:n<w.p.length:=AOQ
 have e:opAt w (n:Int)=w.tasks[n].op:=by simp[opAt,h2]
 have d2:decide ((n:Int)<(w.tasks.length:Int))=true:=AOS
 have d3:decide ((n:Int)<(w.p.length:Int))=true:=AOS
 simp only[go_sem,h1,ae,h2,h3,d2,d3,AA _ h2,e,aj]
 rcases h4:w.tasks[n].op==op with _ | _
 ·simp only[go_sem,h4,ag,ae,h2,h3,AA _ h2]
 simp only[go_sem,h4,ae,h2,h3,AA _ h2,aj]
 try refine AAm ?_
 try simp only[go_sem,ae,h2,h3,h4,AA _ h2]
 first | refine CY (Xj w) ?_ | refine CW (Xj w) fun _=>?_
 rw[ABF hw0]
 rcases h5:mM w with _ | _<;>simp only[go_sem,h5,ae,h2,h3,AA _ h2,aP,aS]
theorem yO {w:DWorld} {k op:Int} (h1:Ec w=true) (h2:Ad k 0 2=true):AFo w k op=MC w k op:=by
 have h3:Ad k 0 4=true:=by simp[Ad] at h2 ⊢; omega
 simp[AFo,MC,WT,h1,h2,h3]
theorem NT {st:List Ob} {t:DTask} {hv:Int} {d y4 z4:Nat} {u4 v4:Bool} {xs:List (List Cl)} (h4:Cf st d=some ⟨y4,z4,xs,u4,v4⟩) (eh:t.h=hv) (hxs:xs=t.l.map DRef.c):BorR st (AD2 t hv t.pc d) (DTask.c t):=by
 subst hxs
 exact AJl h4 eh
theorem dI (w:DWorld) (k:Int) (hf:Aa w) (h1:Ec w=true) (h2:Ad k 0 2=true):Ctr prog 65 [.agg w.c,.c (.v (.int .i64 (k)))] [.agg (Q4 w k).o,.val (.c (.v (.bool (MC w k 1))))]:=by
 refine AC2 call65 func65 rfl mixed ntmps65 results65 AQB rfl fun hw=>?_
 simp only[go_sem]
 refine CW (Lm w hf) fun _=>?_
 simp only[go_sem]
 refine AAM [.val (.c (.v (.bool (MC w k 1))))] (by rw[← yO (op:=1) h1 h2]; simpa only[go_sem] using iU w k 1 h1) fun _=>?_
 rcases e1:MC w k 1 with _ | _
 ·simp only[go_sem,e1,Pm e1,aS]
  exact AKi
 obtain⟨n0,rfl,hn0⟩:=Yh h2 AOQ
 have h3:(opAt w (n0:Int)==1)=true:=by simp only[MC,WT,ay] at e1; exact e1.2.2.1
 obtain⟨n,hnn,hn,_,A⟩:=mQ hf h1 h2 h3 AOU (.inr trivial)
 obtain rfl:n0=n:=AOQ
 have e2:Q4 w (n0:Int)=EJ (Dt w n0 (Jm w n0)):=by simp[Q4,e1]
 generalize Jm w (n0:Int)=t at *
 obtain⟨hlt,hlp,hat,hh,hh0,hth,hown,hsw,hop2,hok,hld,hlm,hlb,hlr,ht5⟩:=A
 obtain⟨m,hm⟩:∃ m:Nat,t.h=m:=⟨_,hh0⟩
 have htm:t.h.toNat=m:=by rw[hm]; rfl
 rw[htm] at hh
 simp only[htm] at hsw
 have hF:∀ row:List Cl,((w.tasks.map DTask.o).set n0 row)[n0]?=some row∧((w.deeds.map DDeed.o).set m row)[m]?=some row:=fun row=>⟨bG (by simpa using hlt),bG (by simpa using hh)⟩
 have F:n0<w.tasks.length∧n0<w.p.length∧(∀ f:DTask→List Cl,(w.tasks.map f)[n0]?=some (f t))∧((w.p.map intC)[n0]?=some [.v (.int .i64 w.p[n0])])∧(∀ x,(w.p.map intC).set n0 [.v (.int .i64 x)]=(w.p.set n0 x).map intC) ∧
  m<w.deeds.length∧(∀ f:DDeed→List Cl,(w.deeds.map f)[m]?=some (f w.deeds[m]))∧t.h=(m:Int)∧DTask.o t=_∧(∀ row:List Cl,((w.tasks.map DTask.o).set n0 row)[n0]?=some row)∧(∀ row:List Cl,((w.deeds.map DDeed.o).set m row)[m]?=some row)∧DDeed.o w.deeds[m]=_:=
  ⟨hlt,hlp,fun f=>by rw[AA f hlt,hat],AA intC hlp,fun x=>Qh.symm,hh,fun f=>AA f hh,hm,DTask.o_eq t,fun row=>(hF row).1,fun row=>(hF row).2,DDeed.o_eq _⟩
 simp only[go_sem] at F
 have hst:∀ t':DTask,(w.tasks.map DTask.o).set n0 (DTask.o t')=(w.tasks.set n0 t').map DTask.o:=fun _=>Qh.symm
 have hsd:∀ g:DDeed→DDeed,(w.deeds.map DDeed.o).set m (DDeed.o (g w.deeds[m]))=(w.deeds.modify m g).map DDeed.o:=fun g=>by rw[Df g hh]; exact Qh.symm
 simp only[go_sem,e1,e2,aP]
 simp only[go_sem,F,ai,ah]
 have dm0:decide ((m:Int)<0)=false:=AOR
 have dm1:decide ((m:Int)≥(w.deeds.length:Int))=false:=AOS
 rcases p0:t.pc==0 with _ | _
 rotate_left
 ·have e9:t.pc=0:=by simpa using p0
  have ed:Dt w n0 t=Ce w n0 t:=AOb
  rw[ed]
  have hs1:=hst (Ed t 1)
  simp only[DTask.o_eq,BG,Gh,G7,F,go_sem,Ed,Ag,Be,Cj,BP] at hs1
  simp only[go_sem,F,ai,ah,p0]
  refine ACO (fn:=f119) call119 func119 rfl mixed ntmps119 results119 AQB rfl ?_
  simp only[go_sem,F,ai,ah]
  repeat (refine ABH ?_; simp only[go_sem,F,ai,ah])
  exact AK7
 simp only[go_sem,F,ai,ah,p0]
 rcases p1:t.pc==1 with _ | _
 rotate_left
 ·have e9:t.pc=1:=by simpa using p1
  have ed:Dt w n0 t=(if VX w=true then setT w n0 (Be w t [JG w] 2) else setT w n0 (Be w t [] 5)):=AOb
  rw[ed]
  simp only[go_sem,F,ai,ah,p1]
  refine ACK (args:=[.agg w.c]) _ (by simp only[EW,A7,Ia,DT,DI,Ah,go_sem]) rfl (Zk w hlr) fun _=>?_
  rcases q1:lastB w with _ | _
  ·simp only[VX,q1,ag,aj,aB,bf,aX]
   simp only[go_sem,F,ai,ah,q1]
   refine EndH.openR 8 n0 25 ?_
   simp only[openR,B_,go_sem,F,ai]
   refine EndH.close 8 n0 [12,13,14,15] (row':=DTask.o (Be w t [] 5)) rfl (hF _).1 rfl AOU ?_ ?_
   ·exact ALB
   simp only[AQ,Ap,go_sem,F,ai]
   have hs1:=hst (Be w t [] 5)
   simp only[go_sem] at hs1
   simp only[go_sem,F,ai,hs1]
   refine EndH.self ?_
   exact AGD
  rcases q2:(JG w).kind==1 with _ | _
  ·refine AOO ?_
   refine EndH.openR 8 n0 25 ?_
   simp only[openR,B_,go_sem,F,ai]
   refine EndH.close 8 n0 [12,13,14,15] (row':=DTask.o (Be w t [] 5)) rfl (hF _).1 rfl AOU ?_ ?_
   ·exact ALB
   simp only[AQ,Ap,go_sem,F,ai]
   have hs1:=hst (Be w t [] 5)
   simp only[go_sem] at hs1
   simp only[go_sem,F,ai,hs1]
   refine EndH.self ?_
   exact AGD
  refine AOO ?_
  refine EndH.openR 8 n0 25 ?_
  simp only[openR,B_,go_sem,F,ai]
  refine EndH.close 8 n0 [12,13,14,15,16] (row':=DTask.o (Be w t [JG w] 2)) rfl (hF _).1 rfl AOU ?_ ?_
  ·exact ALB
  simp only[AQ,Ap,go_sem,F,ai]
  have hs1:=hst (Be w t [JG w] 2)
  simp only[go_sem] at hs1
  simp only[go_sem,F,ai,hs1]
  refine EndH.self ?_
  exact AGD
 simp only[go_sem,F,ai,ah,p1]
 rcases p2:t.pc==2 with _ | _
 rotate_left
 ·have e9:t.pc=2:=by simpa using p2
  have ed:Dt w n0 t=(if BX (LZ w (l0 t)) (LZ w (l0 t)).next=true then setT (EM (Dn w (l0 t) (MM (LZ w (l0 t)))) t.h.toNat (idD (IntKind.i64.wrap ((l0 t).first+(LZ w (l0 t)).next)))) n0 (Cj t (LZ w (l0 t)).next) else setT w n0 (Ed t 5)):=AOb
  rw[ed]
  obtain⟨r,q,hq,hl1,hthr,hkr,hb,hbat,hcat,hix⟩:=Md hsw hok hth hop2 (by rw[e9]; rfl)
  have el0:l0 t=r:=AP3
  have hfb:=(MP hf hq).1
  have hq1:r.buf.toNat=q:=by rw[hb]; rfl
  have G:(r.kind != 1)=false∧KU (.c (.v (.int .i64 (r.buf))))=some q∧q<w.b.length∧(∀ f:DBuf→List Cl,(w.b.map f)[q]?=some (f w.b[q]))∧(∀ row:List Cl,((w.b.map DBuf.o).set q row)[q]?=some row):=⟨APO,APK,hq,fun f=>AA f hq,fun row=>bG AOi⟩
  have gx0:decide ((0:Int)<0)=false:=rfl
  have gx1:decide ((0:Int)≥((1:Nat):Int))=false:=rfl
  have gx2:KU (.c (.v (.int .i64 (0))))=some 0:=Ih .i64 0
  have hxs : [DRef.c r]=t.l.map DRef.c:=by rw[hl1]; rfl
  have hkn:(r.kind==1)=true:=hkr
  rw[el0,hcat]
  simp only[go_sem,F,ai,ah,hl1,G,ae,el0,aI,aW,gx0,gx1,gx2,p2]
  refine ACO (fn:=f153) call153 func153 rfl mixed ntmps153 results153 AQB rfl ?_
  simp only[go_sem,F,ai,ah,hl1,G,ae,el0,aI,aW,gx0,gx1,gx2]
  refine ACO (fn:=f118) call118 func118 rfl mixed ntmps118 results118 AQB rfl ?_
  simp only[go_sem,F,ai,ah,hl1,G,ae,el0,aI,aW,gx0,gx1,gx2]
  refine DrawK.headE (x:=some (8,4)) (Head.openR 4 q 5 0 _) AQB AQB ?_ AQB
  simp only[openR,B_,go_sem,F,G,hl1,el0,ai,ah]
  refine' ACP _ _ (ACR (fn:=f154) call154 func154 rfl mixed ntmps154 results154 AQB rfl fun m env=>?_) ?_
  rotate_left 2
  ·exact AEZ
  simp only[go_sem,F,ai,ah,hl1,G,ae,el0,aI,aW,gx0,gx1,gx2]
  refine ACK (args:=[.agg w.b[q].c0.c]) _ AOf AOd (iM w.b[q].c0 hfb) fun _=>?_
  rcases qh:BX w.b[q].c0 w.b[q].c0.next with _ | _
  ·have ei:U6 w.b[q].c0 = -1:=by simp only[U6,qh,aB,aX]
   have ec:MM w.b[q].c0=w.b[q].c0:=by simp only[MM,qh,aB,aX]
   have dm:decide ((-1:Int)<0)=true:=rfl
   simp only[go_sem,F,ai,ah,hl1,G,ae,el0,aI,aW,gx0,gx1,gx2,ei,ec,dm]
   have hs3:(w.b.map DBuf.o).set q (DBuf.o w.b[q])=w.b.map DBuf.o:=by rw[← Qh,abn]
   simp only[go_sem] at hs3
   refine EndH.openR 8 n0 25 ?_
   simp only[openR,B_,go_sem,F,ai]
   refine EndH.close 8 n0 [12,22,23,24,25] (row':=DTask.o (Ed t 5)) rfl (hF _).1 rfl AOU ?_ ?_
   ·exact AI4
   simp only[AQ,Ap,go_sem,F,ai]
   refine EndH.close 4 q [14,15] (row':=DBuf.o (w.b[q])) rfl (bG AOi) rfl AOU ?_ ?_
   ·exact AJ_
   simp only[AQ,Ap,go_sem,F,ai]
   have hs1:=hst (Ed t 5)
   simp only[go_sem] at hs1
   simp only[go_sem,F,ai,hs1,hs3]
   refine EndH.self ?_
   exact AMh
  have ei:U6 w.b[q].c0=w.b[q].c0.next:=by simp only[U6,qh,bf]
  have dm:decide (w.b[q].c0.next<0)=false:=by simp only[BX,ay,aZ] at qh; simp; omega
  simp only[go_sem,F,ai,ah,hl1,G,ae,el0,aI,aW,gx0,gx1,gx2,ei,dm]
  repeat (refine ABH ?_; simp only[go_sem,F,ai,ah,hl1,G,ae,el0,aI,aW,gx0,gx1,gx2])
  refine' ACP _ _ (ACR (fn:=f247) call247 func247 rfl mixed ntmps247 results247 AQB rfl fun m env=>?_) ?_
  rotate_left 2
  ·simp only[go_sem,F,ai,ah,hl1,G,ae,el0,aI,aW,gx0,gx1,gx2,dm0,dm1,ae]
   repeat (refine ABH ?_; simp only[go_sem,F,ai,ah,hl1,G,ae,el0,aI,aW,gx0,gx1,gx2,dm0,dm1,ae])
   exact⟨rfl,rfl⟩
  simp only[go_sem,F,ai,ah,hl1,G,ae,el0,aI,aW,gx0,gx1,gx2,dm0,dm1,ae]
  repeat (refine ABH ?_; simp only[go_sem,F,ai,ah,hl1,G,ae,el0,aI,aW,gx0,gx1,gx2,dm0,dm1,ae])
  have hsb:(w.b.map DBuf.o).set q (DBuf.o (Iw (MM w.b[q].c0) w.b[q]))=(w.b.modify q (Iw (MM w.b[q].c0))).map DBuf.o:=APl
  simp only[go_sem] at hsb
  have hs2:=hsd (idD (IntKind.i64.wrap (r.first+w.b[q].c0.next)))
  simp only[DDeed.o_eq,J9,YO,PY,idD,F,go_sem] at hs2
  refine EndH.openR 8 n0 25 ?_
  simp only[openR,B_,go_sem,F,ai]
  refine EndH.close 8 n0 [12,22,23,24,25] (row':=DTask.o (Cj t w.b[q].c0.next)) rfl (hF _).1 rfl AOU ?_ ?_
  ·exact AI4
  simp only[AQ,Ap,go_sem,F,ai]
  refine EndH.close 4 q [20,15] (row':=DBuf.o (Iw (MM w.b[q].c0) w.b[q])) rfl (bG AOi) rfl AOU ?_ ?_
  ·exact AJ_
  simp only[AQ,Ap,go_sem,F,ai]
  have hs1:=hst (Cj t w.b[q].c0.next)
  simp only[go_sem] at hs1
  simp only[go_sem,F,ai,hs1,hsb,hs2]
  refine EndH.self ?_
  exact AJ8
 simp only[go_sem,F,ai,ah,p2]
 rcases p3:t.pc==3 with _ | _
 rotate_left
 ·have e9:t.pc=3:=by simpa using p3
  have ed:Dt w n0 t=setT (Dn w (l0 t) (iE (LZ w (l0 t)) t.i t.r)) n0 (Ed t 4):=AOb
  rw[ed]
  obtain⟨r,q,hq,hl1,hthr,hkr,hb,hbat,hcat,hix⟩:=Md hsw hok hth hop2 (by rw[e9]; rfl)
  have el0:l0 t=r:=AP3
  have hfb:=(MP hf hq).1
  have hq1:r.buf.toNat=q:=by rw[hb]; rfl
  have G:(r.kind != 1)=false∧KU (.c (.v (.int .i64 (r.buf))))=some q∧q<w.b.length∧(∀ f:DBuf→List Cl,(w.b.map f)[q]?=some (f w.b[q]))∧(∀ row:List Cl,((w.b.map DBuf.o).set q row)[q]?=some row):=⟨APO,APK,hq,fun f=>AA f hq,fun row=>bG AOi⟩
  have gx0:decide ((0:Int)<0)=false:=rfl
  have gx1:decide ((0:Int)≥((1:Nat):Int))=false:=rfl
  have gx2:KU (.c (.v (.int .i64 (0))))=some 0:=Ih .i64 0
  have hxs : [DRef.c r]=t.l.map DRef.c:=by rw[hl1]; rfl
  have hkn:(r.kind==1)=true:=hkr
  rw[el0,hcat]
  simp only[go_sem,F,ai,ah,hl1,G,ae,el0,aI,aW,gx0,gx1,gx2,p3]
  refine ACO (fn:=f118) call118 func118 rfl mixed ntmps118 results118 AQB rfl ?_
  simp only[go_sem,F,ai,ah,hl1,G,ae,el0,aI,aW,gx0,gx1,gx2]
  refine InlK.mkO (fn:=f154) call154 func154 rfl mixed ntmps154 results154 AQB rfl _ (fun _=>Head.openS 4 q 5) ?_
  simp only[openR,B_,go_sem,F,G,hl1,el0,ai,ah]
  first | refine AC5 (.c (.v (.bool (there w r)))) (InlS.bor (args':=[.agg w.c,.agg r.c]) [.val (.c (.v (.bool (there w r))))] ⟨QM (AP rfl (AX _) (Ah _)) (AP rfl (BO _) (DI _)) (BorX.set rfl DBuf.o_nr DBuf.o_er fun x hx=>APP) (AP rfl (AX _) (Ah _)) (AP rfl (DY _) (DT _)) (AP rfl (AX _) (Ah _)) (BorX.set rfl DTask.o_nr DTask.o_er fun x hx=>APE) (AP rfl (DU _) (A7 _)),IK r,trivial⟩ rfl (BI w r)) ?_ | refine ACP _ _ (InlS.bor (args':=[.agg w.c,.agg r.c]) [.val (.c (.v (.bool (there w r))))] ⟨QM (AP rfl (AX _) (Ah _)) (AP rfl (BO _) (DI _)) (BorX.set rfl DBuf.o_nr DBuf.o_er fun x hx=>APP) (AP rfl (AX _) (Ah _)) (AP rfl (DY _) (DT _)) (AP rfl (AX _) (Ah _)) (BorX.set rfl DTask.o_nr DTask.o_er fun x hx=>APE) (AP rfl (DU _) (A7 _)),IK r,trivial⟩ rfl (BI w r)) ?_ | refine AC3 _ _ (InlS.bor (args':=[.agg w.c,.agg r.c]) [.val (.c (.v (.bool (there w r))))] ⟨QM (AP rfl (AX _) (Ah _)) (AP rfl (BO _) (DI _)) (BorX.set rfl DBuf.o_nr DBuf.o_er fun x hx=>APP) (AP rfl (AX _) (Ah _)) (AP rfl (DY _) (DT _)) (AP rfl (AX _) (Ah _)) (BorX.set rfl DTask.o_nr DTask.o_er fun x hx=>APE) (AP rfl (DU _) (A7 _)),IK r,trivial⟩ rfl (BI w r)) ?_
  simp only[go_sem,F,ai,ah,hl1,G,ae,el0,aI,aW,gx0,gx1,gx2,hthr]
  refine DrawK.headE (x:=none) (Head.openR 8 n0 25 0 _) AQB AQB ?_
  simp only[openR,B_,go_sem,F,hl1,ai,ah]
  have hrl:t.r.length≤1048576:=by have f7:=hf; rw[Ar] at f7; have:=f7.2.2.2.2.2.2.1.2 _ (ax hlt); rw[hat,DR] at this; exact this.1.1
  refine ACM (args:=[.agg w.b[q].c0.c,.c (.v (.int .i64 (t.i))),.c (.sl (t.r.map DVal.c))]) _ AOf AOd (rq w.b[q].c0 t.i t.r hfb hrl) ?_
  simp only[go_sem,F,ai,ah,hl1,G,ae,el0,aI,aW,gx0,gx1,gx2]
  repeat (refine ABH ?_; simp only[go_sem,F,ai,ah,hl1,G,ae,el0,aI,aW,gx0,gx1,gx2])
  have hsb:(w.b.map DBuf.o).set q (DBuf.o (Iw (iE w.b[q].c0 t.i t.r) w.b[q]))=(w.b.modify q (Iw (iE w.b[q].c0 t.i t.r))).map DBuf.o:=APl
  simp only[go_sem] at hsb
  refine EndH.close 8 n0 [12,20,21,22,23] (row':=DTask.o (Ed t 4)) rfl (hF _).1 rfl AOU ?_ ?_
  ·exact AI4
  simp only[AQ,Ap,go_sem,F,ai]
  refine EndH.close 4 q [24,15] (row':=DBuf.o (Iw (iE w.b[q].c0 t.i t.r) w.b[q])) rfl (bG AOi) rfl AOU ?_ ?_
  ·exact AJ_
  simp only[AQ,Ap,go_sem,F,ai]
  have hs1:=hst (Ed t 4)
  simp only[go_sem] at hs1
  simp only[go_sem,F,ai,hs1,hsb]
  refine EndH.self ?_
  exact AJ8
 simp only[go_sem,F,ai,ah,p3]
 rcases p4:t.pc==4 with _ | _
 rotate_left
 ·have e9:t.pc=4:=by simpa using p4
  have ed:Dt w n0 t=setT w n0 (Ag w t 6):=AOb
  rw[ed]
  have hs1:=hst (Ag w t 6)
  simp only[DTask.o_eq,BG,Gh,G7,F,go_sem,Ed,Ag,Be,Cj,BP] at hs1
  simp only[go_sem,F,ai,ah,p4]
  refine ACO (fn:=f123) call123 func123 rfl mixed ntmps123 results123 AQB rfl ?_
  simp only[go_sem,F,ai,ah]
  repeat (refine ABH ?_; simp only[go_sem,F,ai,ah])
  exact AK7
 simp only[go_sem,F,ai,ah,p4]
 rcases p5:t.pc==5 with _ | _
 rotate_left
 ·have e9:t.pc=5:=by simpa using p5
  have ed:Dt w n0 t=(if GN w.b<0 then codeW w n0 t 3 else setT (Di w (QI w.b w.c0.slots)) n0 (BP t (GN w.b+1) 8)):=AOb
  rw[ed]
  have hfbs:fitS E8 w.b:=AO9
  simp only[go_sem,F,ai,ah,p5]
  first | refine ACK (args:=[.c (.sl (w.b.map DBuf.c)),.c (.v (.int .i64 (1))),.c (.v (.int .i64 (w.c0.slots)))]) _ AOy AOs (dG w.b w.c0.slots hfbs) fun _=>?_ | (refine ABH ?_; simp only[go_sem,F,ai,ah]; refine ACM (args:=[.c (.sl (w.b.map DBuf.c)),.c (.v (.int .i64 (1))),.c (.v (.int .i64 (w.c0.slots)))]) _ AOy AOs (dG w.b w.c0.slots hfbs) ?_)
  rcases q1:decide (GN w.b<0) with _ | _
  ·have q2:¬ GN w.b<0:=by simpa using q1
   rw[bz q2]
   have hw1:IntKind.i64.wrap (GN w.b+1)=GN w.b+1:=by rcases WS Pj w.b with e | ⟨j,hj,e,_⟩<;>(have e2:GN w.b=_:=e; rw[e2]; exact wrap_i64 AOQ AOQ)
   have hs1:=hst (BP t (GN w.b+1) 8)
   simp only[DTask.o_eq,BG,Gh,G7,F,go_sem,Ed,Ag,Be,Cj,BP] at hs1
   simp only[go_sem,F,ai,ah,q1,hw1]
   repeat (refine ABH ?_; simp only[go_sem,F,ai,ah,q1,hw1])
   simp only[go_sem,F,ai,ah,hs1]
   refine EndH.self ?_
   exact AGD
  rw[bF (Yi q1)]
  have hs1:=hst (Ed t 9)
  simp only[DTask.o_eq,BG,Gh,G7,F,go_sem,Ed,Ag,Be,Cj,BP] at hs1
  have hs2:=hsd (J9 w 3)
  simp only[DDeed.o_eq,J9,YO,PY,idD,F,go_sem] at hs2
  simp only[go_sem,F,ai,ah,q1]
  refine ACO (fn:=f121) call121 func121 rfl mixed ntmps121 results121 AQB rfl ?_
  simp only[go_sem,F,ai,ah]
  refine ACO (fn:=f240) call240 func240 rfl mixed ntmps240 results240 AQB rfl ?_
  simp only[go_sem,F,ai,ah]
  refine' AC3 _ _ (ACR (fn:=f247) call247 func247 rfl mixed ntmps247 results247 AQB rfl fun m env=>?_) ?_
  rotate_left 2
  ·exact ALV
  simp only[go_sem,F,ai,ah,dm0,dm1,ae]
  repeat (refine ABH ?_; simp only[go_sem,F,ai,ah,dm0,dm1,ae])
  simp only[go_sem,F,ai,ah,hs1,hs2]
  refine EndH.self ?_
  exact AGD
 simp only[go_sem,F,ai,ah,p5]
 rcases p6:t.pc==6 with _ | _
 rotate_left
 ·have e9:t.pc=6:=by simpa using p6
  have ed:Dt w n0 t=setT (E_ w (l0 t) t.i.toNat (IntKind.i64.wrap ((l0 t).first+t.i)) t.s t.at0) n0 (Ed t 7):=AOb
  rw[ed]
  obtain⟨r,q,hq,hl1,hthr,hkr,hb,hbat,hcat,hix⟩:=Md hsw hok hth hop2 (by rw[e9]; rfl)
  have el0:l0 t=r:=AP3
  have hfb:=(MP hf hq).1
  have hq1:r.buf.toNat=q:=by rw[hb]; rfl
  have G:(r.kind != 1)=false∧KU (.c (.v (.int .i64 (r.buf))))=some q∧q<w.b.length∧(∀ f:DBuf→List Cl,(w.b.map f)[q]?=some (f w.b[q]))∧(∀ row:List Cl,((w.b.map DBuf.o).set q row)[q]?=some row):=⟨APO,APK,hq,fun f=>AA f hq,fun row=>bG AOi⟩
  have gx0:decide ((0:Int)<0)=false:=rfl
  have gx1:decide ((0:Int)≥((1:Nat):Int))=false:=rfl
  have gx2:KU (.c (.v (.int .i64 (0))))=some 0:=Ih .i64 0
  have hxs : [DRef.c r]=t.l.map DRef.c:=by rw[hl1]; rfl
  have hkn:(r.kind==1)=true:=hkr
  obtain⟨j,hj,hjl⟩:=hix (by rw[e9]; decide)
  have hjt:t.i.toNat=j:=by rw[hj]; rfl
  have hin:(((LZ w r).l[j]?).map DSlot.ins).getD 0=w.b[q].c0.l[j].ins:=by rw[hcat]; simp[hjl]
  have hSt:Ctr prog 242 [.agg w.b[q].c0.c,.c (.v (.int .i64 (t.i))),.c (.v (.int .i64 (t.s)))] [.agg (FU w.b[q].c0 j t.s).o,.val (.c (.v (.bool (NK w.b[q].c0.l[j].ins t.s))))]:=by rw[hj]; exact YQ w.b[q].c0 j t.s hfb hjl
  rw[el0,hjt]
  simp only[go_sem,F,ai,ah,hl1,G,ae,el0,aI,aW,gx0,gx1,gx2,p6]
  refine ACO (fn:=f118) call118 func118 rfl mixed ntmps118 results118 AQB rfl ?_
  simp only[go_sem,F,ai,ah,hl1,G,ae,el0,aI,aW,gx0,gx1,gx2]
  refine ABH ?_
  simp only[go_sem,F,ai,ah,hl1,G,ae,el0,aI,aW,gx0,gx1,gx2]
  rcases hB:NK w.b[q].c0.l[j].ins t.s with _ | _
  ·have eS:E_ w r j (IntKind.i64.wrap (r.first+t.i)) t.s t.at0=w:=by simp only[E_,hin,hB]; rfl
   rw[eS]
   refine' ACP _ _ (ACR (fn:=f124) call124 func124 rfl mixed ntmps124 results124 AQB rfl fun m env=>?_) ?_
   rotate_left 2
   ·simp only[go_sem,F,ai,ah,hl1,G,ae,el0,aI,aW,gx0,gx1,gx2]
    refine DrawK.headE (x:=some (8,4)) (Head.openR 4 q 5 0 _) AQB AQB ?_ AQB
    simp only[openR,B_,go_sem,F,G,hl1,el0,ai,ah]
    refine' ACP _ _ (ACR (fn:=f154) call154 func154 rfl mixed ntmps154 results154 AQB rfl fun m env=>?_) ?_
    rotate_left 2
    ·exact AEZ
    simp only[go_sem,F,ai,ah,hl1,G,ae,el0,aI,aW,gx0,gx1,gx2]
    first | refine ACK (args:=[.agg w.b[q].c0.c,.c (.v (.int .i64 (t.i))),.c (.v (.int .i64 (t.s)))]) _ AOf AOd hSt fun _=>?_ | (refine ABH ?_; simp only[go_sem,F,ai,ah,hl1,G,ae,el0,aI,aW,gx0,gx1,gx2]; refine ACM (args:=[.agg w.b[q].c0.c,.c (.v (.int .i64 (t.i))),.c (.v (.int .i64 (t.s)))]) _ AOf AOd hSt ?_)
    refine AON ?_
    exact⟨rfl,rfl⟩
   simp only[go_sem,F,ai,ah,hl1,G,ae,el0,aI,aW,gx0,gx1,gx2]
   repeat (refine ABH ?_; simp only[go_sem,F,ai,ah,hl1,G,ae,el0,aI,aW,gx0,gx1,gx2])
   have hs3:(w.b.map DBuf.o).set q (DBuf.o w.b[q])=w.b.map DBuf.o:=by rw[← Qh,abn]
   simp only[go_sem] at hs3
   refine EndH.openR 8 n0 25 ?_
   simp only[openR,B_,go_sem,F,ai]
   refine EndH.close 8 n0 [12,23,24,25,26] (row':=DTask.o (Ed t 7)) rfl (hF _).1 rfl AOU ?_ ?_
   ·exact AI4
   simp only[AQ,Ap,go_sem,F,ai]
   refine EndH.close 4 q [15,16] (row':=DBuf.o (w.b[q])) rfl (bG AOi) rfl AOU ?_ ?_
   ·exact AJ_
   simp only[AQ,Ap,go_sem,F,ai]
   have hs1:=hst (Ed t 7)
   simp only[go_sem] at hs1
   simp only[go_sem,F,ai,hs1,hs3]
   refine EndH.self ?_
   exact AI0
  have hsb:(w.b.map DBuf.o).set q (DBuf.o (Bh j t.s w.b[q]))=(w.b.set q (Bh j t.s w.b[q])).map DBuf.o:=Qh.symm
  simp only[go_sem] at hsb
  rcases hP:decide (Nv w.deeds (IntKind.i64.wrap (r.first+t.i))<0) with _ | _
  ·obtain⟨x,hx,e5⟩:=rX (by simpa using hP)
   have Q:Nv w.deeds (IntKind.i64.wrap (r.first+t.i))=(x:Int)∧x<w.deeds.length∧(∀ f:DDeed→List Cl,(w.deeds.map f)[x]?=some (f w.deeds[x]))∧(∀ row:List Cl,((w.deeds.map DDeed.o).set x row)[x]?=some row):=⟨e5,hx,fun f=>AA f hx,fun row=>bG (by simpa using hx)⟩
   have d0:decide ((x:Int)≥0)=true:=AOR
   have hx0:¬ ((x:Int)<0):=AOQ
   have eS:E_ w r j (IntKind.i64.wrap (r.first+t.i)) t.s t.at0=⟨w.c0,w.time,w.t,w.e,w.d,w.b.set q (Bh j t.s w.b[q]),w.m,w.x,w.p,w.tasks,w.deeds.modify x (PY t.s t.at0)⟩:=by simp only[E_,hin,hB,hq1,e5,Zi,bW,Df _ hq]; simp[hx0]
   rw[eS]
   refine' ACP _ _ (ACR (fn:=f124) call124 func124 rfl mixed ntmps124 results124 AQB rfl fun m env=>?_) ?_
   rotate_left 2
   ·simp only[go_sem,F,ai,ah,hl1,G,ae,el0,aI,aW,gx0,gx1,gx2]
    refine DrawK.headE (x:=some (8,4)) (Head.openR 4 q 5 0 _) AQB AQB ?_ AQB
    simp only[openR,B_,go_sem,F,G,hl1,el0,ai,ah]
    refine' ACP _ _ (ACR (fn:=f154) call154 func154 rfl mixed ntmps154 results154 AQB rfl fun m env=>?_) ?_
    rotate_left 2
    ·exact AEZ
    simp only[go_sem,F,ai,ah,hl1,G,ae,el0,aI,aW,gx0,gx1,gx2]
    first | refine ACK (args:=[.agg w.b[q].c0.c,.c (.v (.int .i64 (t.i))),.c (.v (.int .i64 (t.s)))]) _ AOf AOd hSt fun _=>?_ | (refine ABH ?_; simp only[go_sem,F,ai,ah,hl1,G,ae,el0,aI,aW,gx0,gx1,gx2]; refine ACM (args:=[.agg w.b[q].c0.c,.c (.v (.int .i64 (t.i))),.c (.v (.int .i64 (t.s)))]) _ AOf AOd hSt ?_)
    refine AON ?_
    repeat (refine ABH ?_; simp only[go_sem,F,ai,ah,hl1,G,ae,el0,aI,aW,gx0,gx1,gx2])
    first | refine ACK (args:=[.c (.sl (w.deeds.map DDeed.c)),.c (.v (.int .i64 (IntKind.i64.wrap (r.first+t.i))))]) _ AOo rfl (JZ w.deeds (IntKind.i64.wrap (r.first+t.i)) hld) fun _=>?_ | refine ACM (args:=[.c (.sl (w.deeds.map DDeed.c)),.c (.v (.int .i64 (IntKind.i64.wrap (r.first+t.i))))]) _ AOo rfl (JZ w.deeds (IntKind.i64.wrap (r.first+t.i)) hld) ?_ | refine AEQ (args:=[.c (.sl (w.deeds.map DDeed.c)),.c (.v (.int .i64 (IntKind.i64.wrap (r.first+t.i))))]) _ AOo rfl (JZ w.deeds (IntKind.i64.wrap (r.first+t.i)) hld) ?_
    simp only[go_sem,F,ai,ah,hl1,G,ae,el0,aI,aW,gx0,gx1,gx2,Q,d0]
    repeat (refine ABH ?_; simp only[go_sem,F,ai,ah,hl1,G,ae,el0,aI,aW,gx0,gx1,gx2,Q,d0])
    exact⟨rfl,rfl⟩
   simp only[go_sem,F,ai,ah,hl1,G,ae,el0,aI,aW,gx0,gx1,gx2,Q]
   repeat (refine ABH ?_; simp only[go_sem,F,ai,ah,hl1,G,ae,el0,aI,aW,gx0,gx1,gx2])
   have hs2:(w.deeds.map DDeed.o).set x (DDeed.o (PY t.s t.at0 w.deeds[x]))=(w.deeds.modify x (PY t.s t.at0)).map DDeed.o:=by rw[Df _ hx]; exact Qh.symm
   simp only[DDeed.o_eq,PY,go_sem] at hs2
   refine EndH.openR 8 n0 25 ?_
   simp only[openR,B_,go_sem,F,ai]
   refine EndH.close 8 n0 [12,23,24,25,26] (row':=DTask.o (Ed t 7)) rfl (hF _).1 rfl AOU ?_ ?_
   ·exact AI4
   simp only[AQ,Ap,go_sem,F,ai]
   refine EndH.close 4 q [21,16] (row':=DBuf.o (Bh j t.s w.b[q])) rfl (bG AOi) rfl AOU ?_ ?_
   ·exact AJ_
   simp only[AQ,Ap,go_sem,F,ai]
   have hs1:=hst (Ed t 7)
   simp only[go_sem] at hs1
   simp only[go_sem,F,ai,hs1,hsb,hs2]
   refine EndH.self ?_
   exact AI0
  ·have eS:E_ w r j (IntKind.i64.wrap (r.first+t.i)) t.s t.at0=⟨w.c0,w.time,w.t,w.e,w.d,w.b.set q (Bh j t.s w.b[q]),w.m,w.x,w.p,w.tasks,w.deeds⟩:=by simp only[E_,hin,hB,hq1,Zi,Df _ hq,bf,bF (Yi hP)]
   rw[eS]
   have d0:decide (Nv w.deeds (IntKind.i64.wrap (r.first+t.i))≥0)=false:=by simp at hP ⊢; omega
   refine' ACP _ _ (ACR (fn:=f124) call124 func124 rfl mixed ntmps124 results124 AQB rfl fun m env=>?_) ?_
   rotate_left 2
   ·simp only[go_sem,F,ai,ah,hl1,G,ae,el0,aI,aW,gx0,gx1,gx2]
    refine DrawK.headE (x:=some (8,4)) (Head.openR 4 q 5 0 _) AQB AQB ?_ AQB
    simp only[openR,B_,go_sem,F,G,hl1,el0,ai,ah]
    refine' ACP _ _ (ACR (fn:=f154) call154 func154 rfl mixed ntmps154 results154 AQB rfl fun m env=>?_) ?_
    rotate_left 2
    ·exact AEZ
    simp only[go_sem,F,ai,ah,hl1,G,ae,el0,aI,aW,gx0,gx1,gx2]
    first | refine ACK (args:=[.agg w.b[q].c0.c,.c (.v (.int .i64 (t.i))),.c (.v (.int .i64 (t.s)))]) _ AOf AOd hSt fun _=>?_ | (refine ABH ?_; simp only[go_sem,F,ai,ah,hl1,G,ae,el0,aI,aW,gx0,gx1,gx2]; refine ACM (args:=[.agg w.b[q].c0.c,.c (.v (.int .i64 (t.i))),.c (.v (.int .i64 (t.s)))]) _ AOf AOd hSt ?_)
    refine AON ?_
    repeat (refine ABH ?_; simp only[go_sem,F,ai,ah,hl1,G,ae,el0,aI,aW,gx0,gx1,gx2])
    first | refine ACK (args:=[.c (.sl (w.deeds.map DDeed.c)),.c (.v (.int .i64 (IntKind.i64.wrap (r.first+t.i))))]) _ AOo rfl (JZ w.deeds (IntKind.i64.wrap (r.first+t.i)) hld) fun _=>?_ | refine ACM (args:=[.c (.sl (w.deeds.map DDeed.c)),.c (.v (.int .i64 (IntKind.i64.wrap (r.first+t.i))))]) _ AOo rfl (JZ w.deeds (IntKind.i64.wrap (r.first+t.i)) hld) ?_ | refine AEQ (args:=[.c (.sl (w.deeds.map DDeed.c)),.c (.v (.int .i64 (IntKind.i64.wrap (r.first+t.i))))]) _ AOo rfl (JZ w.deeds (IntKind.i64.wrap (r.first+t.i)) hld) ?_
    simp only[go_sem,F,ai,ah,hl1,G,ae,el0,aI,aW,gx0,gx1,gx2,d0]
    exact⟨rfl,rfl⟩
   simp only[go_sem,F,ai,ah,hl1,G,ae,el0,aI,aW,gx0,gx1,gx2]
   repeat (refine ABH ?_; simp only[go_sem,F,ai,ah,hl1,G,ae,el0,aI,aW,gx0,gx1,gx2])
   refine EndH.openR 8 n0 25 ?_
   simp only[openR,B_,go_sem,F,ai]
   refine EndH.close 8 n0 [12,23,24,25,26] (row':=DTask.o (Ed t 7)) rfl (hF _).1 rfl AOU ?_ ?_
   ·exact AI4
   simp only[AQ,Ap,go_sem,F,ai]
   refine EndH.close 4 q [21,16] (row':=DBuf.o (Bh j t.s w.b[q])) rfl (bG AOi) rfl AOU ?_ ?_
   ·exact AJ_
   simp only[AQ,Ap,go_sem,F,ai]
   have hs1:=hst (Ed t 7)
   simp only[go_sem] at hs1
   simp only[go_sem,F,ai,hs1,hsb]
   refine EndH.self ?_
   exact AI0
 simp only[go_sem,F,ai,ah,p6]
 rcases p8:t.pc==8 with _ | _
 rotate_left
 ·have e9:t.pc=8:=by simpa using p8
  have ed:Dt w n0 t=(if(t.ver != w.d.ver)=true then setT (DV w t) n0 (BP t 0 1) else if UG w.d (DX w (t.own-1))=true then setT (A_ w (IW w.d (DX w (t.own-1)))) n0 (BP t 0 1) else codeW (DV w t) n0 (BP t 0 9) 3):=AOb
  rw[ed]
  have hfbs:fitS E8 w.b:=AO9
  obtain⟨q,hq,ho⟩:=jr hown hop2 e9
  have hw1:IntKind.i64.wrap (t.own-1)=t.own-1:=wrap_i64 AOQ AOQ
  have hob:KU (.c (.v (.int .i64 (t.own-1))))=some q:=by rw[show t.own-1=(q:Int) from AOQ]; exact Ih .i64 q
  have hgn:DX w (t.own-1)=⟨t.own-1,w.b[q].gen,1,endOf w.d,w.c0.slots⟩:=by simp[DX,show (t.own-1).toNat=q from AOQ,hq]
  have G:KU (.c (.v (.int .i64 (t.own-1))))=some q∧q<w.b.length∧(∀ f:DBuf→List Cl,(w.b.map f)[q]?=some (f w.b[q])):=⟨hob,hq,fun f=>AA f hq⟩
  simp only[go_sem,F,ai,ah,hw1,G,ae,p8]
  refine ACO (fn:=f157) call157 func157 rfl mixed ntmps157 results157 AQB rfl ?_
  simp only[go_sem,F,ai,ah,hw1,G,ae]
  try (refine AAm ?_; simp only[go_sem,F,ai,ah,hw1,G,ae])
  rcases q1:t.ver != w.d.ver with _ | _
  rotate_left
  ·simp only[go_sem,F,ai,ah,hw1,G,ae,q1]
   refine ACO (fn:=f263) call263 func263 rfl mixed ntmps263 results263 AQB rfl ?_
   simp only[go_sem,F,ai,ah,hw1,G,ae]
   first | refine ACK (args:=[.c (.sl (w.b.map DBuf.c)),.c (.v (.int .i64 (t.own-1)))]) _ AOy AOs (PV w.b (t.own-1) hfbs) fun _=>?_ | (refine ABH ?_; simp only[go_sem,F,ai,ah,hw1,G,ae]; refine ACM (args:=[.c (.sl (w.b.map DBuf.c)),.c (.v (.int .i64 (t.own-1)))]) _ AOy AOs (PV w.b (t.own-1) hfbs) ?_)
   simp only[go_sem,F,ai,ah,hw1,G,ae]
   repeat (refine ABH ?_; simp only[go_sem,F,ai,ah,hw1,G,ae])
   have hs1:=hst (BP t 0 1)
   simp only[DTask.o_eq,BG,Gh,G7,F,go_sem,Ed,Ag,Be,Cj,BP] at hs1
   simp only[go_sem,F,ai,ah,hw1,G,ae,hs1]
   refine EndH.self ?_
   simp only[go_sem,Ce,setT,codeW,endW,EM,Dn,Di,A_,DV,EJ,DWorld.o_eq,bf,htm,DV,Di]
   simp[AB,BJ,D6,Ed,Ag,Be,Cj,BP,hm,DV,Di]
  simp only[go_sem,F,ai,ah,hw1,G,ae,q1]
  refine ACU 16 9 AQB ?_
  simp only[go_sem,F,ai,ah,hw1,G,ae]
  refine ACM (args:=[.agg w.d.c]) _ (by simp only[DI,go_sem]) rfl (RJ w.d hlr) ?_
  have dge:decide (t.own-1≥0)=true:=AOS
  have dlt:decide (t.own-1<(w.b.length:Int))=true:=AOS
  simp only[go_sem,F,ai,ah,hw1,G,ae,dge,dlt]
  refine AAm ?_
  simp only[go_sem,F,ai,ah,hw1,G,ae,dge,dlt]
  refine ABH ?_
  simp only[go_sem,F,ai,ah,hw1,G,ae,dge,dlt]
  have hgr:DRef.c (DX w (t.own-1)) = [.v (.int .i64 (t.own-1)),.v (.int .i64 w.b[q].gen),.v (.int .i64 1),.v (.int .i64 (endOf w.d)),.v (.int .i64 w.c0.slots)]:=by rw[hgn]; rfl
  refine ACU 9 5 AQB ?_
  simp only[go_sem,F,ai,ah,hw1,G,ae]
  refine ACM (args:=[.agg w.d.c,.agg (DX w (t.own-1)).c]) _ (by simp only[DI,hgn,go_sem]) (by simp only[bi,Gn,ZC,bJ,aN]) (nz w.d (DX w (t.own-1)) (by have:=jv h1; omega)) ?_
  rcases q2:UG w.d (DX w (t.own-1)) with _ | _
  ·simp only[go_sem,F,ai,ah,hw1,G,ae,q2]
   refine ACO (fn:=f263) call263 func263 rfl mixed ntmps263 results263 AQB rfl ?_
   simp only[go_sem,F,ai,ah,hw1,G,ae]
   first | refine ACK (args:=[.c (.sl (w.b.map DBuf.c)),.c (.v (.int .i64 (t.own-1)))]) _ AOy AOs (PV w.b (t.own-1) hfbs) fun _=>?_ | (refine ABH ?_; simp only[go_sem,F,ai,ah,hw1,G,ae]; refine ACM (args:=[.c (.sl (w.b.map DBuf.c)),.c (.v (.int .i64 (t.own-1)))]) _ AOy AOs (PV w.b (t.own-1) hfbs) ?_)
   simp only[go_sem,F,ai,ah,hw1,G,ae]
   repeat (refine ABH ?_; simp only[go_sem,F,ai,ah,hw1,G,ae])
   refine ACO (fn:=f121) call121 func121 rfl mixed ntmps121 results121 AQB rfl ?_
   simp only[go_sem,F,ai,ah]
   refine ACO (fn:=f240) call240 func240 rfl mixed ntmps240 results240 AQB rfl ?_
   simp only[go_sem,F,ai,ah]
   refine' AC3 _ _ (ACR (fn:=f247) call247 func247 rfl mixed ntmps247 results247 AQB rfl fun m env=>?_) ?_
   rotate_left 2
   ·exact ALV
   simp only[go_sem,F,ai,ah,dm0,dm1,ae]
   repeat (refine ABH ?_; simp only[go_sem,F,ai,ah,dm0,dm1,ae])
   have eT:∀ b,J9 ⟨w.c0,w.time,w.t,w.e,w.d,b,w.m,w.x,w.p,w.tasks,w.deeds⟩ 3=J9 w 3:=fun _=>rfl
   have hs1:=hst (Ed (BP t 0 9) 9)
   simp only[DTask.o_eq,BG,Gh,G7,F,go_sem,Ed,Ag,Be,Cj,BP] at hs1
   have hs2:=hsd (J9 w 3)
   simp only[DDeed.o_eq,J9,YO,PY,idD,F,go_sem] at hs2
   simp only[go_sem,F,ai,ah,hw1,G,ae,hs1,hs2]
   refine EndH.self ?_
   simp only[go_sem,Ce,setT,codeW,endW,EM,Dn,Di,A_,DV,EJ,DWorld.o_eq,bf,htm,DV,Di,eT]
   simp[AB,BJ,D6,Ed,Ag,Be,Cj,BP,hm,DV,Di,eT]
  have eX:VW w.d (DX w (t.own-1))=IW w.d (DX w (t.own-1)):=by simp only[VW,q2,bf]
  obtain⟨hz1,hz4⟩:=Q5 h1
  have hzp:0<w.c0.slots:=AOQ
  have hzl:w.m.length+w.c0.slots.toNat≤2147483648:=AOQ
  have hmE:w.m.map intC++List.replicate w.c0.slots.toNat [Cl.v (.int .i64 0)]=(w.m++List.replicate w.c0.slots.toNat 0).map intC:=by simp[intC]
  try simp only[go_sem] at hmE
  simp only[go_sem,F,ai,ah,hw1,G,ae,q2,eX,hzp,hzl,hmE]
  repeat (refine ABH ?_; simp only[go_sem,F,ai,ah,hw1,G,ae,eX,hzp,hzl,hmE])
  have hs1:=hst (BP t 0 1)
  simp only[DTask.o_eq,BG,Gh,G7,F,go_sem,Ed,Ag,Be,Cj,BP] at hs1
  simp only[go_sem,F,ai,ah,hw1,G,ae,hs1,eX,hzp,hzl,hmE]
  refine EndH.self ?_
  simp only[go_sem,Ce,setT,codeW,endW,EM,Dn,Di,A_,DV,EJ,DWorld.o_eq,bf,htm,A_]
  simp[AB,BJ,D6,Ed,Ag,Be,Cj,BP,hm,A_]
 simp only[go_sem,F,ai,ah,p8]
 have ed:Dt w n0 t=endW w n0 t.h.toNat:=by simp only[Dt,p0,p1,p2,p3,p4,p5,p6,p8,aB,aX]
 rw[ed]
 refine ACO (fn:=f127) call127 func127 rfl mixed ntmps127 results127 AQB rfl ?_
 simp only[go_sem,F,ai,ah]
 refine ABH ?_
 simp only[go_sem,F,ai,ah,dm0,dm1,ae]
 refine' ACP _ _ (ACR (fn:=f247) call247 func247 rfl mixed ntmps247 results247 AQB rfl fun m env=>?_) ?_
 rotate_left 2
 ·exact ALV
 simp only[go_sem,F,ai,ah,dm0,dm1,ae]
 repeat (refine ABH ?_; simp only[go_sem,F,ai,ah,dm0,dm1,ae])
 have hs1:=hst BG
 try simp only[go_sem] at hs1
 have hs2:=hsd (YO w)
 simp only[DDeed.o_eq,J9,YO,PY,idD,F,go_sem] at hs2
 simp only[go_sem,hs2]
 have hsp:=F.2.2.2.2.1 (-1)
 try simp only[go_sem] at hsp
 try simp only[go_sem,F,ai,ah,hsp]
 refine EndH.close 8 n0 [] (row':=DTask.o BG) rfl (hF _).1 rfl AOU ?_ ?_
 ·exact AMp
 simp only[AQ,Ap,go_sem,F,ai]
 exact AK7
theorem iV (w:DWorld) (k:Int) (hf:Aa w):Ctr prog 15 [.agg w.c,.c (.v (.int .i64 (k)))] [.agg (Q4 w k).o,.val (.c (.v (.bool (MC w k 1))))]:=by
 refine AC2 call15 func15 rfl mixed ntmps15 results15 AQB rfl fun hw=>?_
 simp only[go_sem]
 refine CW (jI w hf) fun _=>?_
 rcases h1:Ec w with _ | _
 ·have e1:=Oq (k:=k) (op:=1) (.inl h1)
  simp only[go_sem,h1,e1,Pm e1,aS]
  try refine ABH ?_
  try simp only[go_sem]
  refine CW (Lm w hf) fun _=>?_
  simp only[go_sem]
  exact AKi
 simp only[go_sem,h1,aP]
 refine AAM _ (AL k 0 2) fun _=>?_
 rcases h2:Ad k 0 2 with _ | _
 ·have e1:=Oq (w:=w) (op:=1) (.inr (.inl h2))
  simp only[go_sem,h2,e1,Pm e1,aS]
  try refine ABH ?_
  try simp only[go_sem]
  refine CW (Lm w hf) fun _=>?_
  simp only[go_sem]
  exact AKi
 simp only[go_sem,h2,aP]
 refine CW (dI w k hf h1 h2) fun _=>?_
 simp only[go_sem]
 exact AKi
end Go.Proofs.YtnoldekcdlaahaaGreat
