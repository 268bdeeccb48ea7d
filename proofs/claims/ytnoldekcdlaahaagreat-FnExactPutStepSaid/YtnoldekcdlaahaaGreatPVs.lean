/- A part. -/
import Derived.Test.YtnoldekcdlaahaaGreatPVq
import Derived.Test.YtnoldekcdlaahaaGreatPVn
set_option linter.unusedSimpArgs false
set_option linter.unusedVariables false
set_option maxHeartbeats 8000000
set_option maxRecDepth 10000
open Go.Proofs.Tryz
namespace Go.Proofs.YtnoldekcdlaahaaGreat
open Go.Vm
section
variable {p q r:Prop}
theorem AQA(h:p:=by kernel_rfl):p:=h
end
def stW (a:Ob) (w:DWorld):List Ob:=[a,⟨44,14,[w.o],true,true⟩]
theorem AHb {a:Ob} (ha:Aw 2 a=true) (w:DWorld):(stW a w).all (Aw 2)=true:=by
 simp only[stW,bi,bJ,ha,aj]
 rfl
def dH:Ob:=⟨44,14,[[.v (.slice none 0 0),.v (.int .i64 0),.v (.int .i64 0),.v (.int .i64 0),.v (.int .i64 0),.v (.int .i64 0),.v (.int .i64 0),.v (.slice none 0 0),.v (.slice none 0 0),.v (.slice none 0 0),.v (.slice none 0 0),.v (.slice none 0 0),.v (.slice none 0 0),.v (.slice none 0 0)]],true,true⟩
def mK (w:DWorld):Nat→List Int
 | 0=>w.m
 | k+1=>mK w k ++ [0]
theorem AD1 (w:DWorld):∀ k,(mK w k).length=w.m.length+k
 | 0=>rfl
 | k+1=>by simp only[mK,bu,AD1 w k,aI,aW]; omega
theorem uN (w:DWorld):∀ k,mK w k=w.m++List.replicate k 0
 | 0=>by simp[mK]
 | k+1=>by rw[mK,uN w k,List.replicate_succ',bT]
theorem AAP (w:DWorld) (k:Nat):(mK w k).map intC ++ [[Cl.v (.int .i64 0)]]=(mK w (k+1)).map intC:=by simp only[mK,WU]; rfl
def UH (a:Ob) (w:DWorld) (r:DRef) (k:Nat) (l5:Bool) (g:List Ob):List Ob:=a::⟨44,14,[[.ref 2,.v (.int .i64 w.c0.slots),.v (.int .i64 w.c0.bufs),.v (.int .i64 w.time),.v (.int .i64 w.t),.v (.int .i64 w.e),.v (.int .i64 (IW w.d r).ver),.ref 10,.ref 4,.ref k,.ref 6,.ref 7,.ref 8,.ref 9]],true,true⟩ ::
 ⟨3,1,w.c0.cols.map intC,true,true⟩::⟨133,5,w.d.l.map DRef.c,true,true⟩::⟨142,5,w.b.map DBuf.o,true,true⟩::⟨3,1,(mK w 0).map intC,true,l5⟩::⟨145,3,w.x.map DDead.c,true,true⟩::⟨3,1,w.p.map intC,true,true⟩::⟨72,25,w.tasks.map DTask.o,true,true⟩::⟨152,25,w.deeds.map DDeed.o,true,true⟩ ::
 ⟨133,5,(IW w.d r).l.map DRef.c,true,true⟩::⟨38,2,[[.v (.int .i64 (IW w.d r).ver),.ref 10]],true,true⟩::g
def zO:Ob:=⟨3,1,[[.v (.int .i64 0)]],true,true⟩
def mO (w:DWorld) (k:Nat) (l:Bool):Ob:=⟨3,1,(mK w k).map intC,true,l⟩
def ABt (a:Ob) (w:DWorld) (r:DRef):Nat→List Ob
 | 0=>UH a w r 5 true []
 | 1=>UH a w r 13 false [zO,mO w 1 true]
 | 2=>UH a w r 15 false [zO,mO w 1 false,zO,mO w 2 true]
 | 3=>UH a w r 17 false [zO,mO w 1 false,zO,mO w 2 false,zO,mO w 3 true]
 | _=>UH a w r 19 false [zO,mO w 1 false,zO,mO w 2 false,zO,mO w 3 false,zO,mO w 4 true]
theorem AFn (a:Ob) (ha:Aw 2 a=true) (w:DWorld) (n0:Nat) (hf:Aa w) (h1:Ec w=true) (h2:Ad (n0:Int) 0 2=true) (h3:(opAt w (n0:Int)==1)=true):InlS prog 64 (stW a w) [.lp 1 0 0,.c (.v (.int .i64 ((n0:Int))))] (.tup []) (stW a (Dt w n0 (Jm w n0))):=by
 obtain⟨n,hnn,hn,_,A⟩:=mQ hf h1 h2 h3 AOU (.inr trivial)
 obtain rfl:n0=n:=AOQ
 generalize Jm w (n0:Int)=t at *
 obtain⟨hlt,hlp,hat,hh,hh0,hth,hown,hsw,hop2,hok,hld,hlm,hlb,hlr,ht5⟩:=A
 obtain⟨m,hm⟩:∃ m:Nat,t.h=m:=⟨_,hh0⟩
 have htm:t.h.toNat=m:=by rw[hm]; rfl
 rw[htm] at hh
 simp only[htm] at hsw
 have hF:∀ row:List Cl,((w.tasks.map DTask.o).set n0 row)[n0]?=some row∧((w.deeds.map DDeed.o).set m row)[m]?=some row:=fun row=>⟨bG (by simpa using hlt),bG (by simpa using hh)⟩
 have F:n0<w.tasks.length∧n0<w.p.length∧(∀ f:DTask→List Cl,(w.tasks.map f)[n0]?=some (f t))∧((w.p.map intC)[n0]?=some [.v (.int .i64 w.p[n0])])∧(∀ x,(w.p.map intC).set n0 [.v (.int .i64 x)]=(w.p.set n0 x).map intC) ∧
  m<w.deeds.length∧(∀ f:DDeed→List Cl,(w.deeds.map f)[m]?=some (f w.deeds[m]))∧t.h=(m:Int)∧DTask.o t=_∧(∀ row:List Cl,((w.tasks.map DTask.o).set n0 row)[n0]?=some row)∧(∀ row:List Cl,((w.deeds.map DDeed.o).set m row)[m]?=some row)∧DDeed.o w.deeds[m]=_:=
  ⟨hlt,hlp,fun f=>by rw[AA f hlt,hat],AA intC hlp,fun x=>Qh.symm,hh,fun f=>AA f hh,hm,DTask.o_eq t,fun row=>(hF row).1,fun row=>(hF row).2,DDeed.o_eq _⟩
 simp only[go_sem] at F
 have hst:∀ t':DTask,(w.tasks.map DTask.o).set n0 (DTask.o t')=(w.tasks.set n0 t').map DTask.o:=fun _=>Qh.symm
 have hsd:∀ g:DDeed→DDeed,(w.deeds.map DDeed.o).set m (DDeed.o (g w.deeds[m]))=(w.deeds.modify m g).map DDeed.o:=fun g=>by rw[Df g hh]; exact Qh.symm
 refine InlS.mkT (fn:=f64) call64 func64 rfl mixed ntmps64 results64 AQA rfl rfl rfl (AHb ha _) (openR 1 0 14 0 (stW a w)) (fun m env=>Head.openR 1 0 14 0 _) fun mm env=>?_
 simp only[stW,openR,B_,go_sem]
 simp only[go_sem,F,ai,ah]
 rcases p0:t.pc==0 with _ | _
 rotate_left
 ·have e9:t.pc=0:=by simpa using p0
  have ed:Dt w n0 t=Ce w n0 t:=AOb
  rw[ed]
  have hs1:=hst (Ed t 1)
  simp only[DTask.o_eq,BG,Gh,G7,F,go_sem,Ed,Ag,Be,Cj,BP] at hs1
  simp only[go_sem,F,ai,ah,p0]
  refine ABH ?_
  simp only[go_sem,F,ai,ah,hs1]
  refine inlT.head (Head.close 1 0 [2,3,4,5,6,7,8,9] (row':=DWorld.o (Ce w n0 t)) rfl rfl rfl AOU ?_) rfl ?_
  ·exact AGD
  exact AGE
 simp only[go_sem,F,ai,ah,p0]
 rcases p1:t.pc==1 with _ | _
 rotate_left
 ·have e9:t.pc=1:=by simpa using p1
  have ed:Dt w n0 t=(if VX w=true then setT w n0 (Be w t [JG w] 2) else setT w n0 (Be w t [] 5)):=AOb
  rw[ed]
  simp only[go_sem,F,ai,ah,p1]
  refine ACK (args:=[.agg w.c]) _ (by simp only[EW,A7,Ia,DT,DI,Ah,go_sem]) rfl (Zj w hlr) fun _=>?_
  rcases q1:lastB w with _ | _
  ·simp only[VX,q1,ag,aj,aB,bf,aX]
   simp only[go_sem,F,ai,ah,q1]
   refine inlT.head (Head.openR 8 n0 25 0 _) rfl ?_
   simp only[openR,B_,go_sem,F,ai]
   refine inlT.head (Head.close 8 n0 [11,12,13,14,15] (row':=DTask.o (Be w t [] 5)) rfl (hF _).1 rfl AOU ?_) rfl ?_
   ·exact ALB
   simp only[AQ,Ap,go_sem,F,ai]
   have hs1:=hst (Be w t [] 5)
   simp only[go_sem] at hs1
   simp only[go_sem,F,ai,hs1]
   refine inlT.head (Head.close 1 0 [2,3,4,5,6,7,8,9] (row':=DWorld.o (setT w n0 (Be w t [] 5))) rfl rfl rfl AOU ?_) rfl ?_
   ·exact AGD
   exact AGE
  rcases q2:(JG w).kind==1 with _ | _
  ·refine AOO ?_
   refine inlT.head (Head.openR 8 n0 25 0 _) rfl ?_
   simp only[openR,B_,go_sem,F,ai]
   refine inlT.head (Head.close 8 n0 [11,12,13,14,15] (row':=DTask.o (Be w t [] 5)) rfl (hF _).1 rfl AOU ?_) rfl ?_
   ·exact ALB
   simp only[AQ,Ap,go_sem,F,ai]
   have hs1:=hst (Be w t [] 5)
   simp only[go_sem] at hs1
   simp only[go_sem,F,ai,hs1]
   refine inlT.head (Head.close 1 0 [2,3,4,5,6,7,8,9] (row':=DWorld.o (setT w n0 (Be w t [] 5))) rfl rfl rfl AOU ?_) rfl ?_
   ·exact AGD
   exact AGE
  refine AOO ?_
  refine inlT.head (Head.openR 8 n0 25 0 _) rfl ?_
  simp only[openR,B_,go_sem,F,ai]
  refine inlT.head (Head.close 8 n0 [12,13,14,15,16] (row':=DTask.o (Be w t [JG w] 2)) rfl (hF _).1 rfl AOU ?_) rfl ?_
  ·exact ALB
  simp only[AQ,Ap,go_sem,F,ai]
  have hs1:=hst (Be w t [JG w] 2)
  simp only[go_sem] at hs1
  simp only[go_sem,F,ai,hs1]
  refine inlT.head (Head.close 1 0 [2,3,4,5,6,7,8,9] (row':=DWorld.o (setT w n0 (Be w t [JG w] 2))) rfl rfl rfl AOU ?_) rfl ?_
  ·exact AGD
  exact AGE
 simp only[go_sem,F,ai,ah,p1]
 rcases p2:t.pc==2 with _ | _
 rotate_left
 ·have e9:t.pc=2:=by simpa using p2
  have ed:Dt w n0 t=(if BX (LZ w (l0 t)) (LZ w (l0 t)).next=true then setT (EM (Dn w (l0 t) (MM (LZ w (l0 t)))) t.h.toNat (idD (IntKind.i64.wrap ((l0 t).first+(LZ w (l0 t)).next)))) n0 (Cj t (LZ w (l0 t)).next) else setT w n0 (Ed t 5)):=AOb
  rw[ed]
  obtain⟨r,q,hq,hl1,hthr,hkr,hb,hbat,hcat,hix⟩:=Md hsw hok hth hop2 (by rw[e9]; rfl)
  have el0:l0 t=r:=AP3
  have hfb:=(MP hf hq).1
  have hq1:r.buf.toNat=q:=by rw[hb]; rfl
  have G:(r.kind != 1)=false∧KU (.c (.v (.int .i64 (r.buf))))=some q∧q<w.b.length∧(∀ f:DBuf→List Cl,(w.b.map f)[q]?=some (f w.b[q]))∧(∀ row:List Cl,((w.b.map DBuf.o).set q row)[q]?=some row):=⟨APO,APK,hq,fun f=>AA f hq,fun row=>bG AOi⟩
  rw[el0,hcat]
  simp only[go_sem,F,ai,ah,hl1,G,ae,el0,p2]
  refine ACO (fn:=f147) call147 func147 rfl mixed ntmps147 results147 AQA rfl ?_
  simp only[go_sem,F,ai,ah,hl1,G,ae,el0]
  refine DrawK.headE (x:=some (18,14)) (Head.trans (Head.openR 8 n0 25 0 _) (Head.openR 4 q 5 0 _)) AQA AQA ?_ AQA
  simp only[openR,B_,go_sem,F,G,hl1,el0,ai,ah]
  refine ACM (args:=[.agg w.b[q].c0.c]) _ AOf AOd (iL w.b[q].c0 hfb) ?_
  rcases qh:BX w.b[q].c0 w.b[q].c0.next with _ | _
  ·have ei:U6 w.b[q].c0 = -1:=by simp only[U6,qh,aB,aX]
   have ec:MM w.b[q].c0=w.b[q].c0:=by simp only[MM,qh,aB,aX]
   have dm:decide ((-1:Int)<0)=true:=rfl
   simp only[go_sem,F,ai,ah,hl1,G,ae,el0,ei,ec,dm]
   have hs3:(w.b.map DBuf.o).set q (DBuf.o w.b[q])=w.b.map DBuf.o:=by rw[← Qh,abn]
   simp only[go_sem] at hs3
   refine inlT.head (Head.close 8 n0 [10,11,12,13,14] (row':=DTask.o (Ed t 5)) rfl (hF _).1 rfl AOU ?_) rfl ?_
   ·exact AI4
   simp only[AQ,Ap,go_sem,F,ai]
   refine inlT.head (Head.close 4 q [15,16] (row':=DBuf.o (w.b[q])) rfl (bG AOi) rfl AOU ?_) rfl ?_
   ·exact AJ_
   simp only[AQ,Ap,go_sem,F,ai]
   have hs1:=hst (Ed t 5)
   simp only[go_sem] at hs1
   simp only[go_sem,F,ai,hs1,hs3]
   refine inlT.head (Head.close 1 0 [2,3,4,5,6,7,8,9] (row':=DWorld.o (setT w n0 (Ed t 5))) rfl rfl rfl AOU ?_) rfl ?_
   ·exact AMh
   exact AGE
  have ei:U6 w.b[q].c0=w.b[q].c0.next:=by simp only[U6,qh,bf]
  have dm:decide (w.b[q].c0.next<0)=false:=by simp only[BX,ay,aZ] at qh; simp; omega
  simp only[go_sem,F,ai,ah,hl1,G,ae,el0,ei,dm]
  repeat (refine ABH ?_; simp only[go_sem,F,ai,ah,hl1,G,ae,el0])
  have hsb:(w.b.map DBuf.o).set q (DBuf.o (Iw (MM w.b[q].c0) w.b[q]))=(w.b.modify q (Iw (MM w.b[q].c0))).map DBuf.o:=APl
  simp only[go_sem] at hsb
  have hs2:=hsd (idD (IntKind.i64.wrap (r.first+w.b[q].c0.next)))
  simp only[DDeed.o_eq,J9,YO,PY,idD,F,go_sem] at hs2
  refine inlT.head (Head.close 8 n0 [10,11,12,13,14] (row':=DTask.o (Cj t w.b[q].c0.next)) rfl (hF _).1 rfl AOU ?_) rfl ?_
  ·exact AI4
  simp only[AQ,Ap,go_sem,F,ai]
  refine inlT.head (Head.close 4 q [17,16] (row':=DBuf.o (Iw (MM w.b[q].c0) w.b[q])) rfl (bG AOi) rfl AOU ?_) rfl ?_
  ·exact AJ_
  simp only[AQ,Ap,go_sem,F,ai]
  have hs1:=hst (Cj t w.b[q].c0.next)
  simp only[go_sem] at hs1
  simp only[go_sem,F,ai,hs1,hsb,hs2]
  refine inlT.head (Head.close 1 0 [2,3,4,5,6,7,8,9] (row':=DWorld.o (setT (EM (Dn w r (MM w.b[q].c0)) m (idD (IntKind.i64.wrap (r.first+w.b[q].c0.next)))) n0 (Cj t w.b[q].c0.next))) rfl rfl rfl AOU ?_) rfl ?_
  ·exact AJ8
  exact AGE
 simp only[go_sem,F,ai,ah,p2]
 rcases p3:t.pc==3 with _ | _
 rotate_left
 ·have e9:t.pc=3:=by simpa using p3
  have ed:Dt w n0 t=setT (Dn w (l0 t) (iE (LZ w (l0 t)) t.i t.r)) n0 (Ed t 4):=AOb
  rw[ed]
  obtain⟨r,q,hq,hl1,hthr,hkr,hb,hbat,hcat,hix⟩:=Md hsw hok hth hop2 (by rw[e9]; rfl)
  have el0:l0 t=r:=AP3
  have hfb:=(MP hf hq).1
  have hq1:r.buf.toNat=q:=by rw[hb]; rfl
  have G:(r.kind != 1)=false∧KU (.c (.v (.int .i64 (r.buf))))=some q∧q<w.b.length∧(∀ f:DBuf→List Cl,(w.b.map f)[q]?=some (f w.b[q]))∧(∀ row:List Cl,((w.b.map DBuf.o).set q row)[q]?=some row):=⟨APO,APK,hq,fun f=>AA f hq,fun row=>bG AOi⟩
  rw[el0,hcat]
  simp only[go_sem,F,ai,ah,hl1,G,ae,el0,p3]
  refine DrawK.headE (x:=some (20,16)) (Head.trans (Head.openR 8 n0 25 0 _) (Head.openR 4 q 5 0 _)) AQA AQA ?_ AQA
  simp only[openR,B_,go_sem,F,G,hl1,el0,ai,ah]
  have hrl:t.r.length≤1048576:=by have f7:=hf; rw[Ar] at f7; have:=f7.2.2.2.2.2.2.1.2 _ (ax hlt); rw[hat,DR] at this; exact this.1.1
  refine ACM (args:=[.agg w.b[q].c0.c,.c (.v (.int .i64 (t.i))),.c (.sl (t.r.map DVal.c))]) _ AOf AOd (rf w.b[q].c0 t.i t.r hfb hrl) ?_
  simp only[go_sem,F,ai,ah,hl1,G,ae,el0]
  repeat (refine ABH ?_; simp only[go_sem,F,ai,ah,hl1,G,ae,el0])
  have hsb:(w.b.map DBuf.o).set q (DBuf.o (Iw (iE w.b[q].c0 t.i t.r) w.b[q]))=(w.b.modify q (Iw (iE w.b[q].c0 t.i t.r))).map DBuf.o:=APl
  simp only[go_sem] at hsb
  refine inlT.head (Head.close 8 n0 [10,11,12,13,14] (row':=DTask.o (Ed t 4)) rfl (hF _).1 rfl AOU ?_) rfl ?_
  ·exact AI4
  simp only[AQ,Ap,go_sem,F,ai]
  refine inlT.head (Head.close 4 q [17,16] (row':=DBuf.o (Iw (iE w.b[q].c0 t.i t.r) w.b[q])) rfl (bG AOi) rfl AOU ?_) rfl ?_
  ·exact AJ_
  simp only[AQ,Ap,go_sem,F,ai]
  have hs1:=hst (Ed t 4)
  simp only[go_sem] at hs1
  simp only[go_sem,F,ai,hs1,hsb]
  refine inlT.head (Head.close 1 0 [2,3,4,5,6,7,8,9] (row':=DWorld.o (setT (Dn w r (iE w.b[q].c0 t.i t.r)) n0 (Ed t 4))) rfl rfl rfl AOU ?_) rfl ?_
  ·exact AJ8
  exact AGE
 simp only[go_sem,F,ai,ah,p3]
 rcases p4:t.pc==4 with _ | _
 rotate_left
 ·have e9:t.pc=4:=by simpa using p4
  have ed:Dt w n0 t=setT w n0 (Ag w t 6):=AOb
  rw[ed]
  have hs1:=hst (Ag w t 6)
  simp only[DTask.o_eq,BG,Gh,G7,F,go_sem,Ed,Ag,Be,Cj,BP] at hs1
  simp only[go_sem,F,ai,ah,p4]
  repeat (refine ABH ?_; simp only[go_sem,F,ai,ah])
  simp only[go_sem,F,ai,ah,hs1]
  refine inlT.head (Head.close 1 0 [2,3,4,5,6,7,8,9] (row':=DWorld.o (setT w n0 (Ag w t 6))) rfl rfl rfl AOU ?_) rfl ?_
  ·exact AGD
  exact AGE
 simp only[go_sem,F,ai,ah,p4]
 rcases p5:t.pc==5 with _ | _
 rotate_left
 ·have e9:t.pc=5:=by simpa using p5
  have ed:Dt w n0 t=(if GN w.b<0 then codeW w n0 t 3 else setT (Di w (QI w.b w.c0.slots)) n0 (BP t (GN w.b+1) 8)):=AOb
  rw[ed]
  have hfbs:fitS E8 w.b:=AO9
  simp only[go_sem,F,ai,ah,p5]
  refine ABH ?_
  simp only[go_sem,F,ai,ah]
  refine ACM (args:=[.c (.sl (w.b.map DBuf.c)),.c (.v (.int .i64 (1))),.c (.v (.int .i64 (w.c0.slots)))]) _ AOy AOs (yN w.b w.c0.slots hfbs) ?_
  rcases q1:decide (GN w.b<0) with _ | _
  ·have q2:¬ GN w.b<0:=by simpa using q1
   rw[bz q2]
   have hw1:IntKind.i64.wrap (GN w.b+1)=GN w.b+1:=by rcases WS Pj w.b with e | ⟨j,hj,e,_⟩<;>(have e2:GN w.b=_:=e; rw[e2]; exact wrap_i64 AOQ AOQ)
   have hs1:=hst (BP t (GN w.b+1) 8)
   simp only[DTask.o_eq,BG,Gh,G7,F,go_sem,Ed,Ag,Be,Cj,BP] at hs1
   simp only[go_sem,F,ai,ah,q1,hw1]
   repeat (refine ABH ?_; simp only[go_sem,F,ai,ah,q1,hw1])
   simp only[go_sem,F,ai,ah,hs1]
   refine inlT.head (Head.close 1 0 [2,3,10,5,6,7,8,9] (row':=DWorld.o (setT (Di w (QI w.b w.c0.slots)) n0 (BP t (GN w.b+1) 8))) rfl rfl rfl AOU ?_) rfl ?_
   ·exact AGD
   exact AGE
  rw[bF (Yi q1)]
  have hs1:=hst (Ed t 9)
  simp only[DTask.o_eq,BG,Gh,G7,F,go_sem,Ed,Ag,Be,Cj,BP] at hs1
  have hs2:=hsd (J9 w 3)
  simp only[DDeed.o_eq,J9,YO,PY,idD,F,go_sem] at hs2
  simp only[go_sem,F,ai,ah,q1]
  refine ACO (fn:=f150) call150 func150 rfl mixed ntmps150 results150 AQA rfl ?_
  simp only[go_sem,F,ai,ah]
  repeat (refine ABH ?_; simp only[go_sem,F,ai,ah])
  simp only[go_sem,F,ai,ah,hs1,hs2]
  refine inlT.head (Head.close 1 0 [2,3,4,5,6,7,8,9] (row':=DWorld.o (codeW w n0 t 3)) rfl rfl rfl AOU ?_) rfl ?_
  ·exact AGD
  exact AGE
 simp only[go_sem,F,ai,ah,p5]
 rcases p6:t.pc==6 with _ | _
 rotate_left
 ·have e9:t.pc=6:=by simpa using p6
  have ed:Dt w n0 t=setT (E_ w (l0 t) t.i.toNat (IntKind.i64.wrap ((l0 t).first+t.i)) t.s t.at0) n0 (Ed t 7):=AOb
  rw[ed]
  obtain⟨r,q,hq,hl1,hthr,hkr,hb,hbat,hcat,hix⟩:=Md hsw hok hth hop2 (by rw[e9]; rfl)
  have el0:l0 t=r:=AP3
  have hfb:=(MP hf hq).1
  have hq1:r.buf.toNat=q:=by rw[hb]; rfl
  have G:(r.kind != 1)=false∧KU (.c (.v (.int .i64 (r.buf))))=some q∧q<w.b.length∧(∀ f:DBuf→List Cl,(w.b.map f)[q]?=some (f w.b[q]))∧(∀ row:List Cl,((w.b.map DBuf.o).set q row)[q]?=some row):=⟨APO,APK,hq,fun f=>AA f hq,fun row=>bG AOi⟩
  obtain⟨j,hj,hjl⟩:=hix (by rw[e9]; decide)
  have hjt:t.i.toNat=j:=by rw[hj]; rfl
  have hin:(((LZ w r).l[j]?).map DSlot.ins).getD 0=w.b[q].c0.l[j].ins:=by rw[hcat]; simp[hjl]
  have hSt:Ctr prog 207 [.agg w.b[q].c0.c,.c (.v (.int .i64 (t.i))),.c (.v (.int .i64 (t.s)))] [.agg (FU w.b[q].c0 j t.s).o,.val (.c (.v (.bool (NK w.b[q].c0.l[j].ins t.s))))]:=by rw[hj]; exact YP w.b[q].c0 j t.s hfb hjl
  rw[el0,hjt]
  have hxs : [DRef.c r]=t.l.map DRef.c:=by rw[hl1]; rfl
  simp only[go_sem,F,ai,ah,hl1,G,ae,el0,p6]
  refine DrawK.headE (x:=none) (Head.openR 8 n0 25 0 _) AQA AQA ?_
  simp only[openR,B_,go_sem,F,hl1,ai,ah]
  rcases hB:NK w.b[q].c0.l[j].ins t.s with _ | _
  ·have eS:E_ w r j (IntKind.i64.wrap (r.first+t.i)) t.s t.at0=w:=by simp only[E_,hin,hB]; rfl
   rw[eS]
   refine' ACP _ _ (ACR (fn:=f94) call94 func94 rfl mixed ntmps94 results94 AQA rfl fun m env=>?_) ?_
   rotate_left 2
   ·simp only[go_sem,F,ai,ah,hl1,G,ae,el0]
    refine AAm ?_
    simp only[go_sem,F,ai,ah,hl1,G,ae,el0]
    refine AC5 (.c (.v (.bool (there w r)))) (InlS.bor (args':=[.agg w.c,.agg r.c]) [.val (.c (.v (.bool (there w r))))] ⟨QM (AP rfl (AX _) (Ah _)) (AP rfl (BO _) (DI _)) (AP rfl (BK _) (EW _)) (AP rfl (AX _) (Ah _)) (AP rfl (DY _) (DT _)) (AP rfl (AX _) (Ah _)) (BorX.set rfl DTask.o_nr DTask.o_er fun x hx=>AOv) (AP rfl (DU _) (A7 _)),IK r,trivial⟩ rfl (GR w r)) ?_
    simp only[go_sem,F,ai,ah,hl1,G,ae,el0,hthr]
    refine DrawK.headE (x:=some (15,11)) (Head.openR 4 q 5 0 _) AQA AQA ?_ AQA
    simp only[openR,B_,go_sem,F,G,hl1,ai,ah]
    refine ACM (args:=[.agg w.b[q].c0.c,.c (.v (.int .i64 (t.i))),.c (.v (.int .i64 (t.s)))]) _ AOf AOd hSt ?_
    simp only[go_sem,F,ai,ah,hl1,G,ae,el0,hB]
    exact⟨rfl,rfl⟩
   simp only[go_sem,F,ai,ah,hl1,G,ae,el0]
   have hs3:(w.b.map DBuf.o).set q (DBuf.o w.b[q])=w.b.map DBuf.o:=by rw[← Qh,abn]
   simp only[go_sem] at hs3
   refine inlT.head (Head.close 8 n0 [10,11,12,13,14] (row':=DTask.o (Ed t 7)) rfl (hF _).1 rfl AOU ?_) rfl ?_
   ·exact AMl
   simp only[AQ,Ap,go_sem,F,ai]
   refine inlT.head (Head.close 4 q [16,17] (row':=DBuf.o (w.b[q])) rfl (bG AOi) rfl AOU ?_) rfl ?_
   ·exact AJ_
   simp only[AQ,Ap,go_sem,F,ai]
   have hs1:=hst (Ed t 7)
   simp only[go_sem] at hs1
   simp only[go_sem,F,ai,hs1,hs3]
   refine inlT.head (Head.close 1 0 [2,3,4,5,6,7,8,9] (row':=DWorld.o (setT (w) n0 (Ed t 7))) rfl rfl rfl AOU ?_) rfl ?_
   ·exact AI0
   exact AGE
  have hsb:(w.b.map DBuf.o).set q (DBuf.o (Bh j t.s w.b[q]))=(w.b.set q (Bh j t.s w.b[q])).map DBuf.o:=Qh.symm
  simp only[go_sem] at hsb
  rcases hP:decide (Nv w.deeds (IntKind.i64.wrap (r.first+t.i))<0) with _ | _
  ·obtain⟨x,hx,e5⟩:=rX (by simpa using hP)
   have Q:Nv w.deeds (IntKind.i64.wrap (r.first+t.i))=(x:Int)∧x<w.deeds.length∧(∀ f:DDeed→List Cl,(w.deeds.map f)[x]?=some (f w.deeds[x]))∧(∀ row:List Cl,((w.deeds.map DDeed.o).set x row)[x]?=some row):=⟨e5,hx,fun f=>AA f hx,fun row=>bG (by simpa using hx)⟩
   have d0:decide ((x:Int)≥0)=true:=AOR
   have hx0:¬ ((x:Int)<0):=AOQ
   have eS:E_ w r j (IntKind.i64.wrap (r.first+t.i)) t.s t.at0=⟨w.c0,w.time,w.t,w.e,w.d,w.b.set q (Bh j t.s w.b[q]),w.m,w.x,w.p,w.tasks,w.deeds.modify x (PY t.s t.at0)⟩:=by simp only[E_,hin,hB,hq1,e5,Zi,bW,Df _ hq]; simp[hx0]
   rw[eS]
   refine' ACP _ _ (ACR (fn:=f94) call94 func94 rfl mixed ntmps94 results94 AQA rfl fun m env=>?_) ?_
   rotate_left 2
   ·simp only[go_sem,F,ai,ah,hl1,G,ae,el0]
    refine AAm ?_
    simp only[go_sem,F,ai,ah,hl1,G,ae,el0]
    refine AC5 (.c (.v (.bool (there w r)))) (InlS.bor (args':=[.agg w.c,.agg r.c]) [.val (.c (.v (.bool (there w r))))] ⟨QM (AP rfl (AX _) (Ah _)) (AP rfl (BO _) (DI _)) (AP rfl (BK _) (EW _)) (AP rfl (AX _) (Ah _)) (AP rfl (DY _) (DT _)) (AP rfl (AX _) (Ah _)) (BorX.set rfl DTask.o_nr DTask.o_er fun x hx=>AOv) (AP rfl (DU _) (A7 _)),IK r,trivial⟩ rfl (GR w r)) ?_
    simp only[go_sem,F,ai,ah,hl1,G,ae,el0,hthr]
    refine DrawK.headE (x:=some (15,11)) (Head.openR 4 q 5 0 _) AQA AQA ?_ AQA
    simp only[openR,B_,go_sem,F,G,hl1,ai,ah]
    refine ACM (args:=[.agg w.b[q].c0.c,.c (.v (.int .i64 (t.i))),.c (.v (.int .i64 (t.s)))]) _ AOf AOd hSt ?_
    simp only[go_sem,F,ai,ah,hl1,G,ae,el0,hB]
    repeat (refine ABH ?_; simp only[go_sem,F,ai,ah,hl1,G,ae,el0])
    first | refine ACK (args:=[.c (.sl (w.deeds.map DDeed.c)),.c (.v (.int .i64 (IntKind.i64.wrap (r.first+t.i))))]) _ AOo rfl (JY w.deeds (IntKind.i64.wrap (r.first+t.i)) hld) fun _=>?_ | refine ACM (args:=[.c (.sl (w.deeds.map DDeed.c)),.c (.v (.int .i64 (IntKind.i64.wrap (r.first+t.i))))]) _ AOo rfl (JY w.deeds (IntKind.i64.wrap (r.first+t.i)) hld) ?_ | refine AEQ (args:=[.c (.sl (w.deeds.map DDeed.c)),.c (.v (.int .i64 (IntKind.i64.wrap (r.first+t.i))))]) _ AOo rfl (JY w.deeds (IntKind.i64.wrap (r.first+t.i)) hld) ?_
    simp only[go_sem,F,ai,ah,hl1,G,ae,el0,Q,d0]
    repeat (refine ABH ?_; simp only[go_sem,F,ai,ah,hl1,G,ae,el0,Q,d0])
    exact⟨rfl,rfl⟩
   simp only[go_sem,F,ai,ah,hl1,G,ae,el0,Q]
   have hs2:(w.deeds.map DDeed.o).set x (DDeed.o (PY t.s t.at0 w.deeds[x]))=(w.deeds.modify x (PY t.s t.at0)).map DDeed.o:=by rw[Df _ hx]; exact Qh.symm
   simp only[DDeed.o_eq,PY,go_sem] at hs2
   refine inlT.head (Head.close 8 n0 [10,11,12,13,14] (row':=DTask.o (Ed t 7)) rfl (hF _).1 rfl AOU ?_) rfl ?_
   ·exact AMl
   simp only[AQ,Ap,go_sem,F,ai]
   refine inlT.head (Head.close 4 q [18,17] (row':=DBuf.o (Bh j t.s w.b[q])) rfl (bG AOi) rfl AOU ?_) rfl ?_
   ·exact AJ_
   simp only[AQ,Ap,go_sem,F,ai]
   have hs1:=hst (Ed t 7)
   simp only[go_sem] at hs1
   simp only[go_sem,F,ai,hs1,hsb,hs2]
   refine inlT.head (Head.close 1 0 [2,3,4,5,6,7,8,9] (row':=DWorld.o (setT (⟨w.c0,w.time,w.t,w.e,w.d,w.b.set q (Bh j t.s w.b[q]),w.m,w.x,w.p,w.tasks,w.deeds.modify x (PY t.s t.at0)⟩) n0 (Ed t 7))) rfl rfl rfl AOU ?_) rfl ?_
   ·exact AI0
   exact AGE
  ·have eS:E_ w r j (IntKind.i64.wrap (r.first+t.i)) t.s t.at0=⟨w.c0,w.time,w.t,w.e,w.d,w.b.set q (Bh j t.s w.b[q]),w.m,w.x,w.p,w.tasks,w.deeds⟩:=by simp only[E_,hin,hB,hq1,Zi,Df _ hq,bf,bF (Yi hP)]
   rw[eS]
   have d0:decide (Nv w.deeds (IntKind.i64.wrap (r.first+t.i))≥0)=false:=by simp at hP ⊢; omega
   refine' ACP _ _ (ACR (fn:=f94) call94 func94 rfl mixed ntmps94 results94 AQA rfl fun m env=>?_) ?_
   rotate_left 2
   ·simp only[go_sem,F,ai,ah,hl1,G,ae,el0]
    refine AAm ?_
    simp only[go_sem,F,ai,ah,hl1,G,ae,el0]
    refine AC5 (.c (.v (.bool (there w r)))) (InlS.bor (args':=[.agg w.c,.agg r.c]) [.val (.c (.v (.bool (there w r))))] ⟨QM (AP rfl (AX _) (Ah _)) (AP rfl (BO _) (DI _)) (AP rfl (BK _) (EW _)) (AP rfl (AX _) (Ah _)) (AP rfl (DY _) (DT _)) (AP rfl (AX _) (Ah _)) (BorX.set rfl DTask.o_nr DTask.o_er fun x hx=>AOv) (AP rfl (DU _) (A7 _)),IK r,trivial⟩ rfl (GR w r)) ?_
    simp only[go_sem,F,ai,ah,hl1,G,ae,el0,hthr]
    refine DrawK.headE (x:=some (15,11)) (Head.openR 4 q 5 0 _) AQA AQA ?_ AQA
    simp only[openR,B_,go_sem,F,G,hl1,ai,ah]
    refine ACM (args:=[.agg w.b[q].c0.c,.c (.v (.int .i64 (t.i))),.c (.v (.int .i64 (t.s)))]) _ AOf AOd hSt ?_
    simp only[go_sem,F,ai,ah,hl1,G,ae,el0,hB]
    repeat (refine ABH ?_; simp only[go_sem,F,ai,ah,hl1,G,ae,el0])
    first | refine ACK (args:=[.c (.sl (w.deeds.map DDeed.c)),.c (.v (.int .i64 (IntKind.i64.wrap (r.first+t.i))))]) _ AOo rfl (JY w.deeds (IntKind.i64.wrap (r.first+t.i)) hld) fun _=>?_ | refine ACM (args:=[.c (.sl (w.deeds.map DDeed.c)),.c (.v (.int .i64 (IntKind.i64.wrap (r.first+t.i))))]) _ AOo rfl (JY w.deeds (IntKind.i64.wrap (r.first+t.i)) hld) ?_ | refine AEQ (args:=[.c (.sl (w.deeds.map DDeed.c)),.c (.v (.int .i64 (IntKind.i64.wrap (r.first+t.i))))]) _ AOo rfl (JY w.deeds (IntKind.i64.wrap (r.first+t.i)) hld) ?_
    simp only[go_sem,F,ai,ah,hl1,G,ae,el0,d0]
    exact⟨rfl,rfl⟩
   simp only[go_sem,F,ai,ah,hl1,G,ae,el0]
   refine inlT.head (Head.close 8 n0 [10,11,12,13,14] (row':=DTask.o (Ed t 7)) rfl (hF _).1 rfl AOU ?_) rfl ?_
   ·exact AMl
   simp only[AQ,Ap,go_sem,F,ai]
   refine inlT.head (Head.close 4 q [18,17] (row':=DBuf.o (Bh j t.s w.b[q])) rfl (bG AOi) rfl AOU ?_) rfl ?_
   ·exact AJ_
   simp only[AQ,Ap,go_sem,F,ai]
   have hs1:=hst (Ed t 7)
   simp only[go_sem] at hs1
   simp only[go_sem,F,ai,hs1,hsb]
   refine inlT.head (Head.close 1 0 [2,3,4,5,6,7,8,9] (row':=DWorld.o (setT (⟨w.c0,w.time,w.t,w.e,w.d,w.b.set q (Bh j t.s w.b[q]),w.m,w.x,w.p,w.tasks,w.deeds⟩) n0 (Ed t 7))) rfl rfl rfl AOU ?_) rfl ?_
   ·exact AI0
   exact AGE
 simp only[go_sem,F,ai,ah,p6]
 rcases p8:t.pc==8 with _ | _
 rotate_left
 ·have e9:t.pc=8:=by simpa using p8
  have ed:Dt w n0 t=(if(t.ver != w.d.ver)=true then setT (DV w t) n0 (BP t 0 1) else if UG w.d (DX w (t.own-1))=true then setT (A_ w (IW w.d (DX w (t.own-1)))) n0 (BP t 0 1) else codeW (DV w t) n0 (BP t 0 9) 3):=AOb
  rw[ed]
  have hfbs:fitS E8 w.b:=AO9
  obtain⟨q,hq,ho⟩:=jr hown hop2 e9
  have hw1:IntKind.i64.wrap (t.own-1)=t.own-1:=wrap_i64 AOQ AOQ
  have hob:KU (.c (.v (.int .i64 (t.own-1))))=some q:=by rw[show t.own-1=(q:Int) from AOQ]; exact Ih .i64 q
  have hgn:DX w (t.own-1)=⟨t.own-1,w.b[q].gen,1,endOf w.d,w.c0.slots⟩:=by simp[DX,show (t.own-1).toNat=q from AOQ,hq]
  have G:KU (.c (.v (.int .i64 (t.own-1))))=some q∧q<w.b.length∧(∀ f:DBuf→List Cl,(w.b.map f)[q]?=some (f w.b[q])):=⟨hob,hq,fun f=>AA f hq⟩
  simp only[go_sem,F,ai,ah,hw1,G,ae,p8]
  refine ACO (fn:=f151) call151 func151 rfl mixed ntmps151 results151 AQA rfl ?_
  simp only[go_sem,F,ai,ah,hw1,G,ae]
  refine AAm ?_
  simp only[go_sem,F,ai,ah,hw1,G,ae]
  rcases q1:t.ver != w.d.ver with _ | _
  rotate_left
  ·simp only[go_sem,F,ai,ah,hw1,G,ae,q1]
   refine ACO (fn:=f258) call258 func258 rfl mixed ntmps258 results258 AQA rfl ?_
   simp only[go_sem,F,ai,ah,hw1,G,ae]
   refine ABH ?_
   simp only[go_sem,F,ai,ah,hw1,G,ae]
   refine ACM (args:=[.c (.sl (w.b.map DBuf.c)),.c (.v (.int .i64 (t.own-1)))]) _ AOy AOs (Zg w.b (t.own-1) hfbs) ?_
   simp only[go_sem,F,ai,ah,hw1,G,ae]
   repeat (refine ABH ?_; simp only[go_sem,F,ai,ah,hw1,G,ae])
   have hs1:=hst (BP t 0 1)
   simp only[DTask.o_eq,BG,Gh,G7,F,go_sem,Ed,Ag,Be,Cj,BP] at hs1
   simp only[go_sem,F,ai,ah,hw1,G,ae,hs1]
   refine inlT.head (Head.close 1 0 [2,3,10,5,6,7,8,9] (row':=DWorld.o (setT (DV w t) n0 (BP t 0 1))) rfl rfl rfl AOU ?_) rfl ?_
   ·exact AGD
   exact AGE
  simp only[go_sem,F,ai,ah,hw1,G,ae,q1]
  refine ACU 28 24 AQA ?_
  simp only[go_sem,F,ai,ah,hw1,G,ae]
  refine ACM (args:=[.agg w.d.c]) _ (by simp only[DI,go_sem]) rfl (RN w.d hlr) ?_
  simp only[go_sem,F,ai,ah,hw1,G,ae]
  refine ACM (args:=[.agg w.d.c,.agg (DX w (t.own-1)).c]) _ (by simp only[DI,hgn,go_sem]) (by simp only[bi,Gn,ZC,bJ,aN]) (ny w.d (DX w (t.own-1)) (by have:=jv h1; omega)) ?_
  rcases q2:UG w.d (DX w (t.own-1)) with _ | _
  ·simp only[go_sem,F,ai,ah,hw1,G,ae,q2]
   refine ACO (fn:=f258) call258 func258 rfl mixed ntmps258 results258 AQA rfl ?_
   simp only[go_sem,F,ai,ah,hw1,G,ae]
   refine ABH ?_
   simp only[go_sem,F,ai,ah,hw1,G,ae]
   refine ACM (args:=[.c (.sl (w.b.map DBuf.c)),.c (.v (.int .i64 (t.own-1)))]) _ AOy AOs (Zg w.b (t.own-1) hfbs) ?_
   simp only[go_sem,F,ai,ah,hw1,G,ae]
   repeat (refine ABH ?_; simp only[go_sem,F,ai,ah,hw1,G,ae])
   refine ACO (fn:=f150) call150 func150 rfl mixed ntmps150 results150 AQA rfl ?_
   simp only[go_sem,F,ai,ah]
   repeat (refine ABH ?_; simp only[go_sem,F,ai,ah])
   have eT:∀ b,J9 ⟨w.c0,w.time,w.t,w.e,w.d,b,w.m,w.x,w.p,w.tasks,w.deeds⟩ 3=J9 w 3:=fun _=>rfl
   have hs1:=hst (Ed (BP t 0 9) 9)
   simp only[DTask.o_eq,BG,Gh,G7,F,go_sem,Ed,Ag,Be,Cj,BP] at hs1
   have hs2:=hsd (J9 w 3)
   simp only[DDeed.o_eq,J9,YO,PY,idD,F,go_sem] at hs2
   simp only[go_sem,F,ai,ah,hw1,G,ae,hs1,hs2]
   refine inlT.head (Head.close 1 0 [2,3,12,5,6,7,8,9] (row':=DWorld.o (codeW (DV w t) n0 (BP t 0 9) 3)) rfl rfl rfl AOU ?_) rfl ?_
   ·simp only[go_sem,Ce,setT,codeW,endW,EM,Dn,Di,A_,DV,EJ,DWorld.o_eq,bf,htm,eT]
    simp[AB,BJ,D6,Ed,Ag,Be,Cj,BP,hm,eT]
   exact AGE
  simp only[go_sem,F,ai,ah,hw1,G,ae,q2]
  obtain⟨hz1,hz4⟩:=Q5 h1
  have eX:VW w.d (DX w (t.own-1))=IW w.d (DX w (t.own-1)):=by simp only[VW,q2,bf]
  refine LoopN.mk [79,80,81,82,83,84,85,86,87,88,89,90,91,92,93,94,95,96] (A:=Nat) (fun x=>.c (.v (.int .i64 ((x:Int))))) (fun x=>ABt a w (DX w (t.own-1)) x) (fun x=>(x:Int)≤w.c0.slots) (fun x=>4-x) 0 ⟨rfl, ?_,AOQ⟩ ?_
  ·rw[eX]
   rfl
  intro x hx
  have hq0:∀ k:Nat,k≤4→((mK w k).length≤2147483647∨(mK w k).length≤1099511627775):=fun k hk=>.inl (by rw[AD1]; omega)
  have hnr:BJ [[Cl.v (.int .i64 0)]]=true:=rfl
  have hx4:x=0∨x=1∨x=2∨x=3∨x=4:=AOQ
  rcases hx4 with rfl | rfl | rfl | rfl | rfl
  ·have eA:ABt a w (DX w (t.own-1)) 0=UH a w (DX w (t.own-1)) 5 true []:=rfl
   simp only[eA,UH,zO,mO]
   rcases hd:decide (((0:Nat):Int)<w.c0.slots) with _ | _
   ·exfalso
    simp at hd
    omega
   have hqk:=hq0 0 AOQ
   have hnx:=AAP w 0
   have hw2:IntKind.i64.wrap (((0:Nat):Int)+1)=((1:Nat):Int):=rfl
   simp only[go_sem,F,ai,ah,hw1,G,ae,hd,hqk,hnr,hnx,hw2]
   refine⟨1,Head.pop (junk:=[79,80,81,82,83,84,85,86,87,88,89,90,91,92,93,94,95,96]) ?_,by simp at hd; omega,AOQ⟩
   try exact ALx
  ·have eA:ABt a w (DX w (t.own-1)) 1=UH a w (DX w (t.own-1)) 13 false [zO,mO w 1 true]:=rfl
   simp only[eA,UH,zO,mO]
   rcases hd:decide (((1:Nat):Int)<w.c0.slots) with _ | _
   ·have hsk:w.c0.slots.toNat=1:=by simp at hd; omega
    have hmE:w.m++List.replicate w.c0.slots.toNat 0=mK w 1:=by rw[hsk,uN]
    have hs1:=hst (BP t 0 1)
    simp only[DTask.o_eq,BG,Gh,G7,F,go_sem,Ed,Ag,Be,Cj,BP] at hs1
    simp only[go_sem,F,ai,ah,hw1,G,ae,hd]
    repeat (refine ABH ?_; simp only[go_sem,F,ai,ah,hw1,G,ae,hd])
    simp only[go_sem,F,ai,ah,hw1,G,ae,hs1]
    refine inlT.head (Head.close 1 0 [2,10,4,13,6,7,8,9] (row':=DWorld.o (setT (A_ w (IW w.d (DX w (t.own-1)))) n0 (BP t 0 1))) rfl rfl rfl AOU ?_) rfl ?_
    ·exact AKh
    exact AGE
   have hqk:=hq0 1 AOQ
   have hnx:=AAP w 1
   have hw2:IntKind.i64.wrap (((1:Nat):Int)+1)=((2:Nat):Int):=rfl
   simp only[go_sem,F,ai,ah,hw1,G,ae,hd,hqk,hnr,hnx,hw2]
   refine⟨2,Head.pop (junk:=[79,80,81,82,83,84,85,86,87,88,89,90,91,92,93,94,95,96]) ?_,by simp at hd; omega,AOQ⟩
   try exact ALx
  ·have eA:ABt a w (DX w (t.own-1)) 2=UH a w (DX w (t.own-1)) 15 false [zO,mO w 1 false,zO,mO w 2 true]:=rfl
   simp only[eA,UH,zO,mO]
   rcases hd:decide (((2:Nat):Int)<w.c0.slots) with _ | _
   ·have hsk:w.c0.slots.toNat=2:=by simp at hd; omega
    have hmE:w.m++List.replicate w.c0.slots.toNat 0=mK w 2:=by rw[hsk,uN]
    have hs1:=hst (BP t 0 1)
    simp only[DTask.o_eq,BG,Gh,G7,F,go_sem,Ed,Ag,Be,Cj,BP] at hs1
    simp only[go_sem,F,ai,ah,hw1,G,ae,hd]
    repeat (refine ABH ?_; simp only[go_sem,F,ai,ah,hw1,G,ae,hd])
    simp only[go_sem,F,ai,ah,hw1,G,ae,hs1]
    refine inlT.head (Head.close 1 0 [2,10,4,15,6,7,8,9] (row':=DWorld.o (setT (A_ w (IW w.d (DX w (t.own-1)))) n0 (BP t 0 1))) rfl rfl rfl AOU ?_) rfl ?_
    ·exact AKh
    exact AGE
   have hqk:=hq0 2 AOQ
   have hnx:=AAP w 2
   have hw2:IntKind.i64.wrap (((2:Nat):Int)+1)=((3:Nat):Int):=rfl
   simp only[go_sem,F,ai,ah,hw1,G,ae,hd,hqk,hnr,hnx,hw2]
   refine⟨3,Head.pop (junk:=[79,80,81,82,83,84,85,86,87,88,89,90,91,92,93,94,95,96]) ?_,by simp at hd; omega,AOQ⟩
   try exact ALx
  ·have eA:ABt a w (DX w (t.own-1)) 3=UH a w (DX w (t.own-1)) 17 false [zO,mO w 1 false,zO,mO w 2 false,zO,mO w 3 true]:=rfl
   simp only[eA,UH,zO,mO]
   rcases hd:decide (((3:Nat):Int)<w.c0.slots) with _ | _
   ·have hsk:w.c0.slots.toNat=3:=by simp at hd; omega
    have hmE:w.m++List.replicate w.c0.slots.toNat 0=mK w 3:=by rw[hsk,uN]
    have hs1:=hst (BP t 0 1)
    simp only[DTask.o_eq,BG,Gh,G7,F,go_sem,Ed,Ag,Be,Cj,BP] at hs1
    simp only[go_sem,F,ai,ah,hw1,G,ae,hd]
    repeat (refine ABH ?_; simp only[go_sem,F,ai,ah,hw1,G,ae,hd])
    simp only[go_sem,F,ai,ah,hw1,G,ae,hs1]
    refine inlT.head (Head.close 1 0 [2,10,4,17,6,7,8,9] (row':=DWorld.o (setT (A_ w (IW w.d (DX w (t.own-1)))) n0 (BP t 0 1))) rfl rfl rfl AOU ?_) rfl ?_
    ·exact AKh
    exact AGE
   have hqk:=hq0 3 AOQ
   have hnx:=AAP w 3
   have hw2:IntKind.i64.wrap (((3:Nat):Int)+1)=((4:Nat):Int):=rfl
   simp only[go_sem,F,ai,ah,hw1,G,ae,hd,hqk,hnr,hnx,hw2]
   refine⟨4,Head.pop (junk:=[79,80,81,82,83,84,85,86,87,88,89,90,91,92,93,94,95,96]) ?_,by simp at hd; omega,AOQ⟩
   try exact ALx
  ·have eA:ABt a w (DX w (t.own-1)) 4=UH a w (DX w (t.own-1)) 19 false [zO,mO w 1 false,zO,mO w 2 false,zO,mO w 3 false,zO,mO w 4 true]:=rfl
   simp only[eA,UH,zO,mO]
   rcases hd:decide (((4:Nat):Int)<w.c0.slots) with _ | _
   ·have hsk:w.c0.slots.toNat=4:=by simp at hd; omega
    have hmE:w.m++List.replicate w.c0.slots.toNat 0=mK w 4:=by rw[hsk,uN]
    have hs1:=hst (BP t 0 1)
    simp only[DTask.o_eq,BG,Gh,G7,F,go_sem,Ed,Ag,Be,Cj,BP] at hs1
    simp only[go_sem,F,ai,ah,hw1,G,ae,hd]
    repeat (refine ABH ?_; simp only[go_sem,F,ai,ah,hw1,G,ae,hd])
    simp only[go_sem,F,ai,ah,hw1,G,ae,hs1]
    refine inlT.head (Head.close 1 0 [2,10,4,19,6,7,8,9] (row':=DWorld.o (setT (A_ w (IW w.d (DX w (t.own-1)))) n0 (BP t 0 1))) rfl rfl rfl AOU ?_) rfl ?_
    ·exact AKh
    exact AGE
   exfalso
   simp at hd
   omega
 simp only[go_sem,F,ai,ah,p8]
 have ed:Dt w n0 t=endW w n0 t.h.toNat:=by simp only[Dt,p0,p1,p2,p3,p4,p5,p6,p8,aB,aX]
 rw[ed]
 have hs1:=hst BG
 try simp only[go_sem] at hs1
 have hs2:=hsd (YO w)
 simp only[DDeed.o_eq,J9,YO,PY,idD,F,go_sem] at hs2
 have hsp:=F.2.2.2.2.1 (-1)
 try simp only[go_sem] at hsp
 refine ACO (fn:=f96) call96 func96 rfl mixed ntmps96 results96 AQA rfl ?_
 simp only[go_sem,F,ai,ah]
 repeat (refine ABH ?_; simp only[go_sem,F,ai,ah])
 simp only[go_sem,F,ai,ah,hs2,hsp]
 refine inlT.head (Head.close 8 n0 [] (row':=DTask.o BG) rfl (hF _).1 rfl AOU ?_) rfl ?_
 ·exact AMp
 simp only[AQ,Ap,go_sem,F,ai]
 simp only[go_sem,F,ai,ah,hs1,hs2,hsp]
 refine inlT.head (Head.close 1 0 [2,3,4,5,6,7,8,9] (row':=DWorld.o (endW w n0 m)) rfl rfl rfl AOU ?_) rfl ?_
 ·exact AGD
 exact AGE
theorem iT (w:DWorld) (k:Int) (hf:Aa w):Ctr prog 14 [.agg w.c,.c (.v (.int .i64 (k)))] [.agg (Q4 w k).o,.val (.c (.v (.bool (MC w k 1))))]:=by
 refine AC2 call14 func14 rfl mixed ntmps14 results14 AQA rfl fun hw=>?_
 simp only[go_sem]
 refine CW (mJ w hf) fun _=>?_
 simp only[go_sem]
 refine CW (iK w hf) fun _=>?_
 rcases h1:Ec w with _ | _
 ·have e1:=Oq (k:=k) (op:=1) (.inl h1)
  simp only[go_sem,h1,e1,Pm e1]
  exact AKi
 simp only[go_sem,h1]
 refine AAM _ (AO k 0 2) fun _=>?_
 rcases h2:Ad k 0 2 with _ | _
 ·have e1:=Oq (w:=w) (op:=1) (.inr (.inl h2))
  simp only[go_sem,h2,e1,Pm e1]
  exact AKi
 obtain⟨n0,rfl,hn0⟩:=Yh h2 AOQ
 have hlt0:n0<w.tasks.length:=by have:=(PW h1).1; omega
 have hop:opAt w (n0:Int)=w.tasks[n0].op:=by simp[opAt,hlt0]
 simp only[go_sem,h2,ae,AA _ hlt0,hlt0]
 rcases h3:opAt w (n0:Int)==1 with _ | _
 ·have e1:=Oq (w:=w) (k:=(n0:Int)) (.inr (.inr (.inl h3)))
  have h3':(w.tasks[n0].op != 1)=true:=by rw[bne,← hop,h3]; rfl
  simp only[go_sem,h3',e1,Pm e1]
  exact AKi
 have h3':(w.tasks[n0].op != 1)=false:=by rw[bne,← hop,h3]; rfl
 simp only[go_sem,h3']
 refine AC3 _ _ (AEs w rfl) ?_
 rcases h4:mM w with _ | _
 ·have e1:=Oq (w:=w) (k:=(n0:Int)) (op:=1) (.inr (.inr (.inr h4)))
  simp only[go_sem,h4,e1,Pm e1]
  exact AKi
 have e1:MC w (n0:Int) 1=true:=by simp[MC,WT,h1,h2,h3,h4]
 have e2:Q4 w (n0:Int)=EJ (Dt w n0 (Jm w n0)):=by simp[Q4,e1]
 simp only[go_sem,h4,e1,e2]
 refine InlK.mkC [(1,true),(10,true)] 10 0 [2,3,4,5,6,7,8,9] [1,4,6] (row':=w.o) (y:=.tup []) (st1:=stW dH w) (st':=stW dH (Dt w n0 (Jm w n0))) (st2:=openR 1 0 14 0 (stW dH (Dt w n0 (Jm w n0)))) rfl rfl rfl AOU ?_ ?_ rfl ?_ (AFn dH rfl w n0 hf h1 h2 h3) rfl (fun env=>Head.openR 1 0 14 0 ⟨_,env,_⟩) ?_
 ·simp only[go_sem]
  simp[AB,BJ,D6]
 ·simp only[AQ,Ap,go_sem]
  exact⟨rfl,rfl,rfl,rfl,trivial⟩
 ·simp only[AQ,Ap,go_sem]
  rfl
 generalize Dt w n0 (Jm w (n0:Int))=X
 simp only[stW,dH,openR,B_,tJ,QP,Eu,go_sem]
 exact EndH.self (by simp only[go_sem,EJ]; simp[OwnL,AB])
end Go.Proofs.YtnoldekcdlaahaaGreat
