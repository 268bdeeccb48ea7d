/- A part. -/
import Derived.Test.YtnfbaclikokapaaGreatEx
set_option linter.unusedSimpArgs false
set_option linter.unusedVariables false
set_option maxHeartbeats 2000000
set_option maxRecDepth 10000
open Go.Proofs.Tryz
namespace Go.Proofs.YtnfbaclikokapaaGreat
open Go.Vm
def Ag (k:Int) (x:DTask):Int:=Dz Ea (k+3) x.r
theorem Hu (k:Int) (x:DTask):Dz Ea (k+3) x.r=Ag k x:=rfl
def Ei (k:Int) (x:DTask):Int:=Dz BL (Ag k x+8) x.q.p.l
theorem MI (k:Int) (x:DTask):Dz BL (Ag k x+8) x.q.p.l=Ei k x:=rfl
def D5 (k:Int) (x:DTask):Int:=Dz KO (Ei k x+1) x.q.out
theorem QX (k:Int) (x:DTask):Dz KO (Ei k x+1) x.q.out=D5 k x:=rfl
def BQ (k:Int) (x:DTask):Int:=Dz IE (D5 k x+2) x.l
theorem Wv (k:Int) (x:DTask):Dz IE (D5 k x+2) x.l=BQ k x:=rfl
def LV (k:Int) (x:DTask):Int:=Dz H6 (BQ k x+6) x.got
theorem vT (k:Int) (x:DTask):Dz H6 (BQ k x+6) x.got=LV k x:=rfl
def FQ (k:Int) (x:DTask):Int:=LV k x
def JP (k:Int) (x:DTask):DTask:=⟨k,k+1,k+2,Gj Ib Ea (k+3) x.r,Ag k x,⟨Ag k x+1,DPred.mk (Ag k x+2) (Ag k x+3) (Ag k x+4) (⟨Ag k x+5,Ag k x+6,Gp (Ag k x+7)⟩) (Gj Dj BL (Ag k x+8) x.q.p.l),Ei k x,Gj lC KO (Ei k x+1) x.q.out⟩,D5 k x,D5 k x+1,Gj mkRef IE (D5 k x+2) x.l,BQ k x,BQ k x+1,BQ k x+2,BQ k x+3,BQ k x+4,IntKind.i64.wrap ((BQ k x+5).tmod 3)==0,Gj mkRow H6 (BQ k x+6) x.got⟩
theorem LD (k:Int) (x:DTask):FQ k x=LV k x:=rfl
theorem AAP (k:Int) (x:DTask):(JP k x).c = [.v (.int .i64 (k)),.v (.int .i64 (k+1)),.v (.int .i64 (k+2)),.sl ((Gj Ib Ea (k+3) x.r).map DVal.c),.v (.int .i64 (Ag k x)),.v (.int .i64 (Ag k x+1)),.v (.int .i64 (Ag k x+2)),.v (.int .i64 (Ag k x+3)),.v (.int .i64 (Ag k x+4)),.v (.int .i64 (Ag k x+5)),.v (.int .i64 (Ag k x+6)),.v (.string (Gp (Ag k x+7))),.sl ((Gj Dj BL (Ag k x+8) x.q.p.l).map DPred.c),.v (.int .i64 (Ei k x)),.sl ((Gj lC KO (Ei k x+1) x.q.out).map intC),.v (.int .i64 (D5 k x)),.v (.int .i64 (D5 k x+1)),.sl ((Gj mkRef IE (D5 k x+2) x.l).map DRef.c),.v (.int .i64 (BQ k x)),.v (.int .i64 (BQ k x+1)),.v (.int .i64 (BQ k x+2)),.v (.int .i64 (BQ k x+3)),.v (.int .i64 (BQ k x+4)),.v (.bool (IntKind.i64.wrap ((BQ k x+5).tmod 3)==0)),.sl ((Gj mkRow H6 (BQ k x+6) x.got).map DRow.c)]:=by rw[DTask.c_eq]; simp only[JP,DPred.o_eq,DPred.c_eq,DQuery.o_eq,DQuery.c_eq,DVal.c_eq,DPred.kind,DPred.col,DPred.op,DPred.v,DPred.l,aK,aI]
theorem AAQ (k:Int) (x:DTask):(JP k x).o = [.v (.int .i64 (k)),.v (.int .i64 (k+1)),.v (.int .i64 (k+2)),.ow 68 3 ((Gj Ib Ea (k+3) x.r).map DVal.c),.v (.int .i64 (Ag k x)),.v (.int .i64 (Ag k x+1)),.v (.int .i64 (Ag k x+2)),.v (.int .i64 (Ag k x+3)),.v (.int .i64 (Ag k x+4)),.v (.int .i64 (Ag k x+5)),.v (.int .i64 (Ag k x+6)),.v (.string (Gp (Ag k x+7))),.ow 71 7 ((Gj Dj BL (Ag k x+8) x.q.p.l).map DPred.o),.v (.int .i64 (Ei k x)),.ow 3 1 ((Gj lC KO (Ei k x+1) x.q.out).map intC),.v (.int .i64 (D5 k x)),.v (.int .i64 (D5 k x+1)),.ow 196 5 ((Gj mkRef IE (D5 k x+2) x.l).map DRef.c),.v (.int .i64 (BQ k x)),.v (.int .i64 (BQ k x+1)),.v (.int .i64 (BQ k x+2)),.v (.int .i64 (BQ k x+3)),.v (.int .i64 (BQ k x+4)),.v (.bool (IntKind.i64.wrap ((BQ k x+5).tmod 3)==0)),.ow 204 2 ((Gj mkRow H6 (BQ k x+6) x.got).map DRow.o)]:=by rw[DTask.o_eq]; simp only[JP,DPred.o_eq,DPred.c_eq,DQuery.o_eq,DQuery.c_eq,DVal.c_eq,DPred.kind,DPred.col,DPred.op,DPred.v,DPred.l,aK,aI]
theorem gX (k:Int) (x:DTask):k+3≤Ag k x∧Ag k x+8≤Ei k x∧Ei k x+1≤D5 k x∧D5 k x+2≤BQ k x∧BQ k x+6≤LV k x:=⟨EJ Js _ _,EJ JR _ _,EJ Ik _ _,EJ NW _ _,EJ NT _ _⟩
theorem NR (k:Int) (x:DTask):k≤FQ k x:=by have:=gX k x; unfold FQ; omega
theorem dF (x:DTask) (k l:Int) (h0:0≤Fe x l) (hl:l≤1048576):FQ k x+64*Fe x l≤k+64*l+64:=by
 have d1:=h0
 rw[QV] at d1
 obtain⟨a1_0,b1_0,e1_0⟩:=AX d1
 have w1_0:=(DI x.r (fun x _=>C_ x) a1_0 (by omega)).2
 obtain⟨a1_1,b1_1,e1_1⟩:=AX b1_0
 have w1_1:=(MC x.q _ a1_1 (by omega)).2
 have d2:=a1_1
 rw[JL] at d2
 obtain⟨a2_0,b2_0,e2_0⟩:=AX d2
 have w2_0:=(F9 x.q.p _ a2_0 (by omega)).2
 have d3:=a2_0
 rw[Ia] at d3
 obtain⟨a3_0,b3_0,e3_0⟩:=AX d3
 have w3_0:=(C_ x.q.p.v _ a3_0 (by omega)).2
 have d4:=a3_0
 rw[Gf] at d4
 obtain⟨a4_0,b4_0,e4_0⟩:=AX d4
 have w4_0:=(CJ a4_0 (by omega)).2
 have eq4:Ai x.q.p.v (Ce Ai x.r l)=(Ew x.q.p.v.s.size (Ce Ai x.r l)):=(Gf x.q.p.v (Ce Ai x.r l)).trans (e4_0)
 obtain⟨a3_1,b3_1,e3_1⟩:=AX b3_0
 have w3_1:=(DI x.q.p.l (fun x _=>F9 x) a3_1 (by omega)).2
 have eq3:BK x.q.p (Ce Ai x.r l)=(Ce BK x.q.p.l (Ai x.q.p.v (Ce Ai x.r l))):=(Ia x.q.p (Ce Ai x.r l)).trans ((e3_0).trans (e3_1))
 obtain⟨a2_1,b2_1,e2_1⟩:=AX b2_0
 have w2_1:=(CJ a2_1 (by omega)).2
 have eq2:DU x.q (Ce Ai x.r l)=(Ew x.q.out.length (BK x.q.p (Ce Ai x.r l))):=(JL x.q (Ce Ai x.r l)).trans ((e2_0).trans (e2_1))
 obtain⟨a1_2,b1_2,e1_2⟩:=AX b1_1
 have w1_2:=(CJ a1_2 (by omega)).2
 obtain⟨a1_3,b1_3,e1_3⟩:=AX b1_2
 have w1_3:=(DI x.got (fun x _=>Kz x) a1_3 (by omega)).2
 have Gs:Fe x l=(Ce Gv x.got (Ew x.l.length (DU x.q (Ce Ai x.r l)))):=(QV x l).trans ((e1_0).trans ((e1_1).trans ((e1_2).trans (e1_3))))
 have:Ag k x+64*(Ce Ai x.r l)≤k+3+64*l:=JK _ (fun y _ k l a b=>⟨S9 y k l a b,(C_ y l a b).2⟩) _ a1_0 (by omega)
 have:Ei k x+64*(Ce BK x.q.p.l (Ai x.q.p.v (Ce Ai x.r l)))≤Ag k x+8+64*(Ai x.q.p.v (Ce Ai x.r l)):=JK _ (fun y _ k l a b=>⟨dI y k l a b,(F9 y l a b).2⟩) _ a3_1 (by omega)
 have:D5 k x+64*(Ew x.q.out.length (BK x.q.p (Ce Ai x.r l)))≤Ei k x+1+64*(BK x.q.p (Ce Ai x.r l)):=N7 N8 _ _ _ a2_1
 have:BQ k x+64*(Ew x.l.length (DU x.q (Ce Ai x.r l)))≤D5 k x+2+64*(DU x.q (Ce Ai x.r l)):=N7 Xo _ _ _ a1_2
 have:LV k x+64*(Ce Gv x.got (Ew x.l.length (DU x.q (Ce Ai x.r l))))≤BQ k x+6+64*(Ew x.l.length (DU x.q (Ce Ai x.r l))):=JK _ (fun y _ k l a b=>⟨lW y k l a b,(Kz y l a b).2⟩) _ a1_3 (by omega)
 rw[LD,Gs]; omega
theorem gY (xs:List DTask) (k:Int) (hk:0≤k) (hx:fitS Ef xs) (hb:Dz FQ k xs≤4000000000000000000):rD prog 59 142 25 DTask.o JP FQ xs (k):=by
 have hxl:=hx.1
 refine MCtr.mk (fn:=f59) call59 func59 rfl mixed ntmps59 results59 (by kernel_rfl) rfl (.inr rfl) fun us hw0 hw=>?_
 simp only[go_sem]
 refine LoopA.mk 1 0 [0,1,5] (A:=Nat×List DTask×Int) (mkS us 211 142 25 DTask.o xs) (MkX JP FQ xs k) (fun x=>xs.length-x.1) (0,[],k) ⟨⟨rfl,Cf (BA Uu)⟩,rfl,MkX.start⟩ ?_
 rintro⟨i,dn,k1⟩ hP
 have hn:=hP.len
 simp only[go_sem,mkS,ae,hn]
 refine cndC.mk (fun h=>?_) (fun h=>?_)
 ·have hi:i<xs.length:=by simpa using h
  obtain⟨q2,q4,q5,q3⟩:=hP.room hi NR DTask.o
  have hst:=hP.set hi DTask.o (JP k1 xs[i])
  have hset:=set_self (R:=(dn++xs.drop i).map DTask.o) (i:=i) q3
  rw[LD] at q4
  have hle:=gX k1 xs[i]
  have hfx:=hx.2 _ (aj hi)
  rw[DTask.o_eq] at q2
  simp only[DPred.o_eq,DQuery.o_eq,DVal.c_eq,aK,aI] at q2
  simp only[go_sem,q2,q3,hset,cu,bu,IB,Ad,Int.reduceAdd,wz (n:=k1+1),wz (n:=k1+2),wz (n:=k1+3),wz (n:=(i:Int)+1)]
  refine MutX.mk (l:=1) (MJ _ (k1+3) (by omega) hfx.1 (by show Ag k1 xs[i]≤_; omega)) rfl ⟨rfl,rfl,rfl,rfl,CV _,by simp,trivial⟩ ?_
  simp only[go_sem,q2,q3,hset,cu,bu,IB,Ad,Int.reduceAdd,wz (n:=Ag k1 xs[i]+1),wz (n:=Ag k1 xs[i]+2),wz (n:=Ag k1 xs[i]+3),wz (n:=Ag k1 xs[i]+4),wz (n:=Ag k1 xs[i]+5),wz (n:=Ag k1 xs[i]+6),wz (n:=Ag k1 xs[i]+7),wz (n:=(i:Int)+1),Hu]
  refine CallK.mk _ (Dh (Ag k1 xs[i]+7) (by omega) (by omega)) fun _=>?_
  simp only[go_sem,q2,q3,hset,cu,bu,IB,Ad,Int.reduceAdd,wz (n:=Ag k1 xs[i]+8),wz (n:=(i:Int)+1),Hu]
  refine MutX.mk (l:=2) (TE _ (Ag k1 xs[i]+8) (by omega) (Eq.mp (BP _) hfx.2.1.1).2 (by show Ei k1 xs[i]≤_; omega)) rfl ⟨rfl,rfl,rfl,rfl,BG _,by simp,trivial⟩ ?_
  simp only[go_sem,q2,q3,hset,cu,bu,IB,Ad,Int.reduceAdd,wz (n:=Ei k1 xs[i]+1),wz (n:=(i:Int)+1),Hu,MI]
  refine MutX.mk (l:=3) (Jr _ (Ei k1 xs[i]+1) (by omega) hfx.2.1.2 (by show D5 k1 xs[i]≤_; omega)) rfl ⟨rfl,rfl,rfl,rfl,Am _,by simp,trivial⟩ ?_
  simp only[go_sem,q2,q3,hset,cu,bu,IB,Ad,Int.reduceAdd,wz (n:=D5 k1 xs[i]+1),wz (n:=D5 k1 xs[i]+2),wz (n:=(i:Int)+1),Hu,MI,QX]
  refine MutX.mk (l:=4) (Vf _ (D5 k1 xs[i]+2) (by omega) hfx.2.2.1 (by show BQ k1 xs[i]≤_; omega)) rfl ⟨rfl,rfl,rfl,rfl,ER _,by simp,trivial⟩ ?_
  simp only[go_sem,q2,q3,hset,cu,bu,IB,Ad,Int.reduceAdd,wz (n:=BQ k1 xs[i]+1),wz (n:=BQ k1 xs[i]+2),wz (n:=BQ k1 xs[i]+3),wz (n:=BQ k1 xs[i]+4),wz (n:=BQ k1 xs[i]+5),wz (n:=BQ k1 xs[i]+6),wz (n:=(i:Int)+1),Hu,MI,QX,Wv]
  refine MutX.mk (l:=5) (Vb _ (BQ k1 xs[i]+6) (by omega) hfx.2.2.2 (by show LV k1 xs[i]≤_; omega)) rfl ⟨rfl,rfl,rfl,rfl,A7 _,by simp,trivial⟩ ?_
  simp only[go_sem,q2,q3,hset,cu,bu,IB,Ad,Int.reduceAdd,wz (n:=(i:Int)+1),Hu,MI,QX,Wv,vT]
  refine⟨(i+1,dn ++ [JP k1 xs[i]],FQ k1 xs[i]),.inr ⟨i,(dn++xs.drop i).map DTask.o, ?rowr,DTask.o (JP k1 xs[i]), ?ob,⟨aaU, ?e1, ?e2,q3, ?e3⟩, ?own,⟨rfl, ?tr⟩, ?eq⟩,hP.step hi NR, ?mu⟩
  case e1=>exact rfl
  case e2=>exact rfl
  case e3=>exact rfl
  case own=>rw[AAQ]; exact⟨rfl,rfl,rfl,rfl,rfl,rfl,rfl,rfl,rfl,rfl,CV _,by simp,rfl,rfl,rfl,rfl,rfl,rfl,rfl,rfl,rfl,rfl,rfl,rfl,rfl,rfl,rfl,rfl,rfl,rfl,rfl,rfl,BG _,by simp,rfl,rfl,rfl,rfl,rfl,rfl,Am _,by simp,rfl,rfl,rfl,rfl,rfl,rfl,rfl,rfl,ER _,by simp,rfl,rfl,rfl,rfl,rfl,rfl,rfl,rfl,rfl,rfl,rfl,rfl,rfl,rfl,rfl,rfl,A7 _,by simp,fun l hl=>by omega⟩
  case eq=>unfold A8; rw[hst,LD]; rfl
  case tr=>unfold A8; rw[hst]; exact Cf (BA Uu)
  case mu=>simp only; omega
 ·obtain⟨y1,y2⟩:=hP.finL h
  simp only[go_sem]
  rw[y1,y2]
  exact⟨[.ref 0],[.ow 142 25 _],[.c (.v (.int .i64 _))],rfl,.inr rfl,⟨rfl,rfl,rfl,rfl,FZ _,by simp,trivial⟩,by simp only[En,JI,lU,aS],rfl,rfl,rfl,rfl⟩
theorem Xb (xs:List DTask) (k:Int) (hk:0≤k) (hx:fitS Ef xs) (hb:Dz FQ k xs≤4000000000000000000):vM prog 66 DTask.c JP FQ xs (k):=by
 have hxl:=hx.1
 refine CM call66 func66 ntmps66 results66 fun hw=>?_
 simp only[go_sem]
 refine LoopK.mk 0 [0,1,5] (A:=Nat×Int) (ZY 261 DTask.c JP FQ xs k) (HdX JP FQ xs k) (fun x=>xs.length-x.1) (0,k) ⟨⟨rfl,rfl⟩,rfl,HdX.start⟩ ?_
 rintro⟨i,k1⟩ hP
 simp only[go_sem,ZY,ae,IM]
 refine cndC.mk (fun h=>?_) (fun h=>?_)
 ·have hi:i<xs.length:=by simpa using h
  obtain⟨q2,q4,q5⟩:=hP.room hi NR DTask.c
  rw[LD] at q4
  have hle:=gX k1 xs[i]
  have hfx:=hx.2 _ (aj hi)
  rw[AAP] at q2
  simp only[go_sem,q2,IB,ay,au,Ad,Int.reduceAdd,wz (n:=k1+1),wz (n:=k1+2),wz (n:=k1+3),wz (n:=(i:Int)+1)]
  refine CallK.mk _ (Jg _ (k1+3) (by omega) hfx.1 (by show Ag k1 xs[i]≤_; omega)) fun _=>?_
  have hg1:=KP (x:=Ag k1 xs[i]) (by omega)
  simp only[go_sem,q2,IB,ay,au,Ad,Int.reduceAdd,wz (n:=Ag k1 xs[i]+1),wz (n:=Ag k1 xs[i]+2),wz (n:=Ag k1 xs[i]+3),wz (n:=Ag k1 xs[i]+4),wz (n:=Ag k1 xs[i]+5),wz (n:=Ag k1 xs[i]+6),wz (n:=Ag k1 xs[i]+7),wz (n:=(i:Int)+1),Hu,hg1]
  refine DrawK.mk ?_
  simp only[go_sem,q2,IB,ay,au,Ad,Int.reduceAdd,wz (n:=Ag k1 xs[i]+1),wz (n:=Ag k1 xs[i]+2),wz (n:=Ag k1 xs[i]+3),wz (n:=Ag k1 xs[i]+4),wz (n:=Ag k1 xs[i]+5),wz (n:=Ag k1 xs[i]+6),wz (n:=Ag k1 xs[i]+7),wz (n:=(i:Int)+1),Hu,hg1]
  refine CallF.mk _ (Dh (Ag k1 xs[i]+7) (by omega) (by omega)) ?_
  simp only[go_sem,q2,IB,ay,au,Ad,Int.reduceAdd,wz (n:=Ag k1 xs[i]+8),wz (n:=(i:Int)+1),Hu,hg1]
  refine CallK.mk _ (PO _ (Ag k1 xs[i]+8) (by omega) (Eq.mp (BP _) hfx.2.1.1).2 (by show Ei k1 xs[i]≤_; omega)) fun _=>?_
  have hg2:=KP (x:=Ei k1 xs[i]) (by omega)
  simp only[go_sem,q2,IB,ay,au,Ad,Int.reduceAdd,wz (n:=Ei k1 xs[i]+1),wz (n:=(i:Int)+1),Hu,MI,hg1,hg2]
  refine CallK.mk _ (IC _ (Ei k1 xs[i]+1) (by omega) hfx.2.1.2 (by show D5 k1 xs[i]≤_; omega)) fun _=>?_
  have hg3:=KP (x:=D5 k1 xs[i]) (by omega)
  simp only[go_sem,q2,IB,ay,au,Ad,Int.reduceAdd,wz (n:=D5 k1 xs[i]+1),wz (n:=D5 k1 xs[i]+2),wz (n:=(i:Int)+1),Hu,MI,QX,hg1,hg2,hg3]
  refine CallK.mk _ (Q5 _ (D5 k1 xs[i]+2) (by omega) hfx.2.2.1 (by show BQ k1 xs[i]≤_; omega)) fun _=>?_
  have hg4:=KP (x:=BQ k1 xs[i]) (by omega)
  simp only[go_sem,q2,IB,ay,au,Ad,Int.reduceAdd,wz (n:=BQ k1 xs[i]+1),wz (n:=BQ k1 xs[i]+2),wz (n:=BQ k1 xs[i]+3),wz (n:=BQ k1 xs[i]+4),wz (n:=BQ k1 xs[i]+5),wz (n:=BQ k1 xs[i]+6),wz (n:=(i:Int)+1),Hu,MI,QX,Wv,hg1,hg2,hg3,hg4]
  refine CallK.mk _ (Q4 _ (BQ k1 xs[i]+6) (by omega) hfx.2.2.2 (by show LV k1 xs[i]≤_; omega)) fun _=>?_
  have hg5:=KP (x:=LV k1 xs[i]) (by omega)
  simp only[go_sem,q2,IB,ay,au,Ad,Int.reduceAdd,wz (n:=(i:Int)+1),Hu,MI,QX,Wv,vT,hg1,hg2,hg3,hg4,hg5]
  refine⟨(i+1,LV k1 xs[i]),⟨rfl,rfl⟩,rfl,hP.step hi NR, ?mu⟩
  case mu=>simp only; omega
 ·have:=hP.finL h
  subst this
  simp only[go_sem]
def Ah (k:Int) (x:DDeed):Int:=Dz Ea (k+2) x.r
theorem Gw (k:Int) (x:DDeed):Dz Ea (k+2) x.r=Ah k x:=rfl
def Ej (k:Int) (x:DDeed):Int:=Dz BL (Ah k x+8) x.q.p.l
theorem KT (k:Int) (x:DDeed):Dz BL (Ah k x+8) x.q.p.l=Ej k x:=rfl
def G8 (k:Int) (x:DDeed):Int:=Dz KO (Ej k x+1) x.q.out
theorem OB (k:Int) (x:DDeed):Dz KO (Ej k x+1) x.q.out=G8 k x:=rfl
def Af (k:Int) (x:DDeed):Int:=Dz H6 (G8 k x) x.res.rows
theorem Su (k:Int) (x:DDeed):Dz H6 (G8 k x) x.res.rows=Af k x:=rfl
def Em (k:Int) (x:DDeed):Int:=Af k x+10
def JQ (k:Int) (x:DDeed):DDeed:=⟨k,k+1,Gj Ib Ea (k+2) x.r,Ah k x,⟨Ah k x+1,DPred.mk (Ah k x+2) (Ah k x+3) (Ah k x+4) (⟨Ah k x+5,Ah k x+6,Gp (Ah k x+7)⟩) (Gj Dj BL (Ah k x+8) x.q.p.l),Ej k x,Gj lC KO (Ej k x+1) x.q.out⟩,⟨Gj mkRow H6 (G8 k x) x.res.rows,Af k x,IntKind.i64.wrap ((Af k x+1).tmod 3)==0,⟨Af k x+2,Af k x+3,Gp (Af k x+4)⟩⟩,Af k x+5,Af k x+6,Af k x+7,Af k x+8,Af k x+9⟩
theorem LG (k:Int) (x:DDeed):Em k x=Af k x+10:=rfl
theorem AAR (k:Int) (x:DDeed):(JQ k x).c = [.v (.int .i64 (k)),.v (.int .i64 (k+1)),.sl ((Gj Ib Ea (k+2) x.r).map DVal.c),.v (.int .i64 (Ah k x)),.v (.int .i64 (Ah k x+1)),.v (.int .i64 (Ah k x+2)),.v (.int .i64 (Ah k x+3)),.v (.int .i64 (Ah k x+4)),.v (.int .i64 (Ah k x+5)),.v (.int .i64 (Ah k x+6)),.v (.string (Gp (Ah k x+7))),.sl ((Gj Dj BL (Ah k x+8) x.q.p.l).map DPred.c),.v (.int .i64 (Ej k x)),.sl ((Gj lC KO (Ej k x+1) x.q.out).map intC),.sl ((Gj mkRow H6 (G8 k x) x.res.rows).map DRow.c),.v (.int .i64 (Af k x)),.v (.bool (IntKind.i64.wrap ((Af k x+1).tmod 3)==0)),.v (.int .i64 (Af k x+2)),.v (.int .i64 (Af k x+3)),.v (.string (Gp (Af k x+4))),.v (.int .i64 (Af k x+5)),.v (.int .i64 (Af k x+6)),.v (.int .i64 (Af k x+7)),.v (.int .i64 (Af k x+8)),.v (.int .i64 (Af k x+9))]:=by rw[DDeed.c_eq]; simp only[JQ,DPred.o_eq,DPred.c_eq,DQuery.o_eq,DQuery.c_eq,DResult.o_eq,DResult.c_eq,DVal.c_eq,DPred.kind,DPred.col,DPred.op,DPred.v,DPred.l,aK,aI]
theorem AAS (k:Int) (x:DDeed):(JQ k x).o = [.v (.int .i64 (k)),.v (.int .i64 (k+1)),.ow 68 3 ((Gj Ib Ea (k+2) x.r).map DVal.c),.v (.int .i64 (Ah k x)),.v (.int .i64 (Ah k x+1)),.v (.int .i64 (Ah k x+2)),.v (.int .i64 (Ah k x+3)),.v (.int .i64 (Ah k x+4)),.v (.int .i64 (Ah k x+5)),.v (.int .i64 (Ah k x+6)),.v (.string (Gp (Ah k x+7))),.ow 71 7 ((Gj Dj BL (Ah k x+8) x.q.p.l).map DPred.o),.v (.int .i64 (Ej k x)),.ow 3 1 ((Gj lC KO (Ej k x+1) x.q.out).map intC),.ow 204 2 ((Gj mkRow H6 (G8 k x) x.res.rows).map DRow.o),.v (.int .i64 (Af k x)),.v (.bool (IntKind.i64.wrap ((Af k x+1).tmod 3)==0)),.v (.int .i64 (Af k x+2)),.v (.int .i64 (Af k x+3)),.v (.string (Gp (Af k x+4))),.v (.int .i64 (Af k x+5)),.v (.int .i64 (Af k x+6)),.v (.int .i64 (Af k x+7)),.v (.int .i64 (Af k x+8)),.v (.int .i64 (Af k x+9))]:=by rw[DDeed.o_eq]; simp only[JQ,DPred.o_eq,DPred.c_eq,DQuery.o_eq,DQuery.c_eq,DResult.o_eq,DResult.c_eq,DVal.c_eq,DPred.kind,DPred.col,DPred.op,DPred.v,DPred.l,aK,aI]
theorem gZ (k:Int) (x:DDeed):k+2≤Ah k x∧Ah k x+8≤Ej k x∧Ej k x+1≤G8 k x∧G8 k x≤Af k x:=⟨EJ Js _ _,EJ JR _ _,EJ Ik _ _,EJ NT _ _⟩
theorem NS (k:Int) (x:DDeed):k≤Em k x:=by have:=gZ k x; unfold Em; omega
theorem dG (x:DDeed) (k l:Int) (h0:0≤Gq x l) (hl:l≤1048576):Em k x+64*Gq x l≤k+64*l+64:=by
 have d1:=h0
 rw[QW] at d1
 obtain⟨a1_0,b1_0,e1_0⟩:=AX d1
 have w1_0:=(DI x.r (fun x _=>C_ x) a1_0 (by omega)).2
 obtain⟨a1_1,b1_1,e1_1⟩:=AX b1_0
 have w1_1:=(MC x.q _ a1_1 (by omega)).2
 have d2:=a1_1
 rw[JL] at d2
 obtain⟨a2_0,b2_0,e2_0⟩:=AX d2
 have w2_0:=(F9 x.q.p _ a2_0 (by omega)).2
 have d3:=a2_0
 rw[Ia] at d3
 obtain⟨a3_0,b3_0,e3_0⟩:=AX d3
 have w3_0:=(C_ x.q.p.v _ a3_0 (by omega)).2
 have d4:=a3_0
 rw[Gf] at d4
 obtain⟨a4_0,b4_0,e4_0⟩:=AX d4
 have w4_0:=(CJ a4_0 (by omega)).2
 have eq4:Ai x.q.p.v (Ce Ai x.r l)=(Ew x.q.p.v.s.size (Ce Ai x.r l)):=(Gf x.q.p.v (Ce Ai x.r l)).trans (e4_0)
 obtain⟨a3_1,b3_1,e3_1⟩:=AX b3_0
 have w3_1:=(DI x.q.p.l (fun x _=>F9 x) a3_1 (by omega)).2
 have eq3:BK x.q.p (Ce Ai x.r l)=(Ce BK x.q.p.l (Ai x.q.p.v (Ce Ai x.r l))):=(Ia x.q.p (Ce Ai x.r l)).trans ((e3_0).trans (e3_1))
 obtain⟨a2_1,b2_1,e2_1⟩:=AX b2_0
 have w2_1:=(CJ a2_1 (by omega)).2
 have eq2:DU x.q (Ce Ai x.r l)=(Ew x.q.out.length (BK x.q.p (Ce Ai x.r l))):=(JL x.q (Ce Ai x.r l)).trans ((e2_0).trans (e2_1))
 obtain⟨a1_2,b1_2,e1_2⟩:=AX b1_1
 have w1_2:=(Sj x.res _ a1_2 (by omega)).2
 have d5:=a1_2
 rw[MB] at d5
 obtain⟨a5_0,b5_0,e5_0⟩:=AX d5
 have w5_0:=(DI x.res.rows (fun x _=>Kz x) a5_0 (by omega)).2
 obtain⟨a5_1,b5_1,e5_1⟩:=AX b5_0
 have w5_1:=(C_ x.res.v _ a5_1 (by omega)).2
 have d6:=a5_1
 rw[Gf] at d6
 obtain⟨a6_0,b6_0,e6_0⟩:=AX d6
 have w6_0:=(CJ a6_0 (by omega)).2
 have eq6:Ai x.res.v (Ce Gv x.res.rows (DU x.q (Ce Ai x.r l)))=(Ew x.res.v.s.size (Ce Gv x.res.rows (DU x.q (Ce Ai x.r l)))):=(Gf x.res.v (Ce Gv x.res.rows (DU x.q (Ce Ai x.r l)))).trans (e6_0)
 have eq5:Jq x.res (DU x.q (Ce Ai x.r l))=(Ai x.res.v (Ce Gv x.res.rows (DU x.q (Ce Ai x.r l)))):=(MB x.res (DU x.q (Ce Ai x.r l))).trans ((e5_0).trans (e5_1))
 have Gs:Gq x l=(Jq x.res (DU x.q (Ce Ai x.r l))):=(QW x l).trans ((e1_0).trans ((e1_1).trans (e1_2)))
 have:Ah k x+64*(Ce Ai x.r l)≤k+2+64*l:=JK _ (fun y _ k l a b=>⟨S9 y k l a b,(C_ y l a b).2⟩) _ a1_0 (by omega)
 have:Ej k x+64*(Ce BK x.q.p.l (Ai x.q.p.v (Ce Ai x.r l)))≤Ah k x+8+64*(Ai x.q.p.v (Ce Ai x.r l)):=JK _ (fun y _ k l a b=>⟨dI y k l a b,(F9 y l a b).2⟩) _ a3_1 (by omega)
 have:G8 k x+64*(Ew x.q.out.length (BK x.q.p (Ce Ai x.r l)))≤Ej k x+1+64*(BK x.q.p (Ce Ai x.r l)):=N7 N8 _ _ _ a2_1
 have:Af k x+64*(Ce Gv x.res.rows (DU x.q (Ce Ai x.r l)))≤G8 k x+64*(DU x.q (Ce Ai x.r l)):=JK _ (fun y _ k l a b=>⟨lW y k l a b,(Kz y l a b).2⟩) _ a5_0 (by omega)
 rw[LG,Gs]; omega
theorem gm (xs:List DDeed) (k:Int) (hk:0≤k) (hx:fitS ED xs) (hb:Dz Em k xs≤4000000000000000000):rD prog 60 153 25 DDeed.o JQ Em xs (k):=by
 have hxl:=hx.1
 refine MCtr.mk (fn:=f60) call60 func60 rfl mixed ntmps60 results60 (by kernel_rfl) rfl (.inr rfl) fun us hw0 hw=>?_
 simp only[go_sem]
 refine LoopA.mk 1 0 [0,1,5] (A:=Nat×List DDeed×Int) (mkS us 221 153 25 DDeed.o xs) (MkX JQ Em xs k) (fun x=>xs.length-x.1) (0,[],k) ⟨⟨rfl,Cf (BA Uw)⟩,rfl,MkX.start⟩ ?_
 rintro⟨i,dn,k1⟩ hP
 have hn:=hP.len
 simp only[go_sem,mkS,ae,hn]
 refine cndC.mk (fun h=>?_) (fun h=>?_)
 ·have hi:i<xs.length:=by simpa using h
  obtain⟨q2,q4,q5,q3⟩:=hP.room hi NS DDeed.o
  have hst:=hP.set hi DDeed.o (JQ k1 xs[i])
  have hset:=set_self (R:=(dn++xs.drop i).map DDeed.o) (i:=i) q3
  rw[LG] at q4
  have hle:=gZ k1 xs[i]
  have hfx:=hx.2 _ (aj hi)
  rw[DDeed.o_eq] at q2
  simp only[DPred.o_eq,DQuery.o_eq,DResult.o_eq,DVal.c_eq,aK,aI] at q2
  simp only[go_sem,q2,q3,hset,cu,bu,IB,Ad,Int.reduceAdd,wz (n:=k1+1),wz (n:=k1+2),wz (n:=(i:Int)+1)]
  refine MutX.mk (l:=1) (MJ _ (k1+2) (by omega) hfx.1 (by show Ah k1 xs[i]≤_; omega)) rfl ⟨rfl,rfl,rfl,rfl,CV _,by simp,trivial⟩ ?_
  simp only[go_sem,q2,q3,hset,cu,bu,IB,Ad,Int.reduceAdd,wz (n:=Ah k1 xs[i]+1),wz (n:=Ah k1 xs[i]+2),wz (n:=Ah k1 xs[i]+3),wz (n:=Ah k1 xs[i]+4),wz (n:=Ah k1 xs[i]+5),wz (n:=Ah k1 xs[i]+6),wz (n:=Ah k1 xs[i]+7),wz (n:=(i:Int)+1),Gw]
  refine CallK.mk _ (Dh (Ah k1 xs[i]+7) (by omega) (by omega)) fun _=>?_
  simp only[go_sem,q2,q3,hset,cu,bu,IB,Ad,Int.reduceAdd,wz (n:=Ah k1 xs[i]+8),wz (n:=(i:Int)+1),Gw]
  refine MutX.mk (l:=2) (TE _ (Ah k1 xs[i]+8) (by omega) (Eq.mp (BP _) hfx.2.1.1).2 (by show Ej k1 xs[i]≤_; omega)) rfl ⟨rfl,rfl,rfl,rfl,BG _,by simp,trivial⟩ ?_
  simp only[go_sem,q2,q3,hset,cu,bu,IB,Ad,Int.reduceAdd,wz (n:=Ej k1 xs[i]+1),wz (n:=(i:Int)+1),Gw,KT]
  refine MutX.mk (l:=3) (Jr _ (Ej k1 xs[i]+1) (by omega) hfx.2.1.2 (by show G8 k1 xs[i]≤_; omega)) rfl ⟨rfl,rfl,rfl,rfl,Am _,by simp,trivial⟩ ?_
  simp only[go_sem,q2,q3,hset,cu,bu,IB,Ad,Int.reduceAdd,wz (n:=(i:Int)+1),Gw,KT,OB]
  refine MutX.mk (l:=4) (Vb _ (G8 k1 xs[i]) (by omega) hfx.2.2.1 (by show Af k1 xs[i]≤_; omega)) rfl ⟨rfl,rfl,rfl,rfl,A7 _,by simp,trivial⟩ ?_
  simp only[go_sem,q2,q3,hset,cu,bu,IB,Ad,Int.reduceAdd,wz (n:=Af k1 xs[i]+1),wz (n:=Af k1 xs[i]+2),wz (n:=Af k1 xs[i]+3),wz (n:=Af k1 xs[i]+4),wz (n:=(i:Int)+1),Gw,KT,OB,Su]
  refine CallK.mk _ (Dh (Af k1 xs[i]+4) (by omega) (by omega)) fun _=>?_
  simp only[go_sem,q2,q3,hset,cu,bu,IB,Ad,Int.reduceAdd,wz (n:=Af k1 xs[i]+5),wz (n:=Af k1 xs[i]+6),wz (n:=Af k1 xs[i]+7),wz (n:=Af k1 xs[i]+8),wz (n:=Af k1 xs[i]+9),wz (n:=Af k1 xs[i]+10),wz (n:=(i:Int)+1),Gw,KT,OB,Su]
  refine⟨(i+1,dn ++ [JQ k1 xs[i]],Em k1 xs[i]),.inr ⟨i,(dn++xs.drop i).map DDeed.o, ?rowr,DDeed.o (JQ k1 xs[i]), ?ob,⟨aaU, ?e1, ?e2,q3, ?e3⟩, ?own,⟨rfl, ?tr⟩, ?eq⟩,hP.step hi NS, ?mu⟩
  case e1=>exact rfl
  case e2=>exact rfl
  case e3=>exact rfl
  case own=>rw[AAS]; exact⟨rfl,rfl,rfl,rfl,rfl,rfl,rfl,rfl,CV _,by simp,rfl,rfl,rfl,rfl,rfl,rfl,rfl,rfl,rfl,rfl,rfl,rfl,rfl,rfl,rfl,rfl,rfl,rfl,rfl,rfl,BG _,by simp,rfl,rfl,rfl,rfl,rfl,rfl,Am _,by simp,rfl,rfl,rfl,rfl,A7 _,by simp,rfl,rfl,rfl,rfl,rfl,rfl,rfl,rfl,rfl,rfl,rfl,rfl,rfl,rfl,rfl,rfl,rfl,rfl,rfl,rfl,fun l hl=>by omega⟩
  case eq=>unfold A8; rw[hst,LG]; rfl
  case tr=>unfold A8; rw[hst]; exact Cf (BA Uw)
  case mu=>simp only; omega
 ·obtain⟨y1,y2⟩:=hP.finL h
  simp only[go_sem]
  rw[y1,y2]
  exact⟨[.ref 0],[.ow 153 25 _],[.c (.v (.int .i64 _))],rfl,.inr rfl,⟨rfl,rfl,rfl,rfl,Iy _,by simp,trivial⟩,by simp only[En,JI,lV,aS],rfl,rfl,rfl,rfl⟩
theorem Xc (xs:List DDeed) (k:Int) (hk:0≤k) (hx:fitS ED xs) (hb:Dz Em k xs≤4000000000000000000):vM prog 67 DDeed.c JQ Em xs (k):=by
 have hxl:=hx.1
 refine CM call67 func67 ntmps67 results67 fun hw=>?_
 simp only[go_sem]
 refine LoopK.mk 0 [0,1,5] (A:=Nat×Int) (ZY 271 DDeed.c JQ Em xs k) (HdX JQ Em xs k) (fun x=>xs.length-x.1) (0,k) ⟨⟨rfl,rfl⟩,rfl,HdX.start⟩ ?_
 rintro⟨i,k1⟩ hP
 simp only[go_sem,ZY,ae,IM]
 refine cndC.mk (fun h=>?_) (fun h=>?_)
 ·have hi:i<xs.length:=by simpa using h
  obtain⟨q2,q4,q5⟩:=hP.room hi NS DDeed.c
  rw[LG] at q4
  have hle:=gZ k1 xs[i]
  have hfx:=hx.2 _ (aj hi)
  rw[AAR] at q2
  simp only[go_sem,q2,IB,ay,au,Ad,Int.reduceAdd,wz (n:=k1+1),wz (n:=k1+2),wz (n:=(i:Int)+1)]
  refine CallK.mk _ (Jg _ (k1+2) (by omega) hfx.1 (by show Ah k1 xs[i]≤_; omega)) fun _=>?_
  have hg1:=KP (x:=Ah k1 xs[i]) (by omega)
  simp only[go_sem,q2,IB,ay,au,Ad,Int.reduceAdd,wz (n:=Ah k1 xs[i]+1),wz (n:=Ah k1 xs[i]+2),wz (n:=Ah k1 xs[i]+3),wz (n:=Ah k1 xs[i]+4),wz (n:=Ah k1 xs[i]+5),wz (n:=Ah k1 xs[i]+6),wz (n:=Ah k1 xs[i]+7),wz (n:=(i:Int)+1),Gw,hg1]
  refine DrawK.mk ?_
  simp only[go_sem,q2,IB,ay,au,Ad,Int.reduceAdd,wz (n:=Ah k1 xs[i]+1),wz (n:=Ah k1 xs[i]+2),wz (n:=Ah k1 xs[i]+3),wz (n:=Ah k1 xs[i]+4),wz (n:=Ah k1 xs[i]+5),wz (n:=Ah k1 xs[i]+6),wz (n:=Ah k1 xs[i]+7),wz (n:=(i:Int)+1),Gw,hg1]
  refine CallF.mk _ (Dh (Ah k1 xs[i]+7) (by omega) (by omega)) ?_
  simp only[go_sem,q2,IB,ay,au,Ad,Int.reduceAdd,wz (n:=Ah k1 xs[i]+8),wz (n:=(i:Int)+1),Gw,hg1]
  refine CallK.mk _ (PO _ (Ah k1 xs[i]+8) (by omega) (Eq.mp (BP _) hfx.2.1.1).2 (by show Ej k1 xs[i]≤_; omega)) fun _=>?_
  have hg2:=KP (x:=Ej k1 xs[i]) (by omega)
  simp only[go_sem,q2,IB,ay,au,Ad,Int.reduceAdd,wz (n:=Ej k1 xs[i]+1),wz (n:=(i:Int)+1),Gw,KT,hg1,hg2]
  refine CallK.mk _ (IC _ (Ej k1 xs[i]+1) (by omega) hfx.2.1.2 (by show G8 k1 xs[i]≤_; omega)) fun _=>?_
  have hg3:=KP (x:=G8 k1 xs[i]) (by omega)
  simp only[go_sem,q2,IB,ay,au,Ad,Int.reduceAdd,wz (n:=(i:Int)+1),Gw,KT,OB,hg1,hg2,hg3]
  refine CallK.mk _ (Q4 _ (G8 k1 xs[i]) (by omega) hfx.2.2.1 (by show Af k1 xs[i]≤_; omega)) fun _=>?_
  have hg4:=KP (x:=Af k1 xs[i]) (by omega)
  simp only[go_sem,q2,IB,ay,au,Ad,Int.reduceAdd,wz (n:=Af k1 xs[i]+1),wz (n:=Af k1 xs[i]+2),wz (n:=Af k1 xs[i]+3),wz (n:=Af k1 xs[i]+4),wz (n:=(i:Int)+1),Gw,KT,OB,Su,hg1,hg2,hg3,hg4]
  refine DrawK.mk ?_
  simp only[go_sem,q2,IB,ay,au,Ad,Int.reduceAdd,wz (n:=Af k1 xs[i]+1),wz (n:=Af k1 xs[i]+2),wz (n:=Af k1 xs[i]+3),wz (n:=Af k1 xs[i]+4),wz (n:=(i:Int)+1),Gw,KT,OB,Su,hg1,hg2,hg3,hg4]
  refine CallF.mk _ (Dh (Af k1 xs[i]+4) (by omega) (by omega)) ?_
  simp only[go_sem,q2,IB,ay,au,Ad,Int.reduceAdd,wz (n:=Af k1 xs[i]+5),wz (n:=Af k1 xs[i]+6),wz (n:=Af k1 xs[i]+7),wz (n:=Af k1 xs[i]+8),wz (n:=Af k1 xs[i]+9),wz (n:=Af k1 xs[i]+10),wz (n:=(i:Int)+1),Gw,KT,OB,Su,hg1,hg2,hg3,hg4]
  refine⟨(i+1,Af k1 xs[i]+10),⟨rfl,rfl⟩,rfl,hP.step hi NS, ?mu⟩
  case mu=>simp only; omega
 ·have:=hP.finL h
  subst this
  simp only[go_sem]
end Go.Proofs.YtnfbaclikokapaaGreat
