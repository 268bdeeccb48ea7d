/- A part. -/
import Derived.Test.YtgkmefoghbjfnaaGreatEx
set_option linter.unusedSimpArgs false
set_option linter.unusedVariables false
set_option maxHeartbeats 2000000
set_option maxRecDepth 10000
open Go.Proofs.Tryz
namespace Go.Proofs.YtgkmefoghbjfnaaGreat
open Go.Vm
def BN (k:Int) (x:DTask):Int:=C_ DI (k+3) x.r
theorem Kr (k:Int) (x:DTask):C_ DI (k+3) x.r=BN k x:=rfl
def FQ (k:Int) (x:DTask):Int:=C_ BR (BN k x+8) x.q.p.l
theorem QE (k:Int) (x:DTask):C_ BR (BN k x+8) x.q.p.l=FQ k x:=rfl
def EU (k:Int) (x:DTask):Int:=C_ Ip (FQ k x+1) x.q.out
theorem UU (k:Int) (x:DTask):C_ Ip (FQ k x+1) x.q.out=EU k x:=rfl
def B_ (k:Int) (x:DTask):Int:=C_ Hu (EU k x+2) x.l
theorem ZG (k:Int) (x:DTask):C_ Hu (EU k x+2) x.l=B_ k x:=rfl
def Ou (k:Int) (x:DTask):Int:=C_ D9 (B_ k x+6) x.got
theorem lX (k:Int) (x:DTask):C_ D9 (B_ k x+6) x.got=Ou k x:=rfl
def Hw (k:Int) (x:DTask):Int:=Ou k x
def Jw (k:Int) (x:DTask):DTask:=⟨k,k+1,k+2,Ez Gf DI (k+3) x.r,BN k x,⟨BN k x+1,DPred.mk (BN k x+2) (BN k x+3) (BN k x+4) (⟨BN k x+5,BN k x+6,FP (BN k x+7)⟩) (Ez Dy BR (BN k x+8) x.q.p.l),FQ k x,Ez Vz Ip (FQ k x+1) x.q.out⟩,EU k x,EU k x+1,Ez mkRef Hu (EU k x+2) x.l,B_ k x,B_ k x+1,B_ k x+2,B_ k x+3,B_ k x+4,IntKind.i64.wrap ((B_ k x+5).tmod 3)==0,Ez mkRow D9 (B_ k x+6) x.got⟩
theorem Ov (k:Int) (x:DTask):Hw k x=Ou k x:=rfl
theorem iK (k:Int) (x:DTask):(Jw k x).o = [.v (.int .i64 (k)),.v (.int .i64 (k+1)),.v (.int .i64 (k+2)),.ow 75 3 ((Ez Gf DI (k+3) x.r).map DVal.c),.v (.int .i64 (BN k x)),.v (.int .i64 (BN k x+1)),.v (.int .i64 (BN k x+2)),.v (.int .i64 (BN k x+3)),.v (.int .i64 (BN k x+4)),.v (.int .i64 (BN k x+5)),.v (.int .i64 (BN k x+6)),.v (.string (FP (BN k x+7))),.ow 78 7 ((Ez Dy BR (BN k x+8) x.q.p.l).map DPred.o),.v (.int .i64 (FQ k x)),.ow 3 1 ((Ez Vz Ip (FQ k x+1) x.q.out).map intC),.v (.int .i64 (EU k x)),.v (.int .i64 (EU k x+1)),.ow 172 5 ((Ez mkRef Hu (EU k x+2) x.l).map DRef.c),.v (.int .i64 (B_ k x)),.v (.int .i64 (B_ k x+1)),.v (.int .i64 (B_ k x+2)),.v (.int .i64 (B_ k x+3)),.v (.int .i64 (B_ k x+4)),.v (.bool (IntKind.i64.wrap ((B_ k x+5).tmod 3)==0)),.ow 147 2 ((Ez mkRow D9 (B_ k x+6) x.got).map DRow.o)]:=by rw[DTask.o_eq]; simp only[Jw,DPred.o_eq,DPred.c_eq,DQuery.o_eq,DQuery.c_eq,DVal.c_eq,DPred.kind,DPred.col,DPred.op,DPred.v,DPred.l,fA,bP]
theorem ZH (k:Int) (x:DTask):k+3≤BN k x∧BN k x+8≤FQ k x∧FQ k x+1≤EU k x∧EU k x+2≤B_ k x∧B_ k x+6≤Ou k x:=⟨CS Gg _ _,CS Iw _ _,CS Fq _ _,CS NV _ _,CS Hr _ _⟩
theorem Ox (k:Int) (x:DTask):k≤Hw k x:=by have:=ZH k x; unfold Hw; omega
theorem dA (x:DTask) (k l:Int) (h0:0≤Dw x l) (hl:l≤1048576):Hw k x+64*Dw x l≤k+64*l+64:=by
 have d1:=h0
 rw[KX] at d1
 obtain⟨a1_0,b1_0,e1_0⟩:=AX d1
 have w1_0:=(Bq x.r (fun x _=>Ba x) a1_0 (by omega)).2
 obtain⟨a1_1,b1_1,e1_1⟩:=AX b1_0
 have w1_1:=(IP x.q _ a1_1 (by omega)).2
 have d2:=a1_1
 rw[Fv] at d2
 obtain⟨a2_0,b2_0,e2_0⟩:=AX d2
 have w2_0:=(Dx x.q.p _ a2_0 (by omega)).2
 have d3:=a2_0
 rw[FI] at d3
 obtain⟨a3_0,b3_0,e3_0⟩:=AX d3
 have w3_0:=(Ba x.q.p.v _ a3_0 (by omega)).2
 have d4:=a3_0
 rw[D8] at d4
 obtain⟨a4_0,b4_0,e4_0⟩:=AX d4
 have w4_0:=(Bo a4_0 (by omega)).2
 have eq4:Ad x.q.p.v (BZ Ad x.r l)=(Di x.q.p.v.s.size (BZ Ad x.r l)):=(D8 x.q.p.v (BZ Ad x.r l)).trans (e4_0)
 obtain⟨a3_1,b3_1,e3_1⟩:=AX b3_0
 have w3_1:=(Bq x.q.p.l (fun x _=>Dx x) a3_1 (by omega)).2
 have eq3:Ar x.q.p (BZ Ad x.r l)=(BZ Ar x.q.p.l (Ad x.q.p.v (BZ Ad x.r l))):=(FI x.q.p (BZ Ad x.r l)).trans ((e3_0).trans (e3_1))
 obtain⟨a2_1,b2_1,e2_1⟩:=AX b2_0
 have w2_1:=(Bo a2_1 (by omega)).2
 have eq2:Bv x.q (BZ Ad x.r l)=(Di x.q.out.length (Ar x.q.p (BZ Ad x.r l))):=(Fv x.q (BZ Ad x.r l)).trans ((e2_0).trans (e2_1))
 obtain⟨a1_2,b1_2,e1_2⟩:=AX b1_1
 have w1_2:=(Bo a1_2 (by omega)).2
 obtain⟨a1_3,b1_3,e1_3⟩:=AX b1_2
 have w1_3:=(Bq x.got (fun x _=>Ha x) a1_3 (by omega)).2
 have FC:Dw x l=(BZ EM x.got (Di x.l.length (Bv x.q (BZ Ad x.r l)))):=(KX x l).trans ((e1_0).trans ((e1_1).trans ((e1_2).trans (e1_3))))
 have:BN k x+64*(BZ Ad x.r l)≤k+3+64*l:=Fj _ (fun y _ k l a b=>⟨NM y k l a b,(Ba y l a b).2⟩) _ a1_0 (by omega)
 have:FQ k x+64*(BZ Ar x.q.p.l (Ad x.q.p.v (BZ Ad x.r l)))≤BN k x+8+64*(Ad x.q.p.v (BZ Ad x.r l)):=Fj _ (fun y _ k l a b=>⟨TL y k l a b,(Dx y l a b).2⟩) _ a3_1 (by omega)
 have:EU k x+64*(Di x.q.out.length (Ar x.q.p (BZ Ad x.r l)))≤FQ k x+1+64*(Ar x.q.p (BZ Ad x.r l)):=JG MB _ _ _ a2_1
 have:B_ k x+64*(Di x.l.length (Bv x.q (BZ Ad x.r l)))≤EU k x+2+64*(Bv x.q (BZ Ad x.r l)):=JG WB _ _ _ a1_2
 have:Ou k x+64*(BZ EM x.got (Di x.l.length (Bv x.q (BZ Ad x.r l))))≤B_ k x+6+64*(Di x.l.length (Bv x.q (BZ Ad x.r l))):=Fj _ (fun y _ k l a b=>⟨V9 y k l a b,(Ha y l a b).2⟩) _ a1_3 (by omega)
 rw[Ov,FC]; omega
theorem UV (xs:List DTask) (k:Int) (hk:0≤k) (hx:fitS JK xs) (hb:C_ Hw k xs≤4000000000000000000):X9 prog 44 140 25 DTask.o Jw Hw xs (k):=by
 have hxl:=hx.1
 refine MCtr.mk (fn:=f44) call44 func44 rfl mixed ntmps44 results44 (by kernel_rfl) rfl (.inr rfl) fun us hw0 hw=>?_
 simp only[go_sem]
 refine LoopA.mk 1 0 [0,1,5] (A:=Nat×List DTask×Int) (mkS us 211 140 25 DTask.o xs) (MkX Jw Hw xs k) (fun x=>xs.length-x.1) (0,[],k) ⟨⟨rfl,BX (Ak Oh)⟩,rfl,MkX.start⟩ ?_
 rintro⟨i,dn,k1⟩ hP
 have hn:=hP.len
 simp only[go_sem,mkS,ae,hn]
 refine cndC.mk (fun h=>?_) (fun h=>?_)
 ·have hi:i<xs.length:=by simpa using h
  obtain⟨q2,q4,q5,q3⟩:=hP.room hi Ox DTask.o
  have hst:=hP.set hi DTask.o (Jw k1 xs[i])
  have hset:=set_self (R:=(dn++xs.drop i).map DTask.o) (i:=i) q3
  rw[Ov] at q4
  have hle:=ZH k1 xs[i]
  have hfx:=hx.2 _ (au hi)
  rw[DTask.o_eq] at q2
  simp only[DPred.o_eq,DQuery.o_eq,DVal.c_eq,fA,bP] at q2
  simp only[go_sem,q2,q3,hset,bZ,bu,Jh,A_,Int.reduceAdd,wz (n:=k1+1),wz (n:=k1+2),wz (n:=k1+3),wz (n:=(i:Int)+1)]
  refine MutX.mk (l:=1) (IQ _ (k1+3) (by omega) hfx.1 (by show BN k1 xs[i]≤_; omega)) rfl ⟨rfl,rfl,rfl,rfl,BP _,by simp,trivial⟩ ?_
  simp only[go_sem,q2,q3,hset,bZ,bu,Jh,A_,Int.reduceAdd,wz (n:=BN k1 xs[i]+1),wz (n:=BN k1 xs[i]+2),wz (n:=BN k1 xs[i]+3),wz (n:=BN k1 xs[i]+4),wz (n:=BN k1 xs[i]+5),wz (n:=BN k1 xs[i]+6),wz (n:=BN k1 xs[i]+7),wz (n:=(i:Int)+1),Kr]
  refine CallK.mk _ (EI (BN k1 xs[i]+7) (by omega) (by omega)) fun _=>?_
  simp only[go_sem,q2,q3,hset,bZ,bu,Jh,A_,Int.reduceAdd,wz (n:=BN k1 xs[i]+8),wz (n:=(i:Int)+1),Kr]
  refine MutX.mk (l:=2) (NU _ (BN k1 xs[i]+8) (by omega) (Eq.mp (Bi _) hfx.2.1.1).2 (by show FQ k1 xs[i]≤_; omega)) rfl ⟨rfl,rfl,rfl,rfl,CV _,by simp,trivial⟩ ?_
  simp only[go_sem,q2,q3,hset,bZ,bu,Jh,A_,Int.reduceAdd,wz (n:=FQ k1 xs[i]+1),wz (n:=(i:Int)+1),Kr,QE]
  refine MutX.mk (l:=3) (FK _ (FQ k1 xs[i]+1) (by omega) hfx.2.1.2 (by show EU k1 xs[i]≤_; omega)) rfl ⟨rfl,rfl,rfl,rfl,AU _,by simp,trivial⟩ ?_
  simp only[go_sem,q2,q3,hset,bZ,bu,Jh,A_,Int.reduceAdd,wz (n:=EU k1 xs[i]+1),wz (n:=EU k1 xs[i]+2),wz (n:=(i:Int)+1),Kr,QE,UU]
  refine MutX.mk (l:=4) (PX _ (EU k1 xs[i]+2) (by omega) hfx.2.2.1 (by show B_ k1 xs[i]≤_; omega)) rfl ⟨rfl,rfl,rfl,rfl,Ik _,by simp,trivial⟩ ?_
  simp only[go_sem,q2,q3,hset,bZ,bu,Jh,A_,Int.reduceAdd,wz (n:=B_ k1 xs[i]+1),wz (n:=B_ k1 xs[i]+2),wz (n:=B_ k1 xs[i]+3),wz (n:=B_ k1 xs[i]+4),wz (n:=B_ k1 xs[i]+5),wz (n:=B_ k1 xs[i]+6),wz (n:=(i:Int)+1),Kr,QE,UU,ZG]
  refine MutX.mk (l:=5) (Js _ (B_ k1 xs[i]+6) (by omega) hfx.2.2.2 (by show Ou k1 xs[i]≤_; omega)) rfl ⟨rfl,rfl,rfl,rfl,AL _,by simp,trivial⟩ ?_
  simp only[go_sem,q2,q3,hset,bZ,bu,Jh,A_,Int.reduceAdd,wz (n:=(i:Int)+1),Kr,QE,UU,ZG,lX]
  refine⟨(i+1,dn ++ [Jw k1 xs[i]],Hw k1 xs[i]),.inr ⟨i,(dn++xs.drop i).map DTask.o, ?rowr,DTask.o (Jw k1 xs[i]), ?ob,⟨gX, ?e1, ?e2,q3, ?e3⟩, ?own,⟨rfl, ?tr⟩, ?eq⟩,hP.step hi Ox, ?mu⟩
  case e1=>exact rfl
  case e2=>exact rfl
  case e3=>exact rfl
  case own=>rw[iK]; exact⟨rfl,rfl,rfl,rfl,rfl,rfl,rfl,rfl,rfl,rfl,BP _,by simp,rfl,rfl,rfl,rfl,rfl,rfl,rfl,rfl,rfl,rfl,rfl,rfl,rfl,rfl,rfl,rfl,rfl,rfl,rfl,rfl,CV _,by simp,rfl,rfl,rfl,rfl,rfl,rfl,AU _,by simp,rfl,rfl,rfl,rfl,rfl,rfl,rfl,rfl,Ik _,by simp,rfl,rfl,rfl,rfl,rfl,rfl,rfl,rfl,rfl,rfl,rfl,rfl,rfl,rfl,rfl,rfl,AL _,by simp,fun l hl=>by omega⟩
  case eq=>unfold Am; rw[hst,Ov]; rfl
  case tr=>unfold Am; rw[hst]; exact BX (Ak Oh)
  case mu=>simp only; omega
 ·obtain⟨y1,y2⟩:=hP.finL h
  simp only[go_sem]
  rw[y1,y2]
  exact⟨[.ref 0],[.ow 140 25 _],[.c (.v (.int .i64 _))],rfl,.inr rfl,⟨rfl,rfl,rfl,rfl,Nl _,by simp,trivial⟩,by simp only[CQ,D5,V7,aH],rfl,rfl,rfl,rfl⟩
def BO (k:Int) (x:DDeed):Int:=C_ DI (k+2) x.r
theorem Kt (k:Int) (x:DDeed):C_ DI (k+2) x.r=BO k x:=rfl
def FT (k:Int) (x:DDeed):Int:=C_ BR (BO k x+8) x.q.p.l
theorem QF (k:Int) (x:DDeed):C_ BR (BO k x+8) x.q.p.l=FT k x:=rfl
def Hy (k:Int) (x:DDeed):Int:=C_ Ip (FT k x+1) x.q.out
theorem UW (k:Int) (x:DDeed):C_ Ip (FT k x+1) x.q.out=Hy k x:=rfl
def BM (k:Int) (x:DDeed):Int:=C_ D9 (Hy k x) x.res.rows
theorem ZI (k:Int) (x:DDeed):C_ D9 (Hy k x) x.res.rows=BM k x:=rfl
def Hz (k:Int) (x:DDeed):Int:=BM k x+10
def Jy (k:Int) (x:DDeed):DDeed:=⟨k,k+1,Ez Gf DI (k+2) x.r,BO k x,⟨BO k x+1,DPred.mk (BO k x+2) (BO k x+3) (BO k x+4) (⟨BO k x+5,BO k x+6,FP (BO k x+7)⟩) (Ez Dy BR (BO k x+8) x.q.p.l),FT k x,Ez Vz Ip (FT k x+1) x.q.out⟩,⟨Ez mkRow D9 (Hy k x) x.res.rows,BM k x,IntKind.i64.wrap ((BM k x+1).tmod 3)==0,⟨BM k x+2,BM k x+3,FP (BM k x+4)⟩⟩,BM k x+5,BM k x+6,BM k x+7,BM k x+8,BM k x+9⟩
theorem Oy (k:Int) (x:DDeed):Hz k x=BM k x+10:=rfl
theorem iL (k:Int) (x:DDeed):(Jy k x).o = [.v (.int .i64 (k)),.v (.int .i64 (k+1)),.ow 75 3 ((Ez Gf DI (k+2) x.r).map DVal.c),.v (.int .i64 (BO k x)),.v (.int .i64 (BO k x+1)),.v (.int .i64 (BO k x+2)),.v (.int .i64 (BO k x+3)),.v (.int .i64 (BO k x+4)),.v (.int .i64 (BO k x+5)),.v (.int .i64 (BO k x+6)),.v (.string (FP (BO k x+7))),.ow 78 7 ((Ez Dy BR (BO k x+8) x.q.p.l).map DPred.o),.v (.int .i64 (FT k x)),.ow 3 1 ((Ez Vz Ip (FT k x+1) x.q.out).map intC),.ow 147 2 ((Ez mkRow D9 (Hy k x) x.res.rows).map DRow.o),.v (.int .i64 (BM k x)),.v (.bool (IntKind.i64.wrap ((BM k x+1).tmod 3)==0)),.v (.int .i64 (BM k x+2)),.v (.int .i64 (BM k x+3)),.v (.string (FP (BM k x+4))),.v (.int .i64 (BM k x+5)),.v (.int .i64 (BM k x+6)),.v (.int .i64 (BM k x+7)),.v (.int .i64 (BM k x+8)),.v (.int .i64 (BM k x+9))]:=by rw[DDeed.o_eq]; simp only[Jy,DPred.o_eq,DPred.c_eq,DQuery.o_eq,DQuery.c_eq,DResult.o_eq,DResult.c_eq,DVal.c_eq,DPred.kind,DPred.col,DPred.op,DPred.v,DPred.l,fA,bP]
theorem ZJ (k:Int) (x:DDeed):k+2≤BO k x∧BO k x+8≤FT k x∧FT k x+1≤Hy k x∧Hy k x≤BM k x:=⟨CS Gg _ _,CS Iw _ _,CS Fq _ _,CS Hr _ _⟩
theorem Oz (k:Int) (x:DDeed):k≤Hz k x:=by have:=ZJ k x; unfold Hz; omega
theorem dB (x:DDeed) (k l:Int) (h0:0≤ET x l) (hl:l≤1048576):Hz k x+64*ET x l≤k+64*l+64:=by
 have d1:=h0
 rw[KY] at d1
 obtain⟨a1_0,b1_0,e1_0⟩:=AX d1
 have w1_0:=(Bq x.r (fun x _=>Ba x) a1_0 (by omega)).2
 obtain⟨a1_1,b1_1,e1_1⟩:=AX b1_0
 have w1_1:=(IP x.q _ a1_1 (by omega)).2
 have d2:=a1_1
 rw[Fv] at d2
 obtain⟨a2_0,b2_0,e2_0⟩:=AX d2
 have w2_0:=(Dx x.q.p _ a2_0 (by omega)).2
 have d3:=a2_0
 rw[FI] at d3
 obtain⟨a3_0,b3_0,e3_0⟩:=AX d3
 have w3_0:=(Ba x.q.p.v _ a3_0 (by omega)).2
 have d4:=a3_0
 rw[D8] at d4
 obtain⟨a4_0,b4_0,e4_0⟩:=AX d4
 have w4_0:=(Bo a4_0 (by omega)).2
 have eq4:Ad x.q.p.v (BZ Ad x.r l)=(Di x.q.p.v.s.size (BZ Ad x.r l)):=(D8 x.q.p.v (BZ Ad x.r l)).trans (e4_0)
 obtain⟨a3_1,b3_1,e3_1⟩:=AX b3_0
 have w3_1:=(Bq x.q.p.l (fun x _=>Dx x) a3_1 (by omega)).2
 have eq3:Ar x.q.p (BZ Ad x.r l)=(BZ Ar x.q.p.l (Ad x.q.p.v (BZ Ad x.r l))):=(FI x.q.p (BZ Ad x.r l)).trans ((e3_0).trans (e3_1))
 obtain⟨a2_1,b2_1,e2_1⟩:=AX b2_0
 have w2_1:=(Bo a2_1 (by omega)).2
 have eq2:Bv x.q (BZ Ad x.r l)=(Di x.q.out.length (Ar x.q.p (BZ Ad x.r l))):=(Fv x.q (BZ Ad x.r l)).trans ((e2_0).trans (e2_1))
 obtain⟨a1_2,b1_2,e1_2⟩:=AX b1_1
 have w1_2:=(NK x.res _ a1_2 (by omega)).2
 have d5:=a1_2
 rw[IL] at d5
 obtain⟨a5_0,b5_0,e5_0⟩:=AX d5
 have w5_0:=(Bq x.res.rows (fun x _=>Ha x) a5_0 (by omega)).2
 obtain⟨a5_1,b5_1,e5_1⟩:=AX b5_0
 have w5_1:=(Ba x.res.v _ a5_1 (by omega)).2
 have d6:=a5_1
 rw[D8] at d6
 obtain⟨a6_0,b6_0,e6_0⟩:=AX d6
 have w6_0:=(Bo a6_0 (by omega)).2
 have eq6:Ad x.res.v (BZ EM x.res.rows (Bv x.q (BZ Ad x.r l)))=(Di x.res.v.s.size (BZ EM x.res.rows (Bv x.q (BZ Ad x.r l)))):=(D8 x.res.v (BZ EM x.res.rows (Bv x.q (BZ Ad x.r l)))).trans (e6_0)
 have eq5:GY x.res (Bv x.q (BZ Ad x.r l))=(Ad x.res.v (BZ EM x.res.rows (Bv x.q (BZ Ad x.r l)))):=(IL x.res (Bv x.q (BZ Ad x.r l))).trans ((e5_0).trans (e5_1))
 have FC:ET x l=(GY x.res (Bv x.q (BZ Ad x.r l))):=(KY x l).trans ((e1_0).trans ((e1_1).trans (e1_2)))
 have:BO k x+64*(BZ Ad x.r l)≤k+2+64*l:=Fj _ (fun y _ k l a b=>⟨NM y k l a b,(Ba y l a b).2⟩) _ a1_0 (by omega)
 have:FT k x+64*(BZ Ar x.q.p.l (Ad x.q.p.v (BZ Ad x.r l)))≤BO k x+8+64*(Ad x.q.p.v (BZ Ad x.r l)):=Fj _ (fun y _ k l a b=>⟨TL y k l a b,(Dx y l a b).2⟩) _ a3_1 (by omega)
 have:Hy k x+64*(Di x.q.out.length (Ar x.q.p (BZ Ad x.r l)))≤FT k x+1+64*(Ar x.q.p (BZ Ad x.r l)):=JG MB _ _ _ a2_1
 have:BM k x+64*(BZ EM x.res.rows (Bv x.q (BZ Ad x.r l)))≤Hy k x+64*(Bv x.q (BZ Ad x.r l)):=Fj _ (fun y _ k l a b=>⟨V9 y k l a b,(Ha y l a b).2⟩) _ a5_0 (by omega)
 rw[Oy,FC]; omega
theorem UX (xs:List DDeed) (k:Int) (hk:0≤k) (hx:fitS Cc xs) (hb:C_ Hz k xs≤4000000000000000000):X9 prog 45 84 25 DDeed.o Jy Hz xs (k):=by
 have hxl:=hx.1
 refine MCtr.mk (fn:=f45) call45 func45 rfl mixed ntmps45 results45 (by kernel_rfl) rfl (.inr rfl) fun us hw0 hw=>?_
 simp only[go_sem]
 refine LoopA.mk 1 0 [0,1,5] (A:=Nat×List DDeed×Int) (mkS us 221 84 25 DDeed.o xs) (MkX Jy Hz xs k) (fun x=>xs.length-x.1) (0,[],k) ⟨⟨rfl,BX (Ak Oi)⟩,rfl,MkX.start⟩ ?_
 rintro⟨i,dn,k1⟩ hP
 have hn:=hP.len
 simp only[go_sem,mkS,ae,hn]
 refine cndC.mk (fun h=>?_) (fun h=>?_)
 ·have hi:i<xs.length:=by simpa using h
  obtain⟨q2,q4,q5,q3⟩:=hP.room hi Oz DDeed.o
  have hst:=hP.set hi DDeed.o (Jy k1 xs[i])
  have hset:=set_self (R:=(dn++xs.drop i).map DDeed.o) (i:=i) q3
  rw[Oy] at q4
  have hle:=ZJ k1 xs[i]
  have hfx:=hx.2 _ (au hi)
  rw[DDeed.o_eq] at q2
  simp only[DPred.o_eq,DQuery.o_eq,DResult.o_eq,DVal.c_eq,fA,bP] at q2
  simp only[go_sem,q2,q3,hset,bZ,bu,Jh,A_,Int.reduceAdd,wz (n:=k1+1),wz (n:=k1+2),wz (n:=(i:Int)+1)]
  refine MutX.mk (l:=1) (IQ _ (k1+2) (by omega) hfx.1 (by show BO k1 xs[i]≤_; omega)) rfl ⟨rfl,rfl,rfl,rfl,BP _,by simp,trivial⟩ ?_
  simp only[go_sem,q2,q3,hset,bZ,bu,Jh,A_,Int.reduceAdd,wz (n:=BO k1 xs[i]+1),wz (n:=BO k1 xs[i]+2),wz (n:=BO k1 xs[i]+3),wz (n:=BO k1 xs[i]+4),wz (n:=BO k1 xs[i]+5),wz (n:=BO k1 xs[i]+6),wz (n:=BO k1 xs[i]+7),wz (n:=(i:Int)+1),Kt]
  refine CallK.mk _ (EI (BO k1 xs[i]+7) (by omega) (by omega)) fun _=>?_
  simp only[go_sem,q2,q3,hset,bZ,bu,Jh,A_,Int.reduceAdd,wz (n:=BO k1 xs[i]+8),wz (n:=(i:Int)+1),Kt]
  refine MutX.mk (l:=2) (NU _ (BO k1 xs[i]+8) (by omega) (Eq.mp (Bi _) hfx.2.1.1).2 (by show FT k1 xs[i]≤_; omega)) rfl ⟨rfl,rfl,rfl,rfl,CV _,by simp,trivial⟩ ?_
  simp only[go_sem,q2,q3,hset,bZ,bu,Jh,A_,Int.reduceAdd,wz (n:=FT k1 xs[i]+1),wz (n:=(i:Int)+1),Kt,QF]
  refine MutX.mk (l:=3) (FK _ (FT k1 xs[i]+1) (by omega) hfx.2.1.2 (by show Hy k1 xs[i]≤_; omega)) rfl ⟨rfl,rfl,rfl,rfl,AU _,by simp,trivial⟩ ?_
  simp only[go_sem,q2,q3,hset,bZ,bu,Jh,A_,Int.reduceAdd,wz (n:=(i:Int)+1),Kt,QF,UW]
  refine MutX.mk (l:=4) (Js _ (Hy k1 xs[i]) (by omega) hfx.2.2.1 (by show BM k1 xs[i]≤_; omega)) rfl ⟨rfl,rfl,rfl,rfl,AL _,by simp,trivial⟩ ?_
  simp only[go_sem,q2,q3,hset,bZ,bu,Jh,A_,Int.reduceAdd,wz (n:=BM k1 xs[i]+1),wz (n:=BM k1 xs[i]+2),wz (n:=BM k1 xs[i]+3),wz (n:=BM k1 xs[i]+4),wz (n:=(i:Int)+1),Kt,QF,UW,ZI]
  refine CallK.mk _ (EI (BM k1 xs[i]+4) (by omega) (by omega)) fun _=>?_
  simp only[go_sem,q2,q3,hset,bZ,bu,Jh,A_,Int.reduceAdd,wz (n:=BM k1 xs[i]+5),wz (n:=BM k1 xs[i]+6),wz (n:=BM k1 xs[i]+7),wz (n:=BM k1 xs[i]+8),wz (n:=BM k1 xs[i]+9),wz (n:=BM k1 xs[i]+10),wz (n:=(i:Int)+1),Kt,QF,UW,ZI]
  refine⟨(i+1,dn ++ [Jy k1 xs[i]],Hz k1 xs[i]),.inr ⟨i,(dn++xs.drop i).map DDeed.o, ?rowr,DDeed.o (Jy k1 xs[i]), ?ob,⟨gX, ?e1, ?e2,q3, ?e3⟩, ?own,⟨rfl, ?tr⟩, ?eq⟩,hP.step hi Oz, ?mu⟩
  case e1=>exact rfl
  case e2=>exact rfl
  case e3=>exact rfl
  case own=>rw[iL]; exact⟨rfl,rfl,rfl,rfl,rfl,rfl,rfl,rfl,BP _,by simp,rfl,rfl,rfl,rfl,rfl,rfl,rfl,rfl,rfl,rfl,rfl,rfl,rfl,rfl,rfl,rfl,rfl,rfl,rfl,rfl,CV _,by simp,rfl,rfl,rfl,rfl,rfl,rfl,AU _,by simp,rfl,rfl,rfl,rfl,AL _,by simp,rfl,rfl,rfl,rfl,rfl,rfl,rfl,rfl,rfl,rfl,rfl,rfl,rfl,rfl,rfl,rfl,rfl,rfl,rfl,rfl,fun l hl=>by omega⟩
  case eq=>unfold Am; rw[hst,Oy]; rfl
  case tr=>unfold Am; rw[hst]; exact BX (Ak Oi)
  case mu=>simp only; omega
 ·obtain⟨y1,y2⟩:=hP.finL h
  simp only[go_sem]
  rw[y1,y2]
  exact⟨[.ref 0],[.ow 84 25 _],[.c (.v (.int .i64 _))],rfl,.inr rfl,⟨rfl,rfl,rfl,rfl,JP _,by simp,trivial⟩,by simp only[CQ,D5,V8,aH],rfl,rfl,rfl,rfl⟩
def Qz (k:Int) (x:DConf):Int:=C_ Ip (k) x.cols
theorem lY (k:Int) (x:DConf):C_ Ip (k) x.cols=Qz k x:=rfl
def Ii (k:Int) (x:DConf):Int:=Qz k x
def YB (k:Int) (x:DConf):DConf:=⟨Ez Vz Ip (k) x.cols,x.slots,x.bufs⟩
theorem WC (k:Int) (x:DConf):k≤Qz k x:=CS Fq _ _
theorem dC (k:Int) (x:DConf):k≤Ii k x:=by have:=WC k x; unfold Ii; omega
theorem dD (x:DConf) (k l:Int) (h0:0≤Cm x l) (hl:l≤1048576):Ii k x+64*Cm x l≤k+64*l:=by
 have e0:=OZ x l
 have h1:=h0
 rw[e0] at h1
 obtain⟨a0,b0,u0⟩:=AX h1
 have w0:=(Bo a0 (by omega)).2
 have:Qz k x+64*(Di x.cols.length (l))≤k+64*(l):=JG MB _ _ _ a0
 have FC:Cm x l=Di x.cols.length (l):=(e0).trans (u0)
 rw[FC]; unfold Ii; omega
theorem WE (x:DConf) (k:Int) (hk:0≤k) (hf:KZ x) (hb:Ii k x≤4000000000000000000):MCtr prog 39 true x.o [.c (.v (.int .i64 k))] (fun cl' rs=>cl'=(YB k x).o∧rs = [.c (.v (.int .i64 (Ii k x)))]):=by
 unfold Ii at hb
 have hle:=WC k x
 refine MCtr.mk (fn:=f39) call39 func39 rfl mixed ntmps39 results39 (by kernel_rfl) rfl (.inl rfl) fun us hw0 hw=>?_
 simp only[go_sem]
 refine MutX.mk (l:=0) (FK x.cols (k) (by omega) hf (by show Qz k x≤_; omega)) rfl ⟨rfl,rfl,rfl,rfl,AU _,by simp,trivial⟩ ?_
 simp only[go_sem,lY]
 exact⟨[.ref 0,.v (.int .i64 x.slots),.v (.int .i64 x.bufs)],(YB k x).o,[.c (.v (.int .i64 (Ii k x)))],rfl,.inl rfl,⟨rfl,rfl,rfl,rfl,AU _,by simp,rfl,rfl,rfl,rfl,trivial⟩,Z8 _,rfl,rfl,rfl,rfl⟩
def WF (k:Int) (x:DDir):Int:=C_ Hu (k) x.l
theorem qE (k:Int) (x:DDir):C_ Hu (k) x.l=WF k x:=rfl
def Lc (k:Int) (x:DDir):Int:=WF k x
def iM (k:Int) (x:DDir):DDir:=⟨x.ver,Ez mkRef Hu (k) x.l⟩
theorem ZK (k:Int) (x:DDir):k≤WF k x:=CS NV _ _
theorem iO (k:Int) (x:DDir):k≤Lc k x:=by have:=ZK k x; unfold Lc; omega
theorem iP (x:DDir) (k l:Int) (h0:0≤ES x l) (hl:l≤1048576):Lc k x+64*ES x l≤k+64*l:=by
 have e0:=Qj x l
 have h1:=h0
 rw[e0] at h1
 obtain⟨a0,b0,u0⟩:=AX h1
 have w0:=(Bo a0 (by omega)).2
 have:WF k x+64*(Di x.l.length (l))≤k+64*(l):=JG WB _ _ _ a0
 have FC:ES x l=Di x.l.length (l):=(e0).trans (u0)
 rw[FC]; unfold Lc; omega
theorem YC (x:DDir) (k:Int) (hk:0≤k) (hf:Oc x) (hb:Lc k x≤4000000000000000000):MCtr prog 40 true x.o [.c (.v (.int .i64 k))] (fun cl' rs=>cl'=(iM k x).o∧rs = [.c (.v (.int .i64 (Lc k x)))]):=by
 unfold Lc at hb
 have hle:=ZK k x
 refine MCtr.mk (fn:=f40) call40 func40 rfl mixed ntmps40 results40 (by kernel_rfl) rfl (.inl rfl) fun us hw0 hw=>?_
 simp only[go_sem]
 refine MutX.mk (l:=0) (PX x.l (k) (by omega) hf (by show WF k x≤_; omega)) rfl ⟨rfl,rfl,rfl,rfl,Ik _,by simp,trivial⟩ ?_
 simp only[go_sem,qE]
 exact⟨[.v (.int .i64 x.ver),.ref 0],(iM k x).o,[.c (.v (.int .i64 (Lc k x)))],rfl,.inl rfl,⟨rfl,rfl,rfl,rfl,rfl,rfl,Ik _,by simp,trivial⟩,h_ _,rfl,rfl,rfl,rfl⟩
def F_ (k:Int) (x:DWorld):Int:=Ii (k) x.c0
theorem Gh (k:Int) (x:DWorld):Ii (k) x.c0=F_ k x:=rfl
def GG (k:Int) (x:DWorld):Int:=Lc (F_ k x) x.d
theorem H5 (k:Int) (x:DWorld):Lc (F_ k x) x.d=GG k x:=rfl
def GH (k:Int) (x:DWorld):Int:=C_ Jv (GG k x) x.b
theorem Iy (k:Int) (x:DWorld):C_ Jv (GG k x) x.b=GH k x:=rfl
def GI (k:Int) (x:DWorld):Int:=C_ Ip (GH k x) x.m
theorem Jz (k:Int) (x:DWorld):C_ Ip (GH k x) x.m=GI k x:=rfl
def GK (k:Int) (x:DWorld):Int:=C_ Ht (GI k x) x.x
theorem NW (k:Int) (x:DWorld):C_ Ht (GI k x) x.x=GK k x:=rfl
def GL (k:Int) (x:DWorld):Int:=C_ Ip (GK k x) x.p
theorem Q3 (k:Int) (x:DWorld):C_ Ip (GK k x) x.p=GL k x:=rfl
def GM (k:Int) (x:DWorld):Int:=C_ Hw (GL k x) x.tasks
theorem WG (k:Int) (x:DWorld):C_ Hw (GL k x) x.tasks=GM k x:=rfl
def NY (k:Int) (x:DWorld):Int:=C_ Hz (GM k x) x.deeds
theorem iQ (k:Int) (x:DWorld):C_ Hz (GM k x) x.deeds=NY k x:=rfl
def G7 (k:Int) (x:DWorld):Int:=NY k x
def ZL (k:Int) (x:DWorld):DWorld:=⟨YB (k) x.c0,x.time,x.t,x.e,iM (F_ k x) x.d,Ez Qw Jv (GG k x) x.b,Ez Vz Ip (GH k x) x.m,Ez Oq Ht (GI k x) x.x,Ez Vz Ip (GK k x) x.p,Ez Jw Hw (GL k x) x.tasks,Ez Jy Hz (GM k x) x.deeds⟩
theorem TN (k:Int) (x:DWorld):k≤F_ k x∧F_ k x≤GG k x∧GG k x≤GH k x∧GH k x≤GI k x∧GI k x≤GK k x∧GK k x≤GL k x∧GL k x≤GM k x∧GM k x≤NY k x:=⟨dC _ _,iO _ _,CS Qy _ _,CS Fq _ _,CS Ot _ _,CS Fq _ _,CS Ox _ _,CS Oz _ _⟩
theorem YD (k:Int) (x:DWorld):k≤G7 k x:=by have:=TN k x; unfold G7; omega
theorem YE (x:DWorld) (k l:Int) (h0:0≤IM x l) (hl:l≤1048576):G7 k x+64*IM x l≤k+64*l:=by
 have e0:=MC x l
 have h1:=h0
 rw[e0] at h1
 obtain⟨a0,b0,u0⟩:=AX h1
 have w0:=(Qm x.c0 _ a0 (by omega)).2
 have:F_ k x+64*(Cm x.c0 (l))≤k+64*(l):=dD _ _ _ a0 (by omega)
 obtain⟨a1,b1,u1⟩:=AX b0
 have w1:=(TK x.d _ a1 (by omega)).2
 have:GG k x+64*(ES x.d (Cm x.c0 (l)))≤F_ k x+64*(Cm x.c0 (l)):=iP _ _ _ a1 (by omega)
 obtain⟨a2,b2,u2⟩:=AX b1
 have w2:=(Bq x.b (fun x _=>Oa x) a2 (by omega)).2
 have:GH k x+64*(BZ Dp x.b (ES x.d (Cm x.c0 (l))))≤GG k x+64*(ES x.d (Cm x.c0 (l))):=Fj _ (fun y _ k l a b=>⟨iH y k l a b,(Oa y l a b).2⟩) _ a2 (by omega)
 obtain⟨a3,b3,u3⟩:=AX b2
 have w3:=(Bo a3 (by omega)).2
 have:GI k x+64*(Di x.m.length (BZ Dp x.b (ES x.d (Cm x.c0 (l)))))≤GH k x+64*(BZ Dp x.b (ES x.d (Cm x.c0 (l)))):=JG MB _ _ _ a3
 obtain⟨a4,b4,u4⟩:=AX b3
 have w4:=(Bo a4 (by omega)).2
 have:GK k x+64*(Di x.x.length (Di x.m.length (BZ Dp x.b (ES x.d (Cm x.c0 (l))))))≤GI k x+64*(Di x.m.length (BZ Dp x.b (ES x.d (Cm x.c0 (l))))):=JG b_ _ _ _ a4
 obtain⟨a5,b5,u5⟩:=AX b4
 have w5:=(Bo a5 (by omega)).2
 have:GL k x+64*(Di x.p.length (Di x.x.length (Di x.m.length (BZ Dp x.b (ES x.d (Cm x.c0 (l)))))))≤GK k x+64*(Di x.x.length (Di x.m.length (BZ Dp x.b (ES x.d (Cm x.c0 (l)))))):=JG MB _ _ _ a5
 obtain⟨a6,b6,u6⟩:=AX b5
 have w6:=(Bq x.tasks (fun x _=>MH x) a6 (by omega)).2
 have:GM k x+64*(BZ Dw x.tasks (Di x.p.length (Di x.x.length (Di x.m.length (BZ Dp x.b (ES x.d (Cm x.c0 (l))))))))≤GL k x+64*(Di x.p.length (Di x.x.length (Di x.m.length (BZ Dp x.b (ES x.d (Cm x.c0 (l))))))):=Fj _ (fun y _ k l a b=>⟨dA y k l a b,(MH y l a b).2⟩) _ a6 (by omega)
 obtain⟨a7,b7,u7⟩:=AX b6
 have w7:=(Bq x.deeds (fun x _=>MI x) a7 (by omega)).2
 have:NY k x+64*(BZ ET x.deeds (BZ Dw x.tasks (Di x.p.length (Di x.x.length (Di x.m.length (BZ Dp x.b (ES x.d (Cm x.c0 (l)))))))))≤GM k x+64*(BZ Dw x.tasks (Di x.p.length (Di x.x.length (Di x.m.length (BZ Dp x.b (ES x.d (Cm x.c0 (l)))))))):=Fj _ (fun y _ k l a b=>⟨dB y k l a b,(MI y l a b).2⟩) _ a7 (by omega)
 have FC:IM x l=BZ ET x.deeds (BZ Dw x.tasks (Di x.p.length (Di x.x.length (Di x.m.length (BZ Dp x.b (ES x.d (Cm x.c0 (l)))))))):=(e0).trans ((u0).trans ((u1).trans ((u2).trans ((u3).trans ((u4).trans ((u5).trans ((u6).trans (u7))))))))
 rw[FC]; unfold G7; omega
theorem UY (x:DWorld) (k:Int) (hk:0≤k) (hf:Hq x) (hb:G7 k x≤4000000000000000000):MCtr prog 10 true x.o [.c (.v (.int .i64 k))] (fun cl' rs=>cl'=(ZL k x).o∧rs = [.c (.v (.int .i64 (G7 k x)))]):=by
 unfold G7 at hb
 have hle:=TN k x
 refine MCtr.mk (fn:=f10) call10 func10 rfl mixed ntmps10 results10 (by kernel_rfl) rfl (.inl rfl) fun us hw0 hw=>?_
 simp only[go_sem]
 refine MutK.mk true (zs:=[.ref 0,.v (.int .i64 x.c0.slots),.v (.int .i64 x.c0.bufs)]) (cl:=[.ow 3 1 (x.c0.cols.map intC),.v (.int .i64 x.c0.slots),.v (.int .i64 x.c0.bufs)]) (by simpa only[go_sem] using WE x.c0 (k) (by omega) hf.1 (by show F_ k x≤_; omega)) rfl ⟨rfl,rfl,rfl,rfl,AU _,by simp,rfl,rfl,rfl,rfl,trivial⟩ rfl (.inl rfl) fun cl' rs hM=>?_
 obtain⟨rfl,rfl⟩:=hM
 refine⟨⟨rfl,⟨rfl,rfl⟩,rfl,rfl,trivial⟩, ?_⟩
 simp only[go_sem,Gh]
 refine MutK.mk true (zs:=[.v (.int .i64 x.d.ver),.ref 1]) (cl:=[.v (.int .i64 x.d.ver),.ow 172 5 (x.d.l.map DRef.c)]) (by simpa only[go_sem] using YC x.d (F_ k x) (by omega) hf.2.1 (by show GG k x≤_; omega)) rfl ⟨rfl,rfl,rfl,rfl,rfl,rfl,Ik _,by simp,trivial⟩ rfl (.inl rfl) fun cl' rs hM=>?_
 obtain⟨rfl,rfl⟩:=hM
 refine⟨⟨rfl,rfl,⟨rfl,rfl⟩,trivial⟩, ?_⟩
 simp only[go_sem,Gh,H5]
 refine MutX.mk (l:=2) (WA x.b (GG k x) (by omega) hf.2.2.1 (by show GH k x≤_; omega)) rfl ⟨rfl,rfl,rfl,rfl,RN _,by simp,trivial⟩ ?_
 simp only[go_sem,Gh,H5,Iy]
 refine MutX.mk (l:=3) (FK x.m (GH k x) (by omega) hf.2.2.2.1 (by show GI k x≤_; omega)) rfl ⟨rfl,rfl,rfl,rfl,AU _,by simp,trivial⟩ ?_
 simp only[go_sem,Gh,H5,Iy,Jz]
 refine MutX.mk (l:=4) (UT x.x (GI k x) (by omega) hf.2.2.2.2.1 (by show GK k x≤_; omega)) rfl ⟨rfl,rfl,rfl,rfl,QJ _,by simp,trivial⟩ ?_
 simp only[go_sem,Gh,H5,Iy,Jz,NW]
 refine MutX.mk (l:=5) (FK x.p (GK k x) (by omega) hf.2.2.2.2.2.1 (by show GL k x≤_; omega)) rfl ⟨rfl,rfl,rfl,rfl,AU _,by simp,trivial⟩ ?_
 simp only[go_sem,Gh,H5,Iy,Jz,NW,Q3]
 refine MutX.mk (l:=6) (UV x.tasks (GL k x) (by omega) hf.2.2.2.2.2.2.1 (by show GM k x≤_; omega)) rfl ⟨rfl,rfl,rfl,rfl,Nl _,by simp,trivial⟩ ?_
 simp only[go_sem,Gh,H5,Iy,Jz,NW,Q3,WG]
 refine MutX.mk (l:=7) (UX x.deeds (GM k x) (by omega) hf.2.2.2.2.2.2.2 (by show NY k x≤_; omega)) rfl ⟨rfl,rfl,rfl,rfl,JP _,by simp,trivial⟩ ?_
 simp only[go_sem,Gh,H5,Iy,Jz,NW,Q3,WG,iQ]
 exact⟨[.ref 0,.v (.int .i64 x.c0.slots),.v (.int .i64 x.c0.bufs),.v (.int .i64 x.time),.v (.int .i64 x.t),.v (.int .i64 x.e),.v (.int .i64 x.d.ver),.ref 1,.ref 2,.ref 3,.ref 4,.ref 5,.ref 6,.ref 7],(ZL k x).o,[.c (.v (.int .i64 (G7 k x)))],rfl,.inl rfl,⟨rfl,rfl,rfl,rfl,AU _,by simp,rfl,rfl,rfl,rfl,rfl,rfl,rfl,rfl,rfl,rfl,rfl,rfl,rfl,rfl,rfl,rfl,Ik _,by simp,rfl,rfl,rfl,rfl,RN _,by simp,rfl,rfl,rfl,rfl,AU _,by simp,rfl,rfl,rfl,rfl,QJ _,by simp,rfl,rfl,rfl,rfl,AU _,by simp,rfl,rfl,rfl,rfl,Nl _,by simp,rfl,rfl,rfl,rfl,JP _,by simp,trivial⟩,X_ _,rfl,rfl,rfl,rfl⟩
def Ei (k:Int) (x:DTable):Int:=C_ Ip (k) x.cols
theorem NZ (k:Int) (x:DTable):C_ Ip (k) x.cols=Ei k x:=rfl
def IR (k:Int) (x:DTable):Int:=C_ D9 (Ei k x) x.l
theorem WH (k:Int) (x:DTable):C_ D9 (Ei k x) x.l=IR k x:=rfl
def FU (k:Int) (x:DTable):Int:=IR k x
def Ku (k:Int) (x:DTable):DTable:=⟨Ez Vz Ip (k) x.cols,Ez mkRow D9 (Ei k x) x.l⟩
theorem O0 (k:Int) (x:DTable):k≤Ei k x∧Ei k x≤IR k x:=⟨CS Fq _ _,CS Hr _ _⟩
theorem YF (k:Int) (x:DTable):k≤FU k x:=by have:=O0 k x; unfold FU; omega
theorem UZ (x:DTable) (k:Int) (hk:0≤k) (hf:Bf x) (hb:FU k x≤4000000000000000000):MCtr prog 11 true x.o [.c (.v (.int .i64 k))] (fun cl' rs=>cl'=(Ku k x).o∧rs = [.c (.v (.int .i64 (FU k x)))]):=by
 unfold FU at hb
 have hle:=O0 k x
 refine MCtr.mk (fn:=f11) call11 func11 rfl mixed ntmps11 results11 (by kernel_rfl) rfl (.inl rfl) fun us hw0 hw=>?_
 simp only[go_sem]
 refine MutX.mk (l:=0) (FK x.cols (k) (by omega) hf.1 (by show Ei k x≤_; omega)) rfl ⟨rfl,rfl,rfl,rfl,AU _,by simp,trivial⟩ ?_
 simp only[go_sem,NZ]
 refine MutX.mk (l:=1) (Js x.l (Ei k x) (by omega) hf.2 (by show IR k x≤_; omega)) rfl ⟨rfl,rfl,rfl,rfl,AL _,by simp,trivial⟩ ?_
 simp only[go_sem,NZ,WH]
 exact⟨[.ref 0,.ref 1],(Ku k x).o,[.c (.v (.int .i64 (FU k x)))],rfl,.inl rfl,⟨rfl,rfl,rfl,rfl,AU _,by simp,rfl,rfl,rfl,rfl,AL _,by simp,trivial⟩,MJ _,rfl,rfl,rfl,rfl⟩
theorem J3 (x:DTable) (k:Int) (hk:0≤k) (hf:Bf x) (hb:FU k x≤4000000000000000000):Ctr prog 12 [.agg (Ku k x).c,.c (.v (.int .i64 k))] [.val (.c (.v (.int .i64 (FU k x))))]:=by
 unfold FU at hb ⊢
 have hle:=O0 k x
 refine CM call12 func12 ntmps12 results12 fun hw=>?_
 simp only[go_sem,Ku]
 refine CallK.mk _ (SX x.cols (k) (by omega) hf.1 (by show Ei k x≤_; omega)) fun _=>?_
 have hg0:=p_ (x:=Ei k x) (by omega)
 simp only[go_sem,NZ,hg0]
 refine CallK.mk _ (Si x.l (Ei k x) (by omega) hf.2 (by show IR k x≤_; omega)) fun _=>?_
 have hg1:=p_ (x:=IR k x) (by omega)
 simp only[go_sem,NZ,WH,hg0,hg1]
end Go.Proofs.YtgkmefoghbjfnaaGreat
