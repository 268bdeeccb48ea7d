/- A part. -/
import Derived.Test.YthmifbbmgnhddaaGreatEt
import Derived.Test.YthmifbbmgnhddaaGreatFa
set_option linter.unusedSimpArgs false
set_option linter.unusedVariables false
set_option maxHeartbeats 2000000
set_option maxRecDepth 10000
open Go.Proofs.Tryz
namespace Go.Proofs.YthmifbbmgnhddaaGreat
open Go.Vm
def A7 (k:Int) (x:DDeed):Int:=Eh FI (k+2) x.r
theorem Ik (k:Int) (x:DDeed):Eh FI (k+2) x.r=A7 k x:=rfl
def Hq (k:Int) (x:DDeed):Int:=Eh BN (A7 k x+8) x.q.p.l
theorem Nl (k:Int) (x:DDeed):Eh BN (A7 k x+8) x.q.p.l=Hq k x:=rfl
def Jy (k:Int) (x:DDeed):Int:=Eh NH (Hq k x+1) x.q.out
theorem Qn (k:Int) (x:DDeed):Eh NH (Hq k x+1) x.q.out=Jy k x:=rfl
def Au (k:Int) (x:DDeed):Int:=Eh JU (Jy k x) x.res.rows
theorem WV (k:Int) (x:DDeed):Eh JU (Jy k x) x.res.rows=Au k x:=rfl
def GY (k:Int) (x:DDeed):Int:=Au k x+10
def LV (k:Int) (x:DDeed):DDeed:=⟨k,k+1,IV J_ FI (k+2) x.r,A7 k x,⟨A7 k x+1,DPred.mk (A7 k x+2) (A7 k x+3) (A7 k x+4) (⟨A7 k x+5,A7 k x+6,Ii (A7 k x+7)⟩) (IV EM BN (A7 k x+8) x.q.p.l),Hq k x,IV pX NH (Hq k x+1) x.q.out⟩,⟨IV mkRow JU (Jy k x) x.res.rows,Au k x,IntKind.i64.wrap ((Au k x+1).tmod 3)==0,⟨Au k x+2,Au k x+3,Ii (Au k x+4)⟩⟩,Au k x+5,Au k x+6,Au k x+7,Au k x+8,Au k x+9⟩
theorem UM (k:Int) (x:DDeed):GY k x=Au k x+10:=rfl
theorem AFU (k:Int) (x:DDeed):(LV k x).c = [.v (.int .i64 (k)),.v (.int .i64 (k+1)),.sl ((IV J_ FI (k+2) x.r).map DVal.c),.v (.int .i64 (A7 k x)),.v (.int .i64 (A7 k x+1)),.v (.int .i64 (A7 k x+2)),.v (.int .i64 (A7 k x+3)),.v (.int .i64 (A7 k x+4)),.v (.int .i64 (A7 k x+5)),.v (.int .i64 (A7 k x+6)),.v (.string (Ii (A7 k x+7))),.sl ((IV EM BN (A7 k x+8) x.q.p.l).map DPred.c),.v (.int .i64 (Hq k x)),.sl ((IV pX NH (Hq k x+1) x.q.out).map intC),.sl ((IV mkRow JU (Jy k x) x.res.rows).map DRow.c),.v (.int .i64 (Au k x)),.v (.bool (IntKind.i64.wrap ((Au k x+1).tmod 3)==0)),.v (.int .i64 (Au k x+2)),.v (.int .i64 (Au k x+3)),.v (.string (Ii (Au k x+4))),.v (.int .i64 (Au k x+5)),.v (.int .i64 (Au k x+6)),.v (.int .i64 (Au k x+7)),.v (.int .i64 (Au k x+8)),.v (.int .i64 (Au k x+9))]:=by rw[DDeed.c_eq]; simp only[LV,DPred.o_eq,DPred.c_eq,DQuery.o_eq,DQuery.c_eq,DResult.o_eq,DResult.c_eq,DVal.c_eq,DPred.kind,DPred.col,DPred.op,DPred.v,DPred.l,aT,aG]
theorem AFV (k:Int) (x:DDeed):(LV k x).o = [.v (.int .i64 (k)),.v (.int .i64 (k+1)),.ow 66 3 ((IV J_ FI (k+2) x.r).map DVal.c),.v (.int .i64 (A7 k x)),.v (.int .i64 (A7 k x+1)),.v (.int .i64 (A7 k x+2)),.v (.int .i64 (A7 k x+3)),.v (.int .i64 (A7 k x+4)),.v (.int .i64 (A7 k x+5)),.v (.int .i64 (A7 k x+6)),.v (.string (Ii (A7 k x+7))),.ow 69 7 ((IV EM BN (A7 k x+8) x.q.p.l).map DPred.o),.v (.int .i64 (Hq k x)),.ow 3 1 ((IV pX NH (Hq k x+1) x.q.out).map intC),.ow 201 2 ((IV mkRow JU (Jy k x) x.res.rows).map DRow.o),.v (.int .i64 (Au k x)),.v (.bool (IntKind.i64.wrap ((Au k x+1).tmod 3)==0)),.v (.int .i64 (Au k x+2)),.v (.int .i64 (Au k x+3)),.v (.string (Ii (Au k x+4))),.v (.int .i64 (Au k x+5)),.v (.int .i64 (Au k x+6)),.v (.int .i64 (Au k x+7)),.v (.int .i64 (Au k x+8)),.v (.int .i64 (Au k x+9))]:=by rw[DDeed.o_eq]; simp only[LV,DPred.o_eq,DPred.c_eq,DQuery.o_eq,DQuery.c_eq,DResult.o_eq,DResult.c_eq,DVal.c_eq,DPred.kind,DPred.col,DPred.op,DPred.v,DPred.l,aT,aG]
theorem rC (k:Int) (x:DDeed):k+2≤A7 k x∧A7 k x+8≤Hq k x∧Hq k x+1≤Jy k x∧Jy k x≤Au k x:=⟨Ed KN _ _,Ed KA _ _,Ed Jt _ _,Ed P5 _ _⟩
theorem P_ (k:Int) (x:DDeed):k≤GY k x:=by have:=rC k x; unfold GY; omega
theorem UN (x:DDeed) (k l:Int) (h0:0≤Jv x l) (hl:l≤1048576):GY k x+64*Jv x l≤k+64*l+64:=by
 have d1:=h0
 rw[N_] at d1
 obtain⟨a1_0,b1_0,e1_0⟩:=Aa d1
 have w1_0:=(Dk x.r (fun x _=>DL x) a1_0 AQ2).2
 obtain⟨a1_1,b1_1,e1_1⟩:=Aa b1_0
 have w1_1:=(MJ x.q _ a1_1 AQ2).2
 have d2:=a1_1
 rw[Iw] at d2
 obtain⟨a2_0,b2_0,e2_0⟩:=Aa d2
 have w2_0:=(FU x.q.p _ a2_0 AQ2).2
 have d3:=a2_0
 rw[Ic] at d3
 obtain⟨a3_0,b3_0,e3_0⟩:=Aa d3
 have w3_0:=(DL x.q.p.v _ a3_0 AQ2).2
 have d4:=a3_0
 rw[F9] at d4
 obtain⟨a4_0,b4_0,e4_0⟩:=Aa d4
 have w4_0:=(C9 a4_0 AQ2).2
 have eq4:Aj x.q.p.v (DD Aj x.r l)=(FY x.q.p.v.s.size (DD Aj x.r l)):=(F9 x.q.p.v (DD Aj x.r l)).trans (e4_0)
 obtain⟨a3_1,b3_1,e3_1⟩:=Aa b3_0
 have w3_1:=(Dk x.q.p.l (fun x _=>FU x) a3_1 AQ2).2
 have eq3:BJ x.q.p (DD Aj x.r l)=(DD BJ x.q.p.l (Aj x.q.p.v (DD Aj x.r l))):=(Ic x.q.p (DD Aj x.r l)).trans ((e3_0).trans (e3_1))
 obtain⟨a2_1,b2_1,e2_1⟩:=Aa b2_0
 have w2_1:=(C9 a2_1 AQ2).2
 have eq2:BV x.q (DD Aj x.r l)=(FY x.q.out.length (BJ x.q.p (DD Aj x.r l))):=(Iw x.q (DD Aj x.r l)).trans ((e2_0).trans (e2_1))
 obtain⟨a1_2,b1_2,e1_2⟩:=Aa b1_1
 have w1_2:=(WG x.res _ a1_2 AQ2).2
 have d5:=a1_2
 rw[J7] at d5
 obtain⟨a5_0,b5_0,e5_0⟩:=Aa d5
 have w5_0:=(Dk x.res.rows (fun x _=>OA x) a5_0 AQ2).2
 obtain⟨a5_1,b5_1,e5_1⟩:=Aa b5_0
 have w5_1:=(DL x.res.v _ a5_1 AQ2).2
 have d6:=a5_1
 rw[F9] at d6
 obtain⟨a6_0,b6_0,e6_0⟩:=Aa d6
 have w6_0:=(C9 a6_0 AQ2).2
 have eq6:Aj x.res.v (DD KJ x.res.rows (BV x.q (DD Aj x.r l)))=(FY x.res.v.s.size (DD KJ x.res.rows (BV x.q (DD Aj x.r l)))):=(F9 x.res.v (DD KJ x.res.rows (BV x.q (DD Aj x.r l)))).trans (e6_0)
 have eq5:MI x.res (BV x.q (DD Aj x.r l))=(Aj x.res.v (DD KJ x.res.rows (BV x.q (DD Aj x.r l)))):=(J7 x.res (BV x.q (DD Aj x.r l))).trans ((e5_0).trans (e5_1))
 have G9:Jv x l=(MI x.res (BV x.q (DD Aj x.r l))):=(N_ x l).trans ((e1_0).trans ((e1_1).trans (e1_2)))
 have:A7 k x+64*(DD Aj x.r l)≤k+2+64*l:=Js _ (fun y _ k l a b=>⟨SN y k l a b,(DL y l a b).2⟩) _ a1_0 AQ2
 have:Hq k x+64*(DD BJ x.q.p.l (Aj x.q.p.v (DD Aj x.r l)))≤A7 k x+8+64*(Aj x.q.p.v (DD Aj x.r l)):=Js _ (fun y _ k l a b=>⟨YG y k l a b,(FU y l a b).2⟩) _ a3_1 AQ2
 have:Jy k x+64*(FY x.q.out.length (BJ x.q.p (DD Aj x.r l)))≤Hq k x+1+64*(BJ x.q.p (DD Aj x.r l)):=PY PZ _ _ _ a2_1
 have:Au k x+64*(DD KJ x.res.rows (BV x.q (DD Aj x.r l)))≤Jy k x+64*(BV x.q (DD Aj x.r l)):=Js _ (fun y _ k l a b=>⟨wK y k l a b,(OA y l a b).2⟩) _ a5_0 AQ2
 rw[UM,G9]; omega
theorem rD (xs:List DDeed) (k:Int) (hk:0≤k) (hx:fitS C_ xs) (hb:Eh GY k xs≤4000000000000000000):MkE prog 69 162 25 DDeed.o LV GY xs (k):=by
 have hxl:=hx.1
 refine ACf (fn:=f69) call69 func69 rfl mixed ntmps69 results69 (by kernel_rfl) rfl (.inr rfl) fun us hw0 hw=>?_
 simp only[go_sem]
 refine ACi 1 0 [0,1,5] (A:=Nat×List DDeed×Int) (mkS us 221 162 25 DDeed.o xs) (MkX LV GY xs k) (fun x=>xs.length-x.1) (0,[],k) ⟨⟨rfl,Dn (BK YF)⟩,rfl,MkX.start⟩ ?_
 rintro⟨i,dn,k1⟩ hP
 have hn:=hP.len
 refine AQz (fun h=>?_) fun h=>?_
 ·have hi:i<xs.length:=by simpa using h
  obtain⟨q2,q4,q5,q3⟩:=hP.room hi P_ DDeed.o
  have hst:=hP.set hi DDeed.o (LV k1 xs[i])
  have hset:=set_self (R:=(dn++xs.drop i).map DDeed.o) (i:=i) q3
  rw[UM] at q4
  have hle:=rC k1 xs[i]
  have hfx:=hx.2 _ (aj hi)
  rw[DDeed.o_eq] at q2
  simp only[DPred.o_eq,DQuery.o_eq,DResult.o_eq,DVal.c_eq,aT,aG] at q2
  simp only[go_sem,q2,q3,hset,dh,bi,Jd,Ag,Int.reduceAdd,wz (n:=k1+1),wz (n:=k1+2),wz (n:=(i:Int)+1)]
  refine ABp (l:=1) (MM _ (k1+2) AQ2 hfx.1 (by show A7 k1 xs[i]≤_; omega)) rfl ⟨rfl,rfl,rfl,rfl,BH _,AQ3,trivial⟩ ?_
  simp only[go_sem,q2,q3,hset,dh,bi,Jd,Ag,Int.reduceAdd,wz (n:=A7 k1 xs[i]+1),wz (n:=A7 k1 xs[i]+2),wz (n:=A7 k1 xs[i]+3),wz (n:=A7 k1 xs[i]+4),wz (n:=A7 k1 xs[i]+5),wz (n:=A7 k1 xs[i]+6),wz (n:=A7 k1 xs[i]+7),wz (n:=(i:Int)+1),Ik]
  refine AAN _ (EQ (A7 k1 xs[i]+7) AQ2 AQ2) fun _=>?_
  simp only[go_sem,q2,q3,hset,dh,bi,Jd,Ag,Int.reduceAdd,wz (n:=A7 k1 xs[i]+8),wz (n:=(i:Int)+1),Ik]
  refine ABp (l:=2) (Qg _ (A7 k1 xs[i]+8) AQ2 (Eq.mp (BG _) hfx.2.1.1).2 (by show Hq k1 xs[i]≤_; omega)) rfl ⟨rfl,rfl,rfl,rfl,BC _,AQ3,trivial⟩ ?_
  simp only[go_sem,q2,q3,hset,dh,bi,Jd,Ag,Int.reduceAdd,wz (n:=Hq k1 xs[i]+1),wz (n:=(i:Int)+1),Ik,Nl]
  refine ABp (l:=3) (J9 _ (Hq k1 xs[i]+1) AQ2 hfx.2.1.2 (by show Jy k1 xs[i]≤_; omega)) rfl ⟨rfl,rfl,rfl,rfl,AX _,AQ3,trivial⟩ ?_
  simp only[go_sem,q2,q3,hset,dh,bi,Jd,Ag,Int.reduceAdd,wz (n:=(i:Int)+1),Ik,Nl,Qn]
  refine ABp (l:=4) (Y7 _ (Jy k1 xs[i]) AQ2 hfx.2.2.1 (by show Au k1 xs[i]≤_; omega)) rfl ⟨rfl,rfl,rfl,rfl,AO _,AQ3,trivial⟩ ?_
  simp only[go_sem,q2,q3,hset,dh,bi,Jd,Ag,Int.reduceAdd,wz (n:=Au k1 xs[i]+1),wz (n:=Au k1 xs[i]+2),wz (n:=Au k1 xs[i]+3),wz (n:=Au k1 xs[i]+4),wz (n:=(i:Int)+1),Ik,Nl,Qn,WV]
  refine AAN _ (EQ (Au k1 xs[i]+4) AQ2 AQ2) fun _=>?_
  simp only[go_sem,q2,q3,hset,dh,bi,Jd,Ag,Int.reduceAdd,wz (n:=Au k1 xs[i]+5),wz (n:=Au k1 xs[i]+6),wz (n:=Au k1 xs[i]+7),wz (n:=Au k1 xs[i]+8),wz (n:=Au k1 xs[i]+9),wz (n:=Au k1 xs[i]+10),wz (n:=(i:Int)+1),Ik,Nl,Qn,WV]
  refine⟨(i+1,dn ++ [LV k1 xs[i]],GY k1 xs[i]),.inr ⟨i,(dn++xs.drop i).map DDeed.o, ?rowr,DDeed.o (LV k1 xs[i]), ?ob,⟨aa3, ?e1, ?e2,q3, ?e3⟩, ?own,⟨rfl, ?tr⟩, ?eq⟩,hP.step hi P_, ?mu⟩
  case e1=>exact rfl
  case e2=>exact rfl
  case e3=>exact rfl
  case own=>rw[AFV]; exact⟨rfl,rfl,rfl,rfl,rfl,rfl,rfl,rfl,BH _,AQ3,rfl,rfl,rfl,rfl,rfl,rfl,rfl,rfl,rfl,rfl,rfl,rfl,rfl,rfl,rfl,rfl,rfl,rfl,rfl,rfl,BC _,AQ3,rfl,rfl,rfl,rfl,rfl,rfl,AX _,AQ3,rfl,rfl,rfl,rfl,AO _,AQ3,rfl,rfl,rfl,rfl,rfl,rfl,rfl,rfl,rfl,rfl,rfl,rfl,rfl,rfl,rfl,rfl,rfl,rfl,rfl,rfl,fun l hl=>AQ2⟩
  case eq=>unfold Am; rw[hst,UM]; rfl
  case tr=>unfold Am; rw[hst]; exact Dn (BK YF)
  case mu=>simp only; omega
 ·obtain⟨y1,y2⟩:=hP.finL h
  simp only[go_sem]
  rw[y1,y2]
  exact⟨[.ref 0],[.ow 162 25 _],[.c (.v (.int .i64 _))],rfl,.inr rfl,⟨rfl,rfl,rfl,rfl,IJ _,AQ3,trivial⟩,by simp only[EP,Hr,wJ,aF],rfl,rfl,rfl,rfl⟩
theorem gm (xs:List DDeed) (k:Int) (hk:0≤k) (hx:fitS C_ xs) (hb:Eh GY k xs≤4000000000000000000):HdE prog 77 DDeed.c LV GY xs (k):=by
 have hxl:=hx.1
 refine CM call77 func77 ntmps77 results77 fun hw=>?_
 simp only[go_sem]
 refine AAa 0 [0,1,5] (A:=Nat×Int) (lK 271 DDeed.c LV GY xs k) (HdX LV GY xs k) (fun x=>xs.length-x.1) (0,k) ⟨⟨rfl,rfl⟩,rfl,HdX.start⟩ ?_
 rintro⟨i,k1⟩ hP
 refine AQ0 (fun h=>?_) fun h=>?_
 ·have hi:i<xs.length:=by simpa using h
  obtain⟨q2,q4,q5⟩:=hP.room hi P_ DDeed.c
  rw[UM] at q4
  have hle:=rC k1 xs[i]
  have hfx:=hx.2 _ (aj hi)
  rw[AFU] at q2
  simp only[go_sem,q2,Jd,aB,ax,Ag,Int.reduceAdd,wz (n:=k1+1),wz (n:=k1+2),wz (n:=(i:Int)+1)]
  refine AAN _ (Lp _ (k1+2) AQ2 hfx.1 (by show A7 k1 xs[i]≤_; omega)) fun _=>?_
  have hg1:=Nb (x:=A7 k1 xs[i]) AQ2
  simp only[go_sem,q2,Jd,aB,ax,Ag,Int.reduceAdd,wz (n:=A7 k1 xs[i]+1),wz (n:=A7 k1 xs[i]+2),wz (n:=A7 k1 xs[i]+3),wz (n:=A7 k1 xs[i]+4),wz (n:=A7 k1 xs[i]+5),wz (n:=A7 k1 xs[i]+6),wz (n:=A7 k1 xs[i]+7),wz (n:=(i:Int)+1),Ik,hg1]
  refine AAO ?_
  simp only[go_sem,q2,Jd,aB,ax,Ag,Int.reduceAdd,wz (n:=A7 k1 xs[i]+1),wz (n:=A7 k1 xs[i]+2),wz (n:=A7 k1 xs[i]+3),wz (n:=A7 k1 xs[i]+4),wz (n:=A7 k1 xs[i]+5),wz (n:=A7 k1 xs[i]+6),wz (n:=A7 k1 xs[i]+7),wz (n:=(i:Int)+1),Ik,hg1]
  refine AAS _ (EQ (A7 k1 xs[i]+7) AQ2 AQ2) ?_
  simp only[go_sem,q2,Jd,aB,ax,Ag,Int.reduceAdd,wz (n:=A7 k1 xs[i]+8),wz (n:=(i:Int)+1),Ik,hg1]
  refine AAN _ (SQ _ (A7 k1 xs[i]+8) AQ2 (Eq.mp (BG _) hfx.2.1.1).2 (by show Hq k1 xs[i]≤_; omega)) fun _=>?_
  have hg2:=Nb (x:=Hq k1 xs[i]) AQ2
  simp only[go_sem,q2,Jd,aB,ax,Ag,Int.reduceAdd,wz (n:=Hq k1 xs[i]+1),wz (n:=(i:Int)+1),Ik,Nl,hg1,hg2]
  refine AAN _ (Je _ (Hq k1 xs[i]+1) AQ2 hfx.2.1.2 (by show Jy k1 xs[i]≤_; omega)) fun _=>?_
  have hg3:=Nb (x:=Jy k1 xs[i]) AQ2
  simp only[go_sem,q2,Jd,aB,ax,Ag,Int.reduceAdd,wz (n:=(i:Int)+1),Ik,Nl,Qn,hg1,hg2,hg3]
  refine AAN _ (Ux _ (Jy k1 xs[i]) AQ2 hfx.2.2.1 (by show Au k1 xs[i]≤_; omega)) fun _=>?_
  have hg4:=Nb (x:=Au k1 xs[i]) AQ2
  simp only[go_sem,q2,Jd,aB,ax,Ag,Int.reduceAdd,wz (n:=Au k1 xs[i]+1),wz (n:=Au k1 xs[i]+2),wz (n:=Au k1 xs[i]+3),wz (n:=Au k1 xs[i]+4),wz (n:=(i:Int)+1),Ik,Nl,Qn,WV,hg1,hg2,hg3,hg4]
  refine AAO ?_
  simp only[go_sem,q2,Jd,aB,ax,Ag,Int.reduceAdd,wz (n:=Au k1 xs[i]+1),wz (n:=Au k1 xs[i]+2),wz (n:=Au k1 xs[i]+3),wz (n:=Au k1 xs[i]+4),wz (n:=(i:Int)+1),Ik,Nl,Qn,WV,hg1,hg2,hg3,hg4]
  refine AAS _ (EQ (Au k1 xs[i]+4) AQ2 AQ2) ?_
  simp only[go_sem,q2,Jd,aB,ax,Ag,Int.reduceAdd,wz (n:=Au k1 xs[i]+5),wz (n:=Au k1 xs[i]+6),wz (n:=Au k1 xs[i]+7),wz (n:=Au k1 xs[i]+8),wz (n:=Au k1 xs[i]+9),wz (n:=Au k1 xs[i]+10),wz (n:=(i:Int)+1),Ik,Nl,Qn,WV,hg1,hg2,hg3,hg4]
  refine⟨(i+1,Au k1 xs[i]+10),⟨rfl,rfl⟩,rfl,hP.step hi P_, ?mu⟩
  case mu=>simp only; omega
 ·have:=hP.finL h
  subst this
  exact AIu
def VT (k:Int) (x:DConf):Int:=Eh NH (k) x.cols
theorem ACU (k:Int) (x:DConf):Eh NH (k) x.cols=VT k x:=rfl
def LW (k:Int) (x:DConf):Int:=VT k x
def gp (k:Int) (x:DConf):DConf:=⟨IV pX NH (k) x.cols,x.slots,x.bufs⟩
theorem gq (k:Int) (x:DConf):k≤VT k x:=Ed Jt _ _
theorem ADu (k:Int) (x:DConf):k≤LW k x:=by have:=gq k x; unfold LW; omega
theorem ADv (x:DConf) (k l:Int) (h0:0≤FT x l) (hl:l≤1048576):LW k x+64*FT x l≤k+64*l:=by
 have e0:=YA x l
 have h1:=h0
 rw[e0] at h1
 obtain⟨a0,b0,u0⟩:=Aa h1
 have w0:=(C9 a0 AQ2).2
 have:VT k x+64*(FY x.cols.length (l))≤k+64*(l):=PY PZ _ _ _ a0
 have G9:FT x l=FY x.cols.length (l):=(e0).trans (u0)
 rw[G9]; unfold LW; omega
theorem xG (x:DConf) (k:Int) (hk:0≤k) (hf:QZ x) (hb:LW k x≤4000000000000000000):MCtr prog 63 true x.o [.c (.v (.int .i64 k))] (fun cl' rs=>cl'=(gp k x).o∧rs = [.c (.v (.int .i64 (LW k x)))]):=by
 unfold LW at hb
 have hle:=gq k x
 refine ACf (fn:=f63) call63 func63 rfl mixed ntmps63 results63 (by kernel_rfl) rfl (.inl rfl) fun us hw0 hw=>?_
 simp only[go_sem]
 refine ABp (l:=0) (J9 x.cols (k) AQ2 hf (by show VT k x≤_; omega)) rfl ⟨rfl,rfl,rfl,rfl,AX _,AQ3,trivial⟩ ?_
 simp only[go_sem,ACU]
 exact⟨[.ref 0,.v (.int .i64 x.slots),.v (.int .i64 x.bufs)],(gp k x).o,[.c (.v (.int .i64 (LW k x)))],rfl,.inl rfl,⟨rfl,rfl,rfl,rfl,AX _,AQ3,rfl,rfl,rfl,rfl,trivial⟩,ADj _,rfl,rfl,rfl,rfl⟩
theorem lW (x:DConf) (k:Int) (hk:0≤k) (hf:QZ x) (hb:LW k x≤4000000000000000000):Ctr prog 71 [.agg (gp k x).c,.c (.v (.int .i64 k))] [.val (.c (.v (.int .i64 (LW k x))))]:=by
 unfold LW at hb ⊢
 have hle:=gq k x
 refine CM call71 func71 ntmps71 results71 fun hw=>?_
 simp only[go_sem,gp]
 refine AAN _ (Je x.cols (k) AQ2 hf (by show VT k x≤_; omega)) fun _=>?_
 have hg0:=Nb (x:=VT k x) AQ2
 simp only[go_sem,ACU,hg0]
def gu (k:Int) (x:DDir):Int:=Eh Jf (k) x.l
theorem AFW (k:Int) (x:DDir):Eh Jf (k) x.l=gu k x:=rfl
def QA (k:Int) (x:DDir):Int:=gu k x
def xH (k:Int) (x:DDir):DDir:=⟨x.ver,IV mkRef Jf (k) x.l⟩
theorem rE (k:Int) (x:DDir):k≤gu k x:=Ed P8 _ _
theorem AFX (k:Int) (x:DDir):k≤QA k x:=by have:=rE k x; unfold QA; omega
theorem AFY (x:DDir) (k l:Int) (h0:0≤Iz x l) (hl:l≤1048576):QA k x+64*Iz x l≤k+64*l:=by
 have e0:=fQ x l
 have h1:=h0
 rw[e0] at h1
 obtain⟨a0,b0,u0⟩:=Aa h1
 have w0:=(C9 a0 AQ2).2
 have:gu k x+64*(FY x.l.length (l))≤k+64*(l):=PY gV _ _ _ a0
 have G9:Iz x l=FY x.l.length (l):=(e0).trans (u0)
 rw[G9]; unfold QA; omega
theorem ABB (x:DDir) (k:Int) (hk:0≤k) (hf:VP x) (hb:QA k x≤4000000000000000000):MCtr prog 64 true x.o [.c (.v (.int .i64 k))] (fun cl' rs=>cl'=(xH k x).o∧rs = [.c (.v (.int .i64 (QA k x)))]):=by
 unfold QA at hb
 have hle:=rE k x
 refine ACf (fn:=f64) call64 func64 rfl mixed ntmps64 results64 (by kernel_rfl) rfl (.inl rfl) fun us hw0 hw=>?_
 simp only[go_sem]
 refine ABp (l:=0) (Y_ x.l (k) AQ2 hf (by show gu k x≤_; omega)) rfl ⟨rfl,rfl,rfl,rfl,E_ _,AQ3,trivial⟩ ?_
 simp only[go_sem,AFW]
 exact⟨[.v (.int .i64 x.ver),.ref 0],(xH k x).o,[.c (.v (.int .i64 (QA k x)))],rfl,.inl rfl,⟨rfl,rfl,rfl,rfl,rfl,rfl,E_ _,AQ3,trivial⟩,AFL _,rfl,rfl,rfl,rfl⟩
theorem rF (x:DDir) (k:Int) (hk:0≤k) (hf:VP x) (hb:QA k x≤4000000000000000000):Ctr prog 72 [.agg (xH k x).c,.c (.v (.int .i64 k))] [.val (.c (.v (.int .i64 (QA k x))))]:=by
 unfold QA at hb ⊢
 have hle:=rE k x
 refine CM call72 func72 ntmps72 results72 fun hw=>?_
 simp only[go_sem,xH]
 refine AAN _ (Uy x.l (k) AQ2 hf (by show gu k x≤_; omega)) fun _=>?_
 have hg0:=Nb (x:=gu k x) AQ2
 simp only[go_sem,AFW,hg0]
def H9 (k:Int) (x:DWorld):Int:=LW (k) x.c0
theorem FZ (k:Int) (x:DWorld):LW (k) x.c0=H9 k x:=rfl
def H_ (k:Int) (x:DWorld):Int:=QA (H9 k x) x.d
theorem Gj (k:Int) (x:DWorld):QA (H9 k x) x.d=H_ k x:=rfl
def IA (k:Int) (x:DWorld):Int:=Eh KO (H_ k x) x.b
theorem IZ (k:Int) (x:DWorld):Eh KO (H_ k x) x.b=IA k x:=rfl
def IB (k:Int) (x:DWorld):Int:=Eh NH (IA k x) x.m
theorem Jg (k:Int) (x:DWorld):Eh NH (IA k x) x.m=IB k x:=rfl
def IC (k:Int) (x:DWorld):Int:=Eh JV (IB k x) x.x
theorem MO (k:Int) (x:DWorld):Eh JV (IB k x) x.x=IC k x:=rfl
def IE (k:Int) (x:DWorld):Int:=Eh NH (IC k x) x.p
theorem QB (k:Int) (x:DWorld):Eh NH (IC k x) x.p=IE k x:=rfl
def IG (k:Int) (x:DWorld):Int:=Eh G5 (IE k x) x.tasks
theorem WW (k:Int) (x:DWorld):Eh G5 (IE k x) x.tasks=IG k x:=rfl
def Np (k:Int) (x:DWorld):Int:=Eh GY (IG k x) x.deeds
theorem xI (k:Int) (x:DWorld):Eh GY (IG k x) x.deeds=Np k x:=rfl
def DV (k:Int) (x:DWorld):Int:=Np k x
def PI (k:Int) (x:DWorld):DWorld:=⟨gp (k) x.c0,x.time,x.t,x.e,xH (H9 k x) x.d,IV SS KO (H_ k x) x.b,IV pX NH (IA k x) x.m,IV Qi JV (IB k x) x.x,IV pX NH (IC k x) x.p,IV LQ G5 (IE k x) x.tasks,IV LV GY (IG k x) x.deeds⟩
theorem YH (k:Int) (x:DWorld):k≤H9 k x∧H9 k x≤H_ k x∧H_ k x≤IA k x∧IA k x≤IB k x∧IB k x≤IC k x∧IC k x≤IE k x∧IE k x≤IG k x∧IG k x≤Np k x:=⟨ADu _ _,AFX _ _,Ed SV _ _,Ed Jt _ _,Ed P7 _ _,Ed Jt _ _,Ed P9 _ _,Ed P_ _ _⟩
theorem Qo (k:Int) (x:DWorld):k≤DV k x:=by have:=YH k x; unfold DV; omega
theorem gy (x:DWorld) (k l:Int) (h0:0≤ER x l) (hl:l≤1048576):DV k x+64*ER x l≤k+64*l:=by
 have e0:=QY x l
 have h1:=h0
 rw[e0] at h1
 obtain⟨a0,b0,u0⟩:=Aa h1
 have w0:=(VQ x.c0 _ a0 AQ2).2
 have:H9 k x+64*(FT x.c0 (l))≤k+64*(l):=ADv _ _ _ a0 AQ2
 obtain⟨a1,b1,u1⟩:=Aa b0
 have w1:=(YB x.d _ a1 AQ2).2
 have:H_ k x+64*(Iz x.d (FT x.c0 (l)))≤H9 k x+64*(FT x.c0 (l)):=AFY _ _ _ a1 AQ2
 obtain⟨a2,b2,u2⟩:=Aa b1
 have w2:=(Dk x.b (fun x _=>Pz x) a2 AQ2).2
 have:IA k x+64*(DD Iy x.b (Iz x.d (FT x.c0 (l))))≤H_ k x+64*(Iz x.d (FT x.c0 (l))):=Js _ (fun y _ k l a b=>⟨wM y k l a b,(Pz y l a b).2⟩) _ a2 AQ2
 obtain⟨a3,b3,u3⟩:=Aa b2
 have w3:=(C9 a3 AQ2).2
 have:IB k x+64*(FY x.m.length (DD Iy x.b (Iz x.d (FT x.c0 (l)))))≤IA k x+64*(DD Iy x.b (Iz x.d (FT x.c0 (l)))):=PY PZ _ _ _ a3
 obtain⟨a4,b4,u4⟩:=Aa b3
 have w4:=(C9 a4 AQ2).2
 have:IC k x+64*(FY x.x.length (FY x.m.length (DD Iy x.b (Iz x.d (FT x.c0 (l))))))≤IB k x+64*(FY x.m.length (DD Iy x.b (Iz x.d (FT x.c0 (l))))):=PY nO _ _ _ a4
 obtain⟨a5,b5,u5⟩:=Aa b4
 have w5:=(C9 a5 AQ2).2
 have:IE k x+64*(FY x.p.length (FY x.x.length (FY x.m.length (DD Iy x.b (Iz x.d (FT x.c0 (l)))))))≤IC k x+64*(FY x.x.length (FY x.m.length (DD Iy x.b (Iz x.d (FT x.c0 (l)))))):=PY PZ _ _ _ a5
 obtain⟨a6,b6,u6⟩:=Aa b5
 have w6:=(Dk x.tasks (fun x _=>OL x) a6 AQ2).2
 have:IG k x+64*(DD I4 x.tasks (FY x.p.length (FY x.x.length (FY x.m.length (DD Iy x.b (Iz x.d (FT x.c0 (l))))))))≤IE k x+64*(FY x.p.length (FY x.x.length (FY x.m.length (DD Iy x.b (Iz x.d (FT x.c0 (l))))))):=Js _ (fun y _ k l a b=>⟨UL y k l a b,(OL y l a b).2⟩) _ a6 AQ2
 obtain⟨a7,b7,u7⟩:=Aa b6
 have w7:=(Dk x.deeds (fun x _=>OM x) a7 AQ2).2
 have:Np k x+64*(DD Jv x.deeds (DD I4 x.tasks (FY x.p.length (FY x.x.length (FY x.m.length (DD Iy x.b (Iz x.d (FT x.c0 (l)))))))))≤IG k x+64*(DD I4 x.tasks (FY x.p.length (FY x.x.length (FY x.m.length (DD Iy x.b (Iz x.d (FT x.c0 (l)))))))):=Js _ (fun y _ k l a b=>⟨UN y k l a b,(OM y l a b).2⟩) _ a7 AQ2
 have G9:ER x l=DD Jv x.deeds (DD I4 x.tasks (FY x.p.length (FY x.x.length (FY x.m.length (DD Iy x.b (Iz x.d (FT x.c0 (l)))))))):=(e0).trans ((u0).trans ((u1).trans ((u2).trans ((u3).trans ((u4).trans ((u5).trans ((u6).trans (u7))))))))
 rw[G9]; unfold DV; omega
theorem Nq (x:DWorld) (k:Int) (hk:0≤k) (hf:AZ x) (hb:DV k x≤4000000000000000000):MCtr prog 16 true x.o [.c (.v (.int .i64 k))] (fun cl' rs=>cl'=(PI k x).o∧rs = [.c (.v (.int .i64 (DV k x)))]):=by
 unfold DV at hb
 have hle:=YH k x
 refine ACf (fn:=f16) call16 func16 rfl mixed ntmps16 results16 (by kernel_rfl) rfl (.inl rfl) fun us hw0 hw=>?_
 simp only[go_sem]
 refine ACg true (zs:=[.ref 0,.v (.int .i64 x.c0.slots),.v (.int .i64 x.c0.bufs)]) (cl:=[.ow 3 1 (x.c0.cols.map intC),.v (.int .i64 x.c0.slots),.v (.int .i64 x.c0.bufs)]) (by simpa only[go_sem] using xG x.c0 (k) AQ2 hf.1 (by show H9 k x≤_; omega)) rfl ⟨rfl,rfl,rfl,rfl,AX _,AQ3,rfl,rfl,rfl,rfl,trivial⟩ rfl (.inl rfl) fun cl' rs hM=>?_
 obtain⟨rfl,rfl⟩:=hM
 refine⟨⟨rfl,⟨rfl,rfl⟩,rfl,rfl,trivial⟩, ?_⟩
 simp only[go_sem,FZ]
 refine ACg true (zs:=[.v (.int .i64 x.d.ver),.ref 1]) (cl:=[.v (.int .i64 x.d.ver),.ow 204 5 (x.d.l.map DRef.c)]) (by simpa only[go_sem] using ABB x.d (H9 k x) AQ2 hf.2.1 (by show H_ k x≤_; omega)) rfl ⟨rfl,rfl,rfl,rfl,rfl,rfl,E_ _,AQ3,trivial⟩ rfl (.inl rfl) fun cl' rs hM=>?_
 obtain⟨rfl,rfl⟩:=hM
 refine⟨⟨rfl,rfl,⟨rfl,rfl⟩,trivial⟩, ?_⟩
 simp only[go_sem,FZ,Gj]
 refine ABp (l:=2) (wO x.b (H_ k x) AQ2 hf.2.2.1 (by show IA k x≤_; omega)) rfl ⟨rfl,rfl,rfl,rfl,D5 _,AQ3,trivial⟩ ?_
 simp only[go_sem,FZ,Gj,IZ]
 refine ABp (l:=3) (J9 x.m (IA k x) AQ2 hf.2.2.2.1 (by show IB k x≤_; omega)) rfl ⟨rfl,rfl,rfl,rfl,AX _,AQ3,trivial⟩ ?_
 simp only[go_sem,FZ,Gj,IZ,Jg]
 refine ABp (l:=4) (qW x.x (IB k x) AQ2 hf.2.2.2.2.1 (by show IC k x≤_; omega)) rfl ⟨rfl,rfl,rfl,rfl,Jo _,AQ3,trivial⟩ ?_
 simp only[go_sem,FZ,Gj,IZ,Jg,MO]
 refine ABp (l:=5) (J9 x.p (IC k x) AQ2 hf.2.2.2.2.2.1 (by show IE k x≤_; omega)) rfl ⟨rfl,rfl,rfl,rfl,AX _,AQ3,trivial⟩ ?_
 simp only[go_sem,FZ,Gj,IZ,Jg,MO,QB]
 refine ABp (l:=6) (qY x.tasks (IE k x) AQ2 hf.2.2.2.2.2.2.1 (by show IG k x≤_; omega)) rfl ⟨rfl,rfl,rfl,rfl,GU _,AQ3,trivial⟩ ?_
 simp only[go_sem,FZ,Gj,IZ,Jg,MO,QB,WW]
 refine ABp (l:=7) (rD x.deeds (IG k x) AQ2 hf.2.2.2.2.2.2.2 (by show Np k x≤_; omega)) rfl ⟨rfl,rfl,rfl,rfl,IJ _,AQ3,trivial⟩ ?_
 simp only[go_sem,FZ,Gj,IZ,Jg,MO,QB,WW,xI]
 exact⟨[.ref 0,.v (.int .i64 x.c0.slots),.v (.int .i64 x.c0.bufs),.v (.int .i64 x.time),.v (.int .i64 x.t),.v (.int .i64 x.e),.v (.int .i64 x.d.ver),.ref 1,.ref 2,.ref 3,.ref 4,.ref 5,.ref 6,.ref 7],(PI k x).o,[.c (.v (.int .i64 (DV k x)))],rfl,.inl rfl,⟨rfl,rfl,rfl,rfl,AX _,AQ3,rfl,rfl,rfl,rfl,rfl,rfl,rfl,rfl,rfl,rfl,rfl,rfl,rfl,rfl,rfl,rfl,E_ _,AQ3,rfl,rfl,rfl,rfl,D5 _,AQ3,rfl,rfl,rfl,rfl,AX _,AQ3,rfl,rfl,rfl,rfl,Jo _,AQ3,rfl,rfl,rfl,rfl,AX _,AQ3,rfl,rfl,rfl,rfl,GU _,AQ3,rfl,rfl,rfl,rfl,IJ _,AQ3,trivial⟩,OV _,rfl,rfl,rfl,rfl⟩
theorem KR (x:DWorld) (k:Int) (hk:0≤k) (hf:AZ x) (hb:DV k x≤4000000000000000000):Ctr prog 18 [.agg (PI k x).c,.c (.v (.int .i64 k))] [.val (.c (.v (.int .i64 (DV k x))))]:=by
 unfold DV at hb ⊢
 have hle:=YH k x
 refine CM call18 func18 ntmps18 results18 fun hw=>?_
 simp only[go_sem,PI]
 refine AAN _ (by simpa only[go_sem] using lW x.c0 (k) AQ2 hf.1 (by show H9 k x≤_; omega)) fun _=>?_
 have hg0:=Nb (x:=H9 k x) AQ2
 simp only[go_sem,FZ,hg0]
 refine AAN _ (by simpa only[go_sem] using rF x.d (H9 k x) AQ2 hf.2.1 (by show H_ k x≤_; omega)) fun _=>?_
 have hg1:=Nb (x:=H_ k x) AQ2
 simp only[go_sem,FZ,Gj,hg0,hg1]
 refine AAN _ (lT x.b (H_ k x) AQ2 hf.2.2.1 (by show IA k x≤_; omega)) fun _=>?_
 have hg2:=Nb (x:=IA k x) AQ2
 simp only[go_sem,FZ,Gj,IZ,hg0,hg1,hg2]
 refine AAN _ (Je x.m (IA k x) AQ2 hf.2.2.2.1 (by show IB k x≤_; omega)) fun _=>?_
 have hg3:=Nb (x:=IB k x) AQ2
 simp only[go_sem,FZ,Gj,IZ,Jg,hg0,hg1,hg2,hg3]
 refine AAN _ (gU x.x (IB k x) AQ2 hf.2.2.2.2.1 (by show IC k x≤_; omega)) fun _=>?_
 have hg4:=Nb (x:=IC k x) AQ2
 simp only[go_sem,FZ,Gj,IZ,Jg,MO,hg0,hg1,hg2,hg3,hg4]
 refine AAN _ (Je x.p (IC k x) AQ2 hf.2.2.2.2.2.1 (by show IE k x≤_; omega)) fun _=>?_
 have hg5:=Nb (x:=IE k x) AQ2
 simp only[go_sem,FZ,Gj,IZ,Jg,MO,QB,hg0,hg1,hg2,hg3,hg4,hg5]
 refine AAN _ (gW x.tasks (IE k x) AQ2 hf.2.2.2.2.2.2.1 (by show IG k x≤_; omega)) fun _=>?_
 have hg6:=Nb (x:=IG k x) AQ2
 simp only[go_sem,FZ,Gj,IZ,Jg,MO,QB,WW,hg0,hg1,hg2,hg3,hg4,hg5,hg6]
 refine AAN _ (gm x.deeds (IG k x) AQ2 hf.2.2.2.2.2.2.2 (by show Np k x≤_; omega)) fun _=>?_
 have hg7:=Nb (x:=Np k x) AQ2
 simp only[go_sem,FZ,Gj,IZ,Jg,MO,QB,WW,xI,hg0,hg1,hg2,hg3,hg4,hg5,hg6,hg7]
def Ad (x a b:Int):Bool:=decide (a≤x)&&decide (x≤b)
theorem AQ (x a b:Int):Ctr prog 94 [.c (.v (.int .i64 x)),.c (.v (.int .i64 a)),.c (.v (.int .i64 b))] [.val (.c (.v (.bool (Ad x a b))))]:=by
 refine CM call94 func94 ntmps94 results94 fun _=>?_
 exact APc
theorem AL (x a b:Int):Ctr prog 96 [.c (.v (.int .i64 x)),.c (.v (.int .i64 a)),.c (.v (.int .i64 b))] [.val (.c (.v (.bool (Ad x a b))))]:=by
 refine CM call96 func96 ntmps96 results96 fun _=>?_
 exact APc
def EN (n:Int):Bool:=Ad n (-1000000000) 1000000000
theorem KT (x:Int):Ctr prog 316 [.c (.v (.int .i64 x))] [.val (.c (.v (.bool (EN x))))]:=by
 refine CM call316 func316 ntmps316 results316 fun _=>?_
 simp only[go_sem]
 refine AAN _ (AQ _ _ _) fun _=>?_
 simp only[go_sem,EN]
theorem OX (x:Int):Ctr prog 326 [.c (.v (.int .i64 x))] [.val (.c (.v (.bool (EN x))))]:=by
 refine CM call326 func326 ntmps326 results326 fun _=>?_
 simp only[go_sem]
 refine AAN _ (AL _ _ _) fun _=>?_
 simp only[go_sem,EN]
def Z7 (c:UInt8):Bool:=Ad c.toNat 97 122||Ad c.toNat 48 57
def WX (s:ByteArray):Bool:=decide (∀ i (h:i<s.size),Z7 s[i]=true)
def BO (d:DVal):Bool:=if d.ty=1 then EN d.n&&(d.s.toList==({ data:=#[] }:ByteArray).toList) else(d.ty==2)&&(d.n==0)&&decide (d.s.size≤6)&&WX d.s
theorem I8 (d:DVal):Ctr prog 231 [.agg d.c] [.val (.c (.v (.bool (BO d))))]:=by
 refine CM call231 func231 ntmps231 results231 fun hw=>?_
 have hs:d.s.size≤9223372036854775807:=ABm hw.1.2.2.1
 refine AQx (fun h=>?_) fun h=>?_
 ·have h1:d.ty=1:=by simpa using h
  simp only[go_sem]
  refine AAN _ (KT _) fun _=>?_
  exact AP1
 ·have h1:¬ d.ty=1:=by simpa using h
  simp only[go_sem]
  refine AAa 1 [1,3] (A:=Nat) (fun k=>⟨56,[(1,.lp 0 0 0),(3,.c (.v (.int .i64 k)))],[⟨66,3,[d.c],true,true⟩]⟩) (fun k=>k≤d.s.size∧k≤7∧∀ i (h:i<d.s.size),i<k→Z7 d.s[i]=true) (fun k=>d.s.size-k) 0 ⟨⟨rfl,rfl⟩,rfl,au _,AQ2,fun i _ hi=>AQ2⟩ ?_
  rintro k ⟨hk,hk7,hok⟩
  simp only[go_sem]
  have hW (c:UInt8):IntKind.i64.wrap (c.toNat:Int)=c.toNat:=wrap_i64 AQ2 (by have:=c.toNat_lt; omega)
  have hfin:k=d.s.size∨(¬ k≤6)→((d.ty==2)&&(d.n==0)&&decide ((d.s.size:Int)≤6))=BO d:=by
   intro hor
   simp only[BO,bu h1]
   by_cases h6:d.s.size≤6
   ·have ht:WX d.s=true:=by
     simp only[WX,bC]
     intro i hi
     exact hok i hi AQ2
    grind
   ·grind
  refine AEH (fun h=>?_) (fun h=>?_)
  ·have hk':k<d.s.size:=by simpa using h
   have hb:d.s[k]?=some d.s[k]:=getElem?_pos d.s k hk'
   simp only[go_sem,h,hk']
   refine AAP (fun h6=>?_) (fun h6=>?_)
   ·have h6':k≤6:=by simp at h6; omega
    have hbad:Z7 d.s[k]=false→false=BO d:=by
     intro hc
     have ht:WX d.s=false:=by
      simp only[WX,aaD]
      intro hall
      rw[hall k hk'] at hc
      cases hc
     simp[BO,bu h1,ht]
    simp only[go_sem,hb,hW]
    refine AAN _ (AQ _ _ _) fun _=>?_
    simp only[go_sem]
    refine AEH (fun ha=>?_) (fun ha=>?_)
    ·simp only[go_sem,hb,hW,ha]
     refine AAN _ (AQ _ _ _) fun _=>?_
     simp only[go_sem,hb,hW,ha]
     refine AAP (fun hc=>?_) (fun hc=>?_)
     ·simp only[go_sem]
      rw[hbad (by simp[Z7]; grind)]
     ·simp only[go_sem,wrap_i64 (n:=(k:Int)+1) AQ2 AQ2]
      exact APK
    ·simp only[go_sem,hb,hW,ha,wrap_i64 (n:=(k:Int)+1) AQ2 AQ2]
     exact APK
   ·have hfin':=hfin (.inr AQ6)
    simp only[go_sem]
    exact AOW
  ·have hk':k=d.s.size:=by simp at h; omega
   have hfin':=hfin (.inl hk')
   simp only[go_sem,h]
   exact AOW
theorem AFZ (d:DVal) {k:Nat} (hk:k<d.s.size) (hc:Z7 d.s[k]=false) (h1:¬ d.ty=1):false=BO d:=by
 have ht:WX d.s=false:=by
  simp only[WX,aaD]
  intro hall
  rw[hall k hk] at hc
  cases hc
 simp[BO,bu h1,ht]
theorem Dv (d:DVal):Ctr prog 259 [.agg d.c] [.val (.c (.v (.bool (BO d))))]:=by
 refine CM call259 func259 ntmps259 results259 fun hw=>?_
 have hs:d.s.size≤9223372036854775807:=ABm hw.1.2.2.1
 refine AQx (fun h=>?_) fun h=>?_
 ·have h1:d.ty=1:=by simpa using h
  simp only[go_sem]
  refine AAN _ (OX _) fun _=>?_
  exact AP1
 ·have h1:¬ d.ty=1:=by simpa using h
  simp only[go_sem]
  refine AAP (fun h2=>?_) (fun h2=>?_)
  ·have h2':d.ty=2:=by simpa using h2
   simp only[go_sem]
   refine AAa 1 [1,3] (A:=Nat) (fun k=>⟨66,[(1,.lp 0 0 0),(3,.c (.v (.int .i64 k)))],[⟨66,3,[d.c],true,true⟩]⟩) (fun k=>k≤d.s.size∧∀ i (h:i<d.s.size),i<k→Z7 d.s[i]=true) (fun k=>d.s.size-k) 0 ⟨⟨rfl,rfl⟩,rfl,au _,fun i _ hi=>AQ2⟩ ?_
   rintro k ⟨hk,hok⟩
   refine AQx (fun h=>?_) fun h=>?_
   ·have hk':k<d.s.size:=by simpa using h
    have hb:d.s[k]?=some d.s[k]:=getElem?_pos d.s k hk'
    have hgood:Z7 d.s[k]=true→∀ i (h:i<d.s.size),i<k+1→Z7 d.s[i]=true:=by
     intro hg i hi hik
     by_cases e:i=k
     ·grind
     ·grind
    rcases hA:decide ((d.s[k].toNat:Int)≥97) with _ | _<;>rcases hB:decide ((d.s[k].toNat:Int)≤122) with _ | _<;>rcases hC:decide ((d.s[k].toNat:Int)≥48) with _ | _<;>rcases hD:decide ((d.s[k].toNat:Int)≤57) with _ | _ <;>
     simp only[go_sem,hb,hA,hB,hC,hD,wrap_i64 (n:=(k:Int)+1) AQ2 AQ2]<;>simp at hA hB hC hD<;>first
     | (rw[AFZ d hk' (by simp[Z7,Ad]; omega) h1]; done)
     | exact⟨k+1,⟨rfl,rfl⟩,rfl,⟨AQ2,hgood (by simp[Z7,Ad]; omega)⟩,AQ2⟩
   ·have hk':k=d.s.size:=by simp at h; omega
    have ht:WX d.s=true:=by
     simp only[WX,bC]
     intro i hi
     exact hok i hi AQ2
    simp only[go_sem]
    refine AEH (fun e1=>?_) (fun e1=>?_)<;>simp only[go_sem,e1]<;>simp[BO,bu h1,ht]<;>simp at e1<;>simp[h2']<;>omega
  ·have h2':¬ d.ty=2:=by simpa using h2
   simp only[go_sem]
   simp[BO,bu h1,h2']
def fits:List Int→List DVal→Bool
 | [],[]=>true
 | c::cs,v::vs=>BO v&&(v.ty==c)&&fits cs vs
 | _,_=>false
theorem gz:∀ (cs:List Int) (vs:List DVal),cs.length≠vs.length→fits cs vs=false
 | [],[],h=>ARa
 | [],_::_,_=>rfl
 | _::_,[],_=>rfl
 | c::cs,v::vs,h=>by simp only[fits]; rw[gz cs vs ARY]; simp
theorem nP (cs:List Int) (vs:List DVal) {k:Nat} (h1:k<cs.length) (h2:k<vs.length):fits (cs.drop k) (vs.drop k)=(BO vs[k]&&(vs[k].ty==cs[k])&&fits (cs.drop (k+1)) (vs.drop (k+1))):=by
 rw[aA h1,aA h2]; rfl
theorem Jz (cs:List Int) (vs:List DVal):Ctr prog 117 [.c (.sl (cs.map intC)),.c (.sl (vs.map DVal.c))] [.val (.c (.v (.bool (fits cs vs))))]:=by
 refine CM call117 func117 ntmps117 results117 fun hw=>?_
 have hlen:vs.length≤9223372036854775807:=by have:=hw.2.1.1; simpa [Go.maxLen] using this
 refine AQy (fun h=>?_) fun h=>?_
 ·simp only[go_sem]
  grind [gz]
 ·have he:cs.length=vs.length:=by simp at h; omega
  simp only[go_sem]
  refine AAa 0 [0,1,5] (A:=Nat) (fun k=>⟨35,[(0,.c (.sl (cs.map intC))),(1,.c (.sl (vs.map DVal.c))),(5,.c (.v (.int .i64 k)))],[]⟩) (fun k=>k≤vs.length∧fits (cs.drop k) (vs.drop k)=fits cs vs) (fun k=>vs.length-k) 0 ⟨⟨rfl,rfl⟩,rfl,au _,rfl⟩ ?_
  rintro k ⟨hk,hf⟩
  refine AQy (fun h=>?_) fun h=>?_
  ·have hk':k<vs.length:=by simpa using h
   have hk2:k<cs.length:=AQ2
   rw[nP cs vs hk2 hk'] at hf
   simp only[go_sem]
   refine AAO ?_
   simp only[go_sem,ae,AA _ hk',AA _ hk2,hk',hk2]
   refine CY (I8 vs[k]) ?_
   rcases hv:BO vs[k] with _ | _
   ·simp only[go_sem,hv]
    grind
   ·simp only[go_sem,hv,AA _ hk',AA _ hk2]
    rcases ht:vs[k].ty==cs[k] with _ | _
    ·simp only[go_sem,bne,ht]
     grind
    ·simp only[go_sem,bne,ht,wrap_i64 (n:=(k:Int)+1) AQ2 AQ2]
     rw[hv,ht] at hf
     simp only[aF,ah] at hf
     exact AKB
  ·exact APq
theorem G6 (cs:List Int) (vs:List DVal):Ctr prog 141 [.c (.sl (cs.map intC)),.c (.sl (vs.map DVal.c))] [.val (.c (.v (.bool (fits cs vs))))]:=by
 refine CM call141 func141 ntmps141 results141 fun hw=>?_
 have hlen:vs.length≤9223372036854775807:=by have:=hw.2.1.1; simpa [Go.maxLen] using this
 refine AQy (fun h=>?_) fun h=>?_
 ·simp only[go_sem]
  grind [gz]
 ·have he:cs.length=vs.length:=by simp at h; omega
  simp only[go_sem,ae]
  refine AAa 0 [0,12,13,14] (A:=Nat) (fun k=>⟨32,[(0,.c (.sl (cs.map intC))),(12,.c (.sl (vs.map DVal.c))),(13,.c (.v (.int .i64 vs.length))),(14,.c (.v (.int .i64 k)))],[]⟩) (fun k=>k≤vs.length∧fits (cs.drop k) (vs.drop k)=fits cs vs) (fun k=>vs.length-k) 0 ⟨⟨rfl,rfl⟩,rfl,au _,rfl⟩ ?_
  rintro k ⟨hk,hf⟩
  refine AQy (fun h=>?_) fun h=>?_
  ·have hk':k<vs.length:=by simpa using h
   have hk2:k<cs.length:=AQ2
   rw[nP cs vs hk2 hk'] at hf
   simp only[go_sem,AA _ hk']
   refine AAO ?_
   simp only[go_sem,ae,AA _ hk',AA _ hk2,hk',hk2]
   refine CY (Dv vs[k]) ?_
   rcases hv:BO vs[k] with _ | _
   ·simp only[go_sem,hv]
    grind
   ·simp only[go_sem,hv,AA _ hk',AA _ hk2]
    rcases ht:vs[k].ty==cs[k] with _ | _
    ·simp only[go_sem,bne,ht]
     grind
    ·simp only[go_sem,bne,ht,wrap_i64 (n:=(k:Int)+1) AQ2 AQ2]
     rw[hv,ht] at hf
     simp only[aF,ah] at hf
     exact AKB
  ·exact APq
def rowOk (cs:List Int) (r:DRow):Bool:=decide (r.id≥0)&&fits cs r.l
theorem ZH (cs:List Int) (r:DRow):Ctr prog 364 [.c (.sl (cs.map intC)),.agg r.c] [.val (.c (.v (.bool (rowOk cs r))))]:=by
 refine CM call364 func364 ntmps364 results364 fun hw=>?_
 simp only[go_sem]
 rcases hi:decide (r.id≥0) with _ | _
 ·simp only[go_sem,hi]; simp only[rowOk,hi,ag]
 ·simp only[go_sem,hi]
  refine AAN _ (Jz cs r.l) fun _=>?_
  simp only[go_sem,hi]; simp only[rowOk,hi,ah]
theorem ZI (cs:List Int) (r:DRow):Ctr prog 369 [.c (.sl (cs.map intC)),.agg r.c] [.val (.c (.v (.bool (rowOk cs r))))]:=by
 refine CM call369 func369 ntmps369 results369 fun hw=>?_
 simp only[go_sem]
 rcases hi:decide (r.id≥0) with _ | _
 ·simp only[go_sem,hi]; simp only[rowOk,hi,ag]
 ·simp only[go_sem,hi]
  refine AAN _ (G6 cs r.l) fun _=>?_
  simp only[go_sem,hi]; simp only[rowOk,hi,ah]
def SX (cs:List Int):Bool:=cs.all fun c=>Ad c 1 2
def E8 (cs:List Int):Bool:=SX cs&&Ad cs.length 1 3
theorem g_ (cs:List Int) {k:Nat} (h:k<cs.length):SX (cs.drop k)=(Ad cs[k] 1 2&&SX (cs.drop (k+1))):=by
 rw[aA h]; rfl
theorem OY (cs:List Int):Ctr prog 216 [.c (.sl (cs.map intC))] [.val (.c (.v (.bool (E8 cs))))]:=by
 refine CM call216 func216 ntmps216 results216 fun hw=>?_
 have hlen:cs.length≤9223372036854775807:=ARP
 simp only[go_sem,ae]
 refine AAa 0 [0,3] (A:=Nat) (fun k=>⟨19,[(0,.c (.sl (cs.map intC))),(3,.c (.v (.int .i64 k)))],[]⟩) (fun k=>k≤cs.length∧SX (cs.drop k)=SX cs) (fun k=>cs.length-k) 0 ⟨⟨rfl,rfl⟩,rfl,au _,rfl⟩ ?_
 rintro k ⟨hk,hf⟩
 refine AQy (fun h=>?_) fun h=>?_
 ·have hk':k<cs.length:=by simpa using h
  rw[g_ cs hk'] at hf
  simp only[go_sem,AA _ hk']
  refine AAN _ (AQ _ _ _) fun _=>?_
  simp only[go_sem]
  rcases hi:Ad cs[k] 1 2 with _ | _
  ·simp only[go_sem,hi]
   rw[hi,ag] at hf
   simp only[E8,← hf,ag]
  ·simp only[go_sem,hi,wrap_i64 (n:=(k:Int)+1) AQ2 AQ2]
   rw[hi,ah] at hf
   exact AKB
 ·have hk':k=cs.length:=by simp at h; omega
  subst hk'
  simp only[go_sem,ae]
  refine AAN _ (AQ _ _ _) fun _=>?_
  simp only[go_sem]
  rw[aJ] at hf
  simp only[E8,← hf]; simp[SX]
theorem OZ (cs:List Int):Ctr prog 237 [.c (.sl (cs.map intC))] [.val (.c (.v (.bool (E8 cs))))]:=by
 refine CM call237 func237 ntmps237 results237 fun hw=>?_
 have hlen:cs.length≤9223372036854775807:=ARP
 simp only[go_sem,ae]
 refine AAa 0 [0,5,6,7] (A:=Nat) (fun k=>⟨21,[(0,.c (.sl (cs.map intC))),(5,.c (.sl (cs.map intC))),(6,.c (.v (.int .i64 cs.length))),(7,.c (.v (.int .i64 k)))],[]⟩) (fun k=>k≤cs.length∧SX (cs.drop k)=SX cs) (fun k=>cs.length-k) 0 ⟨⟨rfl,rfl⟩,rfl,au _,rfl⟩ ?_
 rintro k ⟨hk,hf⟩
 refine AQy (fun h=>?_) fun h=>?_
 ·have hk':k<cs.length:=by simpa using h
  rw[g_ cs hk'] at hf
  simp only[go_sem,AA _ hk']
  have hgood:Ad cs[k] 1 2=true→SX (cs.drop (k+1))=SX cs:=by intro hi; rw[hi,ah] at hf; exact hf
  rcases h1:cs[k] != 1 with _ | _
  ·simp only[go_sem,h1,wrap_i64 (n:=(k:Int)+1) AQ2 AQ2]
   exact⟨k+1,⟨rfl,rfl⟩,rfl,⟨AQ2,hgood (by simp[Ad]; grind)⟩,AQ2⟩
  ·rcases h2:cs[k] != 2 with _ | _
   ·simp only[go_sem,h1,h2,wrap_i64 (n:=(k:Int)+1) AQ2 AQ2]
    exact⟨k+1,⟨rfl,rfl⟩,rfl,⟨AQ2,hgood (by simp[Ad]; grind)⟩,AQ2⟩
   ·simp only[go_sem,h1,h2]
    have hi:Ad cs[k] 1 2=false:=by simp[Ad]; simp at h1 h2; omega
    rw[hi,ag] at hf
    simp only[E8,← hf,ag]
 ·have hk':k=cs.length:=by simp at h; omega
  subst hk'
  simp only[go_sem,ae]
  refine AAN _ (AL _ _ _) fun _=>?_
  simp only[go_sem]
  rw[aJ] at hf
  simp only[E8,← hf]; simp[SX]
def rowAt (cs:List Int) (l:List DRow) (i:Nat):Prop:=∀ h:i<l.length,rowOk cs l[i]=true∧(0<i→l[i-1].id<l[i].id)
noncomputable def SY (cs:List Int) (l:List DRow):Bool:=@decide (∀ i,rowAt cs l i) (Classical.propDecidable _)
noncomputable def GR (t:DTable):Bool:=E8 t.cols&&SY t.cols t.l
theorem QC {cs:List Int} {l:List DRow} {i:Nat} (h:¬ rowAt cs l i):SY cs l=false:=by
 simp only[SY,aaD]
 grind
theorem VU {cs:List Int} {l:List DRow} (h:∀ i,i<l.length→rowAt cs l i):SY cs l=true:=by
 simp only[SY,bC]
 intro i hi
 exact h i hi hi
theorem xJ (t:DTable):Ctr prog 332 [.agg t.c] [.val (.c (.v (.bool (GR t))))]:=by
 refine CM call332 func332 ntmps332 results332 fun hw=>?_
 have hlen:t.l.length≤9223372036854775807:=by have:=hw.1.2.1.1; simpa [Go.maxLen] using this
 simp only[go_sem,ae]
 refine AAa 1 [1,3] (A:=Nat) (fun k=>⟨43,[(1,.lp 0 0 0),(3,.c (.v (.int .i64 k)))],[⟨124,2,[t.c],true,true⟩]⟩) (fun k=>k≤t.l.length∧∀ i,i<k→rowAt t.cols t.l i) (fun k=>t.l.length-k) 0 ⟨⟨rfl,rfl⟩,rfl,au _,fun i h=>AQ2⟩ ?_
 rintro k ⟨hk,hf⟩
 refine AQy (fun h=>?_) fun h=>?_
 ·have hk':k<t.l.length:=by simpa using h
  have hnext:rowAt t.cols t.l k→∀ i,i<k+1→rowAt t.cols t.l i:=by
   intro hg i hi
   by_cases e:i=k
   ·grind
   ·grind
  simp only[go_sem]
  refine AAO ?_
  simp only[go_sem,ae,AA _ hk',hk']
  refine CY (ZH t.cols t.l[k]) ?_
  exact AHD
 ·have hk':k=t.l.length:=by simp at h; omega
  simp only[go_sem]
  refine AAN _ (OY _) fun _=>?_
  simp only[go_sem]
  simp only[GR,VU (hk'▸hf),aF]
theorem xK (t:DTable):Ctr prog 336 [.agg t.c] [.val (.c (.v (.bool (GR t))))]:=by
 refine CM call336 func336 ntmps336 results336 fun hw=>?_
 have hlen:t.l.length≤9223372036854775807:=by have:=hw.1.2.1.1; simpa [Go.maxLen] using this
 simp only[go_sem,ae]
 refine AAN _ (OZ _) fun _=>?_
 rcases hc:E8 t.cols with _ | _
 ·simp only[go_sem,hc]
  simp only[GR,hc,ag]
 simp only[go_sem,hc,ae]
 refine AAa 1 [1,10,11,12] (A:=Nat) (fun k=>⟨39,[(1,.lp 0 0 0),(10,.c (.sl (t.l.map DRow.c))),(11,.c (.v (.int .i64 t.l.length))),(12,.c (.v (.int .i64 k)))],[⟨124,2,[t.c],true,true⟩]⟩) (fun k=>k≤t.l.length∧∀ i,i<k→rowAt t.cols t.l i) (fun k=>t.l.length-k) 0 ⟨⟨rfl,rfl⟩,rfl,au _,fun i h=>AQ2⟩ ?_
 rintro k ⟨hk,hf⟩
 refine AQy (fun h=>?_) fun h=>?_
 ·have hk':k<t.l.length:=by simpa using h
  have hnext:rowAt t.cols t.l k→∀ i,i<k+1→rowAt t.cols t.l i:=by
   intro hg i hi
   by_cases e:i=k
   ·grind
   ·grind
  simp only[go_sem,AA _ hk']
  refine AAO ?_
  simp only[go_sem,ae,AA _ hk',hk']
  refine CY (ZI t.cols t.l[k]) ?_
  exact AHD
 ·have hk':k=t.l.length:=by simp at h; omega
  simp only[go_sem]
  simp only[GR,VU (hk'▸hf),hc,aF]
end Go.Proofs.YthmifbbmgnhddaaGreat
