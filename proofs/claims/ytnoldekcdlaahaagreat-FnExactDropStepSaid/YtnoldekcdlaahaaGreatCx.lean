/- A part. -/
import Derived.Test.YtnoldekcdlaahaaGreatVe
import Derived.Test.YtnoldekcdlaahaaGreatVa
set_option linter.unusedSimpArgs false
set_option linter.unusedVariables false
set_option maxHeartbeats 4000000
set_option maxRecDepth 10000
open Go.Proofs.Tryz
namespace Go.Proofs.YtnoldekcdlaahaaGreat
open Go.Vm
def Ak (k:Int) (x:DTask):Int:=ER Et (k+3) x.r
theorem Iq (k:Int) (x:DTask):ER Et (k+3) x.r=Ak k x:=rfl
def Gf (k:Int) (x:DTask):Int:=ER BU (Ak k x+8) x.q.p.l
theorem N9 (k:Int) (x:DTask):ER BU (Ak k x+8) x.q.p.l=Gf k x:=rfl
def EM (k:Int) (x:DTask):Int:=ER Lu (Gf k x+1) x.q.out
theorem SN (k:Int) (x:DTask):ER Lu (Gf k x+1) x.q.out=EM k x:=rfl
def BC (k:Int) (x:DTask):Int:=ER JH (EM k x+2) x.l
theorem Y7 (k:Int) (x:DTask):ER JH (EM k x+2) x.l=BC k x:=rfl
def Og (k:Int) (x:DTask):Int:=ER Gy (BC k x+6) x.got
theorem AAU (k:Int) (x:DTask):ER Gy (BC k x+6) x.got=Og k x:=rfl
def EN (k:Int) (x:DTask):Int:=Og k x
def KN (k:Int) (x:DTask):DTask:=⟨k,k+1,k+2,H7 Je Et (k+3) x.r,Ak k x,⟨Ak k x+1,DPred.mk (Ak k x+2) (Ak k x+3) (Ak k x+4) (⟨Ak k x+5,Ak k x+6,IC (Ak k x+7)⟩) (H7 EW BU (Ak k x+8) x.q.p.l),Gf k x,H7 qo Lu (Gf k x+1) x.q.out⟩,EM k x,EM k x+1,H7 mkRef JH (EM k x+2) x.l,BC k x,BC k x+1,BC k x+2,BC k x+3,BC k x+4,IntKind.i64.wrap ((BC k x+5).tmod 3)==0,H7 mkRow Gy (BC k x+6) x.got⟩
theorem SQ (k:Int) (x:DTask):EN k x=Og k x:=rfl
theorem ADF (k:Int) (x:DTask):(KN k x).c = [.v (.int .i64 (k)),.v (.int .i64 (k+1)),.v (.int .i64 (k+2)),.sl ((H7 Je Et (k+3) x.r).map DVal.c),.v (.int .i64 (Ak k x)),.v (.int .i64 (Ak k x+1)),.v (.int .i64 (Ak k x+2)),.v (.int .i64 (Ak k x+3)),.v (.int .i64 (Ak k x+4)),.v (.int .i64 (Ak k x+5)),.v (.int .i64 (Ak k x+6)),.v (.string (IC (Ak k x+7))),.sl ((H7 EW BU (Ak k x+8) x.q.p.l).map DPred.c),.v (.int .i64 (Gf k x)),.sl ((H7 qo Lu (Gf k x+1) x.q.out).map intC),.v (.int .i64 (EM k x)),.v (.int .i64 (EM k x+1)),.sl ((H7 mkRef JH (EM k x+2) x.l).map DRef.c),.v (.int .i64 (BC k x)),.v (.int .i64 (BC k x+1)),.v (.int .i64 (BC k x+2)),.v (.int .i64 (BC k x+3)),.v (.int .i64 (BC k x+4)),.v (.bool (IntKind.i64.wrap ((BC k x+5).tmod 3)==0)),.sl ((H7 mkRow Gy (BC k x+6) x.got).map DRow.c)]:=by rw[DTask.c_eq]; simp only[KN,DPred.o_eq,DPred.c_eq,DQuery.o_eq,DQuery.c_eq,DVal.c_eq,DPred.kind,DPred.col,DPred.op,DPred.v,DPred.l,aU,aN]
theorem ADG (k:Int) (x:DTask):(KN k x).o = [.v (.int .i64 (k)),.v (.int .i64 (k+1)),.v (.int .i64 (k+2)),.ow 64 3 ((H7 Je Et (k+3) x.r).map DVal.c),.v (.int .i64 (Ak k x)),.v (.int .i64 (Ak k x+1)),.v (.int .i64 (Ak k x+2)),.v (.int .i64 (Ak k x+3)),.v (.int .i64 (Ak k x+4)),.v (.int .i64 (Ak k x+5)),.v (.int .i64 (Ak k x+6)),.v (.string (IC (Ak k x+7))),.ow 67 7 ((H7 EW BU (Ak k x+8) x.q.p.l).map DPred.o),.v (.int .i64 (Gf k x)),.ow 3 1 ((H7 qo Lu (Gf k x+1) x.q.out).map intC),.v (.int .i64 (EM k x)),.v (.int .i64 (EM k x+1)),.ow 133 5 ((H7 mkRef JH (EM k x+2) x.l).map DRef.c),.v (.int .i64 (BC k x)),.v (.int .i64 (BC k x+1)),.v (.int .i64 (BC k x+2)),.v (.int .i64 (BC k x+3)),.v (.int .i64 (BC k x+4)),.v (.bool (IntKind.i64.wrap ((BC k x+5).tmod 3)==0)),.ow 204 2 ((H7 mkRow Gy (BC k x+6) x.got).map DRow.o)]:=by rw[DTask.o_eq]; simp only[KN,DPred.o_eq,DPred.c_eq,DQuery.o_eq,DQuery.c_eq,DVal.c_eq,DPred.kind,DPred.col,DPred.op,DPred.v,DPred.l,aU,aN]
theorem Y8 (k:Int) (x:DTask):k+3≤Ak k x∧Ak k x+8≤Gf k x∧Gf k x+1≤EM k x∧EM k x+2≤BC k x∧BC k x+6≤Og k x:=⟨Es LZ _ _,Es KY _ _,Es Jk _ _,Es NW _ _,Es O_ _ _⟩
theorem O4 (k:Int) (x:DTask):k≤EN k x:=by have:=Y8 k x; unfold EN; omega
theorem Wj (x:DTask) (k l:Int) (h0:0≤I5 x l) (hl:l≤1048576):EN k x+64*I5 x l≤k+64*l+64:=by
 have d1:=h0
 rw[Si] at d1
 obtain⟨a1_0,b1_0,e1_0⟩:=AZ d1
 have w1_0:=(Du x.r (fun x _=>Dx x) a1_0 AOh).2
 obtain⟨a1_1,b1_1,e1_1⟩:=AZ b1_0
 have w1_1:=(OA x.q _ a1_1 AOh).2
 have d2:=a1_1
 rw[KQ] at d2
 obtain⟨a2_0,b2_0,e2_0⟩:=AZ d2
 have w2_0:=(Hf x.q.p _ a2_0 AOh).2
 have d3:=a2_0
 rw[JZ] at d3
 obtain⟨a3_0,b3_0,e3_0⟩:=AZ d3
 have w3_0:=(Dx x.q.p.v _ a3_0 AOh).2
 have d4:=a3_0
 rw[H5] at d4
 obtain⟨a4_0,b4_0,e4_0⟩:=AZ d4
 have w4_0:=(CG a4_0 AOh).2
 have eq4:A7 x.q.p.v (DW A7 x.r l)=(Fv x.q.p.v.s.size (DW A7 x.r l)):=(H5 x.q.p.v (DW A7 x.r l)).trans (e4_0)
 obtain⟨a3_1,b3_1,e3_1⟩:=AZ b3_0
 have w3_1:=(Du x.q.p.l (fun x _=>Hf x) a3_1 AOh).2
 have eq3:Bq x.q.p (DW A7 x.r l)=(DW Bq x.q.p.l (A7 x.q.p.v (DW A7 x.r l))):=(JZ x.q.p (DW A7 x.r l)).trans ((e3_0).trans (e3_1))
 obtain⟨a2_1,b2_1,e2_1⟩:=AZ b2_0
 have w2_1:=(CG a2_1 AOh).2
 have eq2:EK x.q (DW A7 x.r l)=(Fv x.q.out.length (Bq x.q.p (DW A7 x.r l))):=(KQ x.q (DW A7 x.r l)).trans ((e2_0).trans (e2_1))
 obtain⟨a1_2,b1_2,e1_2⟩:=AZ b1_1
 have w1_2:=(CG a1_2 AOh).2
 obtain⟨a1_3,b1_3,e1_3⟩:=AZ b1_2
 have w1_3:=(Du x.got (fun x _=>NE x) a1_3 AOh).2
 have IG:I5 x l=(DW Jl x.got (Fv x.l.length (EK x.q (DW A7 x.r l)))):=(Si x l).trans ((e1_0).trans ((e1_1).trans ((e1_2).trans (e1_3))))
 have:Ak k x+64*(DW A7 x.r l)≤k+3+64*l:=KL _ (fun y _ k l a b=>⟨VE y k l a b,(Dx y l a b).2⟩) _ a1_0 AOh
 have:Gf k x+64*(DW Bq x.q.p.l (A7 x.q.p.v (DW A7 x.r l)))≤Ak k x+8+64*(A7 x.q.p.v (DW A7 x.r l)):=KL _ (fun y _ k l a b=>⟨kH y k l a b,(Hf y l a b).2⟩) _ a3_1 AOh
 have:EM k x+64*(Fv x.q.out.length (Bq x.q.p (DW A7 x.r l)))≤Gf k x+1+64*(Bq x.q.p (DW A7 x.r l)):=Pi Pj _ _ _ a2_1
 have:BC k x+64*(Fv x.l.length (EK x.q (DW A7 x.r l)))≤EM k x+2+64*(EK x.q (DW A7 x.r l)):=Pi dK _ _ _ a1_2
 have:Og k x+64*(DW Jl x.got (Fv x.l.length (EK x.q (DW A7 x.r l))))≤BC k x+6+64*(Fv x.l.length (EK x.q (DW A7 x.r l))):=KL _ (fun y _ k l a b=>⟨uF y k l a b,(NE y l a b).2⟩) _ a1_3 AOh
 rw[SQ,IG]; omega
theorem mQ (xs:List DTask) (k:Int) (hk:0≤k) (hx:fitS GG xs) (hb:ER EN k xs≤4000000000000000000):xh prog 55 72 25 DTask.o KN EN xs (k):=by
 have hxl:=hx.1
 refine AC0 (fn:=f55) call55 func55 rfl mixed ntmps55 results55 (by kernel_rfl) rfl (.inr rfl) fun us hw0 hw=>?_
 simp only[go_sem]
 refine ACz 1 0 [0,1,5] (A:=Nat×List DTask×Int) (mkS us 211 72 25 DTask.o xs) (MkX KN EN xs k) (fun x=>xs.length-x.1) (0,[],k) ⟨⟨rfl,Dk (BI W9)⟩,rfl,MkX.start⟩ ?_
 rintro⟨i,dn,k1⟩ hP
 have hn:=hP.len
 refine AOd (fun h=>?_) fun h=>?_
 ·have hi:i<xs.length:=by simpa using h
  obtain⟨q2,q4,q5,q3⟩:=hP.room hi O4 DTask.o
  have hst:=hP.set hi DTask.o (KN k1 xs[i])
  have hset:=set_self (R:=(dn++xs.drop i).map DTask.o) (i:=i) q3
  have q3b:i<dn.length+(xs.drop i).length:=by simpa using q3
  rw[SQ] at q4
  have hle:=Y8 k1 xs[i]
  have hfx:=hx.2 _ (ax hi)
  rw[DTask.o_eq] at q2
  simp only[DPred.o_eq,DQuery.o_eq,DVal.c_eq,aU,aN] at q2
  simp only[go_sem,q2,q3,q3b,hset,ah,ag,JC,Af,Int.reduceAdd,wz (n:=k1+1),wz (n:=k1+2),wz (n:=k1+3),wz (n:=(i:Int)+1)]
  refine ACx (l:=1) (OI _ (k1+3) AOh hfx.1 (by show Ak k1 xs[i]≤_; omega)) rfl ⟨rfl,rfl,rfl,rfl,DD _,AOi,trivial⟩ ?_
  simp only[go_sem,q2,q3,q3b,hset,ah,ag,JC,Af,Int.reduceAdd,wz (n:=Ak k1 xs[i]+1),wz (n:=Ak k1 xs[i]+2),wz (n:=Ak k1 xs[i]+3),wz (n:=Ak k1 xs[i]+4),wz (n:=Ak k1 xs[i]+5),wz (n:=Ak k1 xs[i]+6),wz (n:=Ak k1 xs[i]+7),wz (n:=(i:Int)+1),Iq]
  refine AAT _ (EQ (Ak k1 xs[i]+7) AOh AOh) fun _=>?_
  simp only[go_sem,q2,q3,q3b,hset,ah,ag,JC,Af,Int.reduceAdd,wz (n:=Ak k1 xs[i]+8),wz (n:=(i:Int)+1),Iq]
  refine ACx (l:=2) (VK _ (Ak k1 xs[i]+8) AOh (Eq.mp (BP _) hfx.2.1.1).2 (by show Gf k1 xs[i]≤_; omega)) rfl ⟨rfl,rfl,rfl,rfl,BL _,AOi,trivial⟩ ?_
  simp only[go_sem,q2,q3,q3b,hset,ah,ag,JC,Af,Int.reduceAdd,wz (n:=Gf k1 xs[i]+1),wz (n:=(i:Int)+1),Iq,N9]
  refine ACx (l:=3) (LY _ (Gf k1 xs[i]+1) AOh hfx.2.1.2 (by show EM k1 xs[i]≤_; omega)) rfl ⟨rfl,rfl,rfl,rfl,AQ _,AOi,trivial⟩ ?_
  simp only[go_sem,q2,q3,q3b,hset,ah,ag,JC,Af,Int.reduceAdd,wz (n:=EM k1 xs[i]+1),wz (n:=EM k1 xs[i]+2),wz (n:=(i:Int)+1),Iq,N9,SN]
  refine ACx (l:=4) (YE _ (EM k1 xs[i]+2) AOh hfx.2.2.1 (by show BC k1 xs[i]≤_; omega)) rfl ⟨rfl,rfl,rfl,rfl,Ba _,AOi,trivial⟩ ?_
  simp only[go_sem,q2,q3,q3b,hset,ah,ag,JC,Af,Int.reduceAdd,wz (n:=BC k1 xs[i]+1),wz (n:=BC k1 xs[i]+2),wz (n:=BC k1 xs[i]+3),wz (n:=BC k1 xs[i]+4),wz (n:=BC k1 xs[i]+5),wz (n:=BC k1 xs[i]+6),wz (n:=(i:Int)+1),Iq,N9,SN,Y7]
  refine ACx (l:=5) (YB _ (BC k1 xs[i]+6) AOh hfx.2.2.2 (by show Og k1 xs[i]≤_; omega)) rfl ⟨rfl,rfl,rfl,rfl,BF _,AOi,trivial⟩ ?_
  simp only[go_sem,q2,q3,q3b,hset,ah,ag,JC,Af,Int.reduceAdd,wz (n:=(i:Int)+1),Iq,N9,SN,Y7,AAU]
  refine⟨(i+1,dn ++ [KN k1 xs[i]],EN k1 xs[i]),.inr ⟨i,(dn++xs.drop i).map DTask.o, ?rowr,DTask.o (KN k1 xs[i]), ?ob,⟨aaR, ?e1, ?e2,q3, ?e3⟩, ?own,⟨rfl, ?tr⟩, ?eq⟩,hP.step hi O4, ?mu⟩
  case e1=>exact rfl
  case e2=>exact rfl
  case e3=>exact rfl
  case own=>rw[ADG]; exact⟨rfl,rfl,rfl,rfl,rfl,rfl,rfl,rfl,rfl,rfl,DD _,AOi,rfl,rfl,rfl,rfl,rfl,rfl,rfl,rfl,rfl,rfl,rfl,rfl,rfl,rfl,rfl,rfl,rfl,rfl,rfl,rfl,BL _,AOi,rfl,rfl,rfl,rfl,rfl,rfl,AQ _,AOi,rfl,rfl,rfl,rfl,rfl,rfl,rfl,rfl,Ba _,AOi,rfl,rfl,rfl,rfl,rfl,rfl,rfl,rfl,rfl,rfl,rfl,rfl,rfl,rfl,rfl,rfl,BF _,AOi,fun l hl=>AOh⟩
  case eq=>unfold BO; rw[hst,SQ]; rfl
  case tr=>unfold BO; rw[hst]; exact Dk (BI W9)
  case mu=>simp only; omega
 ·obtain⟨y1,y2⟩:=hP.finL h
  simp only[go_sem]
  rw[y1,y2]
  exact⟨[.ref 0],[.ow 72 25 _],[.c (.v (.int .i64 _))],rfl,.inr rfl,⟨rfl,rfl,rfl,rfl,Gp _,AOi,trivial⟩,by simp only[Fa,Ju,uC,aS],rfl,rfl,rfl,rfl⟩
theorem Zf (xs:List DTask) (k:Int) (hk:0≤k) (hx:fitS GG xs) (hb:ER EN k xs≤4000000000000000000):HdE prog 62 DTask.c KN EN xs (k):=by
 have hxl:=hx.1
 refine CM call62 func62 ntmps62 results62 fun hw=>?_
 simp only[go_sem]
 refine AB7 0 [0,1,5] (A:=Nat×Int) (jG 261 DTask.c KN EN xs k) (HdX KN EN xs k) (fun x=>xs.length-x.1) (0,k) ⟨⟨rfl,rfl⟩,rfl,HdX.start⟩ ?_
 rintro⟨i,k1⟩ hP
 refine AOe (fun h=>?_) fun h=>?_
 ·have hi:i<xs.length:=by simpa using h
  obtain⟨q2,q4,q5⟩:=hP.room hi O4 DTask.c
  rw[SQ] at q4
  have hle:=Y8 k1 xs[i]
  have hfx:=hx.2 _ (ax hi)
  rw[ADF] at q2
  simp only[go_sem,q2,JC,aB,aA,Af,Int.reduceAdd,wz (n:=k1+1),wz (n:=k1+2),wz (n:=k1+3),wz (n:=(i:Int)+1)]
  refine AAT _ (LC _ (k1+3) AOh hfx.1 (by show Ak k1 xs[i]≤_; omega)) fun _=>?_
  have hg1:=MP (x:=Ak k1 xs[i]) AOh
  simp only[go_sem,q2,JC,aB,aA,Af,Int.reduceAdd,wz (n:=Ak k1 xs[i]+1),wz (n:=Ak k1 xs[i]+2),wz (n:=Ak k1 xs[i]+3),wz (n:=Ak k1 xs[i]+4),wz (n:=Ak k1 xs[i]+5),wz (n:=Ak k1 xs[i]+6),wz (n:=Ak k1 xs[i]+7),wz (n:=(i:Int)+1),Iq,hg1]
  refine AAm ?_
  simp only[go_sem,q2,JC,aB,aA,Af,Int.reduceAdd,wz (n:=Ak k1 xs[i]+1),wz (n:=Ak k1 xs[i]+2),wz (n:=Ak k1 xs[i]+3),wz (n:=Ak k1 xs[i]+4),wz (n:=Ak k1 xs[i]+5),wz (n:=Ak k1 xs[i]+6),wz (n:=Ak k1 xs[i]+7),wz (n:=(i:Int)+1),Iq,hg1]
  refine AB5 _ (EQ (Ak k1 xs[i]+7) AOh AOh) ?_
  simp only[go_sem,q2,JC,aB,aA,Af,Int.reduceAdd,wz (n:=Ak k1 xs[i]+8),wz (n:=(i:Int)+1),Iq,hg1]
  refine AAT _ (Qx _ (Ak k1 xs[i]+8) AOh (Eq.mp (BP _) hfx.2.1.1).2 (by show Gf k1 xs[i]≤_; omega)) fun _=>?_
  have hg2:=MP (x:=Gf k1 xs[i]) AOh
  simp only[go_sem,q2,JC,aB,aA,Af,Int.reduceAdd,wz (n:=Gf k1 xs[i]+1),wz (n:=(i:Int)+1),Iq,N9,hg1,hg2]
  refine AAT _ (JF _ (Gf k1 xs[i]+1) AOh hfx.2.1.2 (by show EM k1 xs[i]≤_; omega)) fun _=>?_
  have hg3:=MP (x:=EM k1 xs[i]) AOh
  simp only[go_sem,q2,JC,aB,aA,Af,Int.reduceAdd,wz (n:=EM k1 xs[i]+1),wz (n:=EM k1 xs[i]+2),wz (n:=(i:Int)+1),Iq,N9,SN,hg1,hg2,hg3]
  refine AAT _ (TY _ (EM k1 xs[i]+2) AOh hfx.2.2.1 (by show BC k1 xs[i]≤_; omega)) fun _=>?_
  have hg4:=MP (x:=BC k1 xs[i]) AOh
  simp only[go_sem,q2,JC,aB,aA,Af,Int.reduceAdd,wz (n:=BC k1 xs[i]+1),wz (n:=BC k1 xs[i]+2),wz (n:=BC k1 xs[i]+3),wz (n:=BC k1 xs[i]+4),wz (n:=BC k1 xs[i]+5),wz (n:=BC k1 xs[i]+6),wz (n:=(i:Int)+1),Iq,N9,SN,Y7,hg1,hg2,hg3,hg4]
  refine AAT _ (TW _ (BC k1 xs[i]+6) AOh hfx.2.2.2 (by show Og k1 xs[i]≤_; omega)) fun _=>?_
  have hg5:=MP (x:=Og k1 xs[i]) AOh
  simp only[go_sem,q2,JC,aB,aA,Af,Int.reduceAdd,wz (n:=(i:Int)+1),Iq,N9,SN,Y7,AAU,hg1,hg2,hg3,hg4,hg5]
  refine⟨(i+1,Og k1 xs[i]),⟨rfl,rfl⟩,rfl,hP.step hi O4, ?mu⟩
  case mu=>simp only; omega
 ·have:=hP.finL h
  subst this
  exact AIk
def Ap (k:Int) (x:DDeed):Int:=ER Et (k+2) x.r
theorem IK (k:Int) (x:DDeed):ER Et (k+2) x.r=Ap k x:=rfl
def Gt (k:Int) (x:DDeed):Int:=ER BU (Ap k x+8) x.q.p.l
theorem MQ (k:Int) (x:DDeed):ER BU (Ap k x+8) x.q.p.l=Gt k x:=rfl
def JS (k:Int) (x:DDeed):Int:=ER Lu (Gt k x+1) x.q.out
theorem Pm (k:Int) (x:DDeed):ER Lu (Gt k x+1) x.q.out=JS k x:=rfl
def Am (k:Int) (x:DDeed):Int:=ER Gy (JS k x) x.res.rows
theorem Us (k:Int) (x:DDeed):ER Gy (JS k x) x.res.rows=Am k x:=rfl
def Gg (k:Int) (x:DDeed):Int:=Am k x+10
def KO (k:Int) (x:DDeed):DDeed:=⟨k,k+1,H7 Je Et (k+2) x.r,Ap k x,⟨Ap k x+1,DPred.mk (Ap k x+2) (Ap k x+3) (Ap k x+4) (⟨Ap k x+5,Ap k x+6,IC (Ap k x+7)⟩) (H7 EW BU (Ap k x+8) x.q.p.l),Gt k x,H7 qo Lu (Gt k x+1) x.q.out⟩,⟨H7 mkRow Gy (JS k x) x.res.rows,Am k x,IntKind.i64.wrap ((Am k x+1).tmod 3)==0,⟨Am k x+2,Am k x+3,IC (Am k x+4)⟩⟩,Am k x+5,Am k x+6,Am k x+7,Am k x+8,Am k x+9⟩
theorem SS (k:Int) (x:DDeed):Gg k x=Am k x+10:=rfl
theorem ADH (k:Int) (x:DDeed):(KO k x).c = [.v (.int .i64 (k)),.v (.int .i64 (k+1)),.sl ((H7 Je Et (k+2) x.r).map DVal.c),.v (.int .i64 (Ap k x)),.v (.int .i64 (Ap k x+1)),.v (.int .i64 (Ap k x+2)),.v (.int .i64 (Ap k x+3)),.v (.int .i64 (Ap k x+4)),.v (.int .i64 (Ap k x+5)),.v (.int .i64 (Ap k x+6)),.v (.string (IC (Ap k x+7))),.sl ((H7 EW BU (Ap k x+8) x.q.p.l).map DPred.c),.v (.int .i64 (Gt k x)),.sl ((H7 qo Lu (Gt k x+1) x.q.out).map intC),.sl ((H7 mkRow Gy (JS k x) x.res.rows).map DRow.c),.v (.int .i64 (Am k x)),.v (.bool (IntKind.i64.wrap ((Am k x+1).tmod 3)==0)),.v (.int .i64 (Am k x+2)),.v (.int .i64 (Am k x+3)),.v (.string (IC (Am k x+4))),.v (.int .i64 (Am k x+5)),.v (.int .i64 (Am k x+6)),.v (.int .i64 (Am k x+7)),.v (.int .i64 (Am k x+8)),.v (.int .i64 (Am k x+9))]:=by rw[DDeed.c_eq]; simp only[KO,DPred.o_eq,DPred.c_eq,DQuery.o_eq,DQuery.c_eq,DResult.o_eq,DResult.c_eq,DVal.c_eq,DPred.kind,DPred.col,DPred.op,DPred.v,DPred.l,aU,aN]
theorem ADI (k:Int) (x:DDeed):(KO k x).o = [.v (.int .i64 (k)),.v (.int .i64 (k+1)),.ow 64 3 ((H7 Je Et (k+2) x.r).map DVal.c),.v (.int .i64 (Ap k x)),.v (.int .i64 (Ap k x+1)),.v (.int .i64 (Ap k x+2)),.v (.int .i64 (Ap k x+3)),.v (.int .i64 (Ap k x+4)),.v (.int .i64 (Ap k x+5)),.v (.int .i64 (Ap k x+6)),.v (.string (IC (Ap k x+7))),.ow 67 7 ((H7 EW BU (Ap k x+8) x.q.p.l).map DPred.o),.v (.int .i64 (Gt k x)),.ow 3 1 ((H7 qo Lu (Gt k x+1) x.q.out).map intC),.ow 204 2 ((H7 mkRow Gy (JS k x) x.res.rows).map DRow.o),.v (.int .i64 (Am k x)),.v (.bool (IntKind.i64.wrap ((Am k x+1).tmod 3)==0)),.v (.int .i64 (Am k x+2)),.v (.int .i64 (Am k x+3)),.v (.string (IC (Am k x+4))),.v (.int .i64 (Am k x+5)),.v (.int .i64 (Am k x+6)),.v (.int .i64 (Am k x+7)),.v (.int .i64 (Am k x+8)),.v (.int .i64 (Am k x+9))]:=by rw[DDeed.o_eq]; simp only[KO,DPred.o_eq,DPred.c_eq,DQuery.o_eq,DQuery.c_eq,DResult.o_eq,DResult.c_eq,DVal.c_eq,DPred.kind,DPred.col,DPred.op,DPred.v,DPred.l,aU,aN]
theorem mV (k:Int) (x:DDeed):k+2≤Ap k x∧Ap k x+8≤Gt k x∧Gt k x+1≤JS k x∧JS k x≤Am k x:=⟨Es LZ _ _,Es KY _ _,Es Jk _ _,Es O_ _ _⟩
theorem O5 (k:Int) (x:DDeed):k≤Gg k x:=by have:=mV k x; unfold Gg; omega
theorem jw (x:DDeed) (k l:Int) (h0:0≤KR x l) (hl:l≤1048576):Gg k x+64*KR x l≤k+64*l+64:=by
 have d1:=h0
 rw[Sj] at d1
 obtain⟨a1_0,b1_0,e1_0⟩:=AZ d1
 have w1_0:=(Du x.r (fun x _=>Dx x) a1_0 AOh).2
 obtain⟨a1_1,b1_1,e1_1⟩:=AZ b1_0
 have w1_1:=(OA x.q _ a1_1 AOh).2
 have d2:=a1_1
 rw[KQ] at d2
 obtain⟨a2_0,b2_0,e2_0⟩:=AZ d2
 have w2_0:=(Hf x.q.p _ a2_0 AOh).2
 have d3:=a2_0
 rw[JZ] at d3
 obtain⟨a3_0,b3_0,e3_0⟩:=AZ d3
 have w3_0:=(Dx x.q.p.v _ a3_0 AOh).2
 have d4:=a3_0
 rw[H5] at d4
 obtain⟨a4_0,b4_0,e4_0⟩:=AZ d4
 have w4_0:=(CG a4_0 AOh).2
 have eq4:A7 x.q.p.v (DW A7 x.r l)=(Fv x.q.p.v.s.size (DW A7 x.r l)):=(H5 x.q.p.v (DW A7 x.r l)).trans (e4_0)
 obtain⟨a3_1,b3_1,e3_1⟩:=AZ b3_0
 have w3_1:=(Du x.q.p.l (fun x _=>Hf x) a3_1 AOh).2
 have eq3:Bq x.q.p (DW A7 x.r l)=(DW Bq x.q.p.l (A7 x.q.p.v (DW A7 x.r l))):=(JZ x.q.p (DW A7 x.r l)).trans ((e3_0).trans (e3_1))
 obtain⟨a2_1,b2_1,e2_1⟩:=AZ b2_0
 have w2_1:=(CG a2_1 AOh).2
 have eq2:EK x.q (DW A7 x.r l)=(Fv x.q.out.length (Bq x.q.p (DW A7 x.r l))):=(KQ x.q (DW A7 x.r l)).trans ((e2_0).trans (e2_1))
 obtain⟨a1_2,b1_2,e1_2⟩:=AZ b1_1
 have w1_2:=(Uy x.res _ a1_2 AOh).2
 have d5:=a1_2
 rw[N_] at d5
 obtain⟨a5_0,b5_0,e5_0⟩:=AZ d5
 have w5_0:=(Du x.res.rows (fun x _=>NE x) a5_0 AOh).2
 obtain⟨a5_1,b5_1,e5_1⟩:=AZ b5_0
 have w5_1:=(Dx x.res.v _ a5_1 AOh).2
 have d6:=a5_1
 rw[H5] at d6
 obtain⟨a6_0,b6_0,e6_0⟩:=AZ d6
 have w6_0:=(CG a6_0 AOh).2
 have eq6:A7 x.res.v (DW Jl x.res.rows (EK x.q (DW A7 x.r l)))=(Fv x.res.v.s.size (DW Jl x.res.rows (EK x.q (DW A7 x.r l)))):=(H5 x.res.v (DW Jl x.res.rows (EK x.q (DW A7 x.r l)))).trans (e6_0)
 have eq5:LX x.res (EK x.q (DW A7 x.r l))=(A7 x.res.v (DW Jl x.res.rows (EK x.q (DW A7 x.r l)))):=(N_ x.res (EK x.q (DW A7 x.r l))).trans ((e5_0).trans (e5_1))
 have IG:KR x l=(LX x.res (EK x.q (DW A7 x.r l))):=(Sj x l).trans ((e1_0).trans ((e1_1).trans (e1_2)))
 have:Ap k x+64*(DW A7 x.r l)≤k+2+64*l:=KL _ (fun y _ k l a b=>⟨VE y k l a b,(Dx y l a b).2⟩) _ a1_0 AOh
 have:Gt k x+64*(DW Bq x.q.p.l (A7 x.q.p.v (DW A7 x.r l)))≤Ap k x+8+64*(A7 x.q.p.v (DW A7 x.r l)):=KL _ (fun y _ k l a b=>⟨kH y k l a b,(Hf y l a b).2⟩) _ a3_1 AOh
 have:JS k x+64*(Fv x.q.out.length (Bq x.q.p (DW A7 x.r l)))≤Gt k x+1+64*(Bq x.q.p (DW A7 x.r l)):=Pi Pj _ _ _ a2_1
 have:Am k x+64*(DW Jl x.res.rows (EK x.q (DW A7 x.r l)))≤JS k x+64*(EK x.q (DW A7 x.r l)):=KL _ (fun y _ k l a b=>⟨uF y k l a b,(NE y l a b).2⟩) _ a5_0 AOh
 rw[SS,IG]; omega
theorem mW (xs:List DDeed) (k:Int) (hk:0≤k) (hx:fitS Fj xs) (hb:ER Gg k xs≤4000000000000000000):xh prog 56 152 25 DDeed.o KO Gg xs (k):=by
 have hxl:=hx.1
 refine AC0 (fn:=f56) call56 func56 rfl mixed ntmps56 results56 (by kernel_rfl) rfl (.inr rfl) fun us hw0 hw=>?_
 simp only[go_sem]
 refine ACz 1 0 [0,1,5] (A:=Nat×List DDeed×Int) (mkS us 221 152 25 DDeed.o xs) (MkX KO Gg xs k) (fun x=>xs.length-x.1) (0,[],k) ⟨⟨rfl,Dk (BI W_)⟩,rfl,MkX.start⟩ ?_
 rintro⟨i,dn,k1⟩ hP
 have hn:=hP.len
 refine AOd (fun h=>?_) fun h=>?_
 ·have hi:i<xs.length:=by simpa using h
  obtain⟨q2,q4,q5,q3⟩:=hP.room hi O5 DDeed.o
  have hst:=hP.set hi DDeed.o (KO k1 xs[i])
  have hset:=set_self (R:=(dn++xs.drop i).map DDeed.o) (i:=i) q3
  have q3b:i<dn.length+(xs.drop i).length:=by simpa using q3
  rw[SS] at q4
  have hle:=mV k1 xs[i]
  have hfx:=hx.2 _ (ax hi)
  rw[DDeed.o_eq] at q2
  simp only[DPred.o_eq,DQuery.o_eq,DResult.o_eq,DVal.c_eq,aU,aN] at q2
  simp only[go_sem,q2,q3,q3b,hset,ah,ag,JC,Af,Int.reduceAdd,wz (n:=k1+1),wz (n:=k1+2),wz (n:=(i:Int)+1)]
  refine ACx (l:=1) (OI _ (k1+2) AOh hfx.1 (by show Ap k1 xs[i]≤_; omega)) rfl ⟨rfl,rfl,rfl,rfl,DD _,AOi,trivial⟩ ?_
  simp only[go_sem,q2,q3,q3b,hset,ah,ag,JC,Af,Int.reduceAdd,wz (n:=Ap k1 xs[i]+1),wz (n:=Ap k1 xs[i]+2),wz (n:=Ap k1 xs[i]+3),wz (n:=Ap k1 xs[i]+4),wz (n:=Ap k1 xs[i]+5),wz (n:=Ap k1 xs[i]+6),wz (n:=Ap k1 xs[i]+7),wz (n:=(i:Int)+1),IK]
  refine AAT _ (EQ (Ap k1 xs[i]+7) AOh AOh) fun _=>?_
  simp only[go_sem,q2,q3,q3b,hset,ah,ag,JC,Af,Int.reduceAdd,wz (n:=Ap k1 xs[i]+8),wz (n:=(i:Int)+1),IK]
  refine ACx (l:=2) (VK _ (Ap k1 xs[i]+8) AOh (Eq.mp (BP _) hfx.2.1.1).2 (by show Gt k1 xs[i]≤_; omega)) rfl ⟨rfl,rfl,rfl,rfl,BL _,AOi,trivial⟩ ?_
  simp only[go_sem,q2,q3,q3b,hset,ah,ag,JC,Af,Int.reduceAdd,wz (n:=Gt k1 xs[i]+1),wz (n:=(i:Int)+1),IK,MQ]
  refine ACx (l:=3) (LY _ (Gt k1 xs[i]+1) AOh hfx.2.1.2 (by show JS k1 xs[i]≤_; omega)) rfl ⟨rfl,rfl,rfl,rfl,AQ _,AOi,trivial⟩ ?_
  simp only[go_sem,q2,q3,q3b,hset,ah,ag,JC,Af,Int.reduceAdd,wz (n:=(i:Int)+1),IK,MQ,Pm]
  refine ACx (l:=4) (YB _ (JS k1 xs[i]) AOh hfx.2.2.1 (by show Am k1 xs[i]≤_; omega)) rfl ⟨rfl,rfl,rfl,rfl,BF _,AOi,trivial⟩ ?_
  simp only[go_sem,q2,q3,q3b,hset,ah,ag,JC,Af,Int.reduceAdd,wz (n:=Am k1 xs[i]+1),wz (n:=Am k1 xs[i]+2),wz (n:=Am k1 xs[i]+3),wz (n:=Am k1 xs[i]+4),wz (n:=(i:Int)+1),IK,MQ,Pm,Us]
  refine AAT _ (EQ (Am k1 xs[i]+4) AOh AOh) fun _=>?_
  simp only[go_sem,q2,q3,q3b,hset,ah,ag,JC,Af,Int.reduceAdd,wz (n:=Am k1 xs[i]+5),wz (n:=Am k1 xs[i]+6),wz (n:=Am k1 xs[i]+7),wz (n:=Am k1 xs[i]+8),wz (n:=Am k1 xs[i]+9),wz (n:=Am k1 xs[i]+10),wz (n:=(i:Int)+1),IK,MQ,Pm,Us]
  refine⟨(i+1,dn ++ [KO k1 xs[i]],Gg k1 xs[i]),.inr ⟨i,(dn++xs.drop i).map DDeed.o, ?rowr,DDeed.o (KO k1 xs[i]), ?ob,⟨aaR, ?e1, ?e2,q3, ?e3⟩, ?own,⟨rfl, ?tr⟩, ?eq⟩,hP.step hi O5, ?mu⟩
  case e1=>exact rfl
  case e2=>exact rfl
  case e3=>exact rfl
  case own=>rw[ADI]; exact⟨rfl,rfl,rfl,rfl,rfl,rfl,rfl,rfl,DD _,AOi,rfl,rfl,rfl,rfl,rfl,rfl,rfl,rfl,rfl,rfl,rfl,rfl,rfl,rfl,rfl,rfl,rfl,rfl,rfl,rfl,BL _,AOi,rfl,rfl,rfl,rfl,rfl,rfl,AQ _,AOi,rfl,rfl,rfl,rfl,BF _,AOi,rfl,rfl,rfl,rfl,rfl,rfl,rfl,rfl,rfl,rfl,rfl,rfl,rfl,rfl,rfl,rfl,rfl,rfl,rfl,rfl,fun l hl=>AOh⟩
  case eq=>unfold BO; rw[hst,SS]; rfl
  case tr=>unfold BO; rw[hst]; exact Dk (BI W_)
  case mu=>simp only; omega
 ·obtain⟨y1,y2⟩:=hP.finL h
  simp only[go_sem]
  rw[y1,y2]
  exact⟨[.ref 0],[.ow 152 25 _],[.c (.v (.int .i64 _))],rfl,.inr rfl,⟨rfl,rfl,rfl,rfl,Cc _,AOi,trivial⟩,by simp only[Fa,Ju,uD,aS],rfl,rfl,rfl,rfl⟩
theorem Zg (xs:List DDeed) (k:Int) (hk:0≤k) (hx:fitS Fj xs) (hb:ER Gg k xs≤4000000000000000000):HdE prog 63 DDeed.c KO Gg xs (k):=by
 have hxl:=hx.1
 refine CM call63 func63 ntmps63 results63 fun hw=>?_
 simp only[go_sem]
 refine AB7 0 [0,1,5] (A:=Nat×Int) (jG 271 DDeed.c KO Gg xs k) (HdX KO Gg xs k) (fun x=>xs.length-x.1) (0,k) ⟨⟨rfl,rfl⟩,rfl,HdX.start⟩ ?_
 rintro⟨i,k1⟩ hP
 refine AOe (fun h=>?_) fun h=>?_
 ·have hi:i<xs.length:=by simpa using h
  obtain⟨q2,q4,q5⟩:=hP.room hi O5 DDeed.c
  rw[SS] at q4
  have hle:=mV k1 xs[i]
  have hfx:=hx.2 _ (ax hi)
  rw[ADH] at q2
  simp only[go_sem,q2,JC,aB,aA,Af,Int.reduceAdd,wz (n:=k1+1),wz (n:=k1+2),wz (n:=(i:Int)+1)]
  refine AAT _ (LC _ (k1+2) AOh hfx.1 (by show Ap k1 xs[i]≤_; omega)) fun _=>?_
  have hg1:=MP (x:=Ap k1 xs[i]) AOh
  simp only[go_sem,q2,JC,aB,aA,Af,Int.reduceAdd,wz (n:=Ap k1 xs[i]+1),wz (n:=Ap k1 xs[i]+2),wz (n:=Ap k1 xs[i]+3),wz (n:=Ap k1 xs[i]+4),wz (n:=Ap k1 xs[i]+5),wz (n:=Ap k1 xs[i]+6),wz (n:=Ap k1 xs[i]+7),wz (n:=(i:Int)+1),IK,hg1]
  refine AAm ?_
  simp only[go_sem,q2,JC,aB,aA,Af,Int.reduceAdd,wz (n:=Ap k1 xs[i]+1),wz (n:=Ap k1 xs[i]+2),wz (n:=Ap k1 xs[i]+3),wz (n:=Ap k1 xs[i]+4),wz (n:=Ap k1 xs[i]+5),wz (n:=Ap k1 xs[i]+6),wz (n:=Ap k1 xs[i]+7),wz (n:=(i:Int)+1),IK,hg1]
  refine AB5 _ (EQ (Ap k1 xs[i]+7) AOh AOh) ?_
  simp only[go_sem,q2,JC,aB,aA,Af,Int.reduceAdd,wz (n:=Ap k1 xs[i]+8),wz (n:=(i:Int)+1),IK,hg1]
  refine AAT _ (Qx _ (Ap k1 xs[i]+8) AOh (Eq.mp (BP _) hfx.2.1.1).2 (by show Gt k1 xs[i]≤_; omega)) fun _=>?_
  have hg2:=MP (x:=Gt k1 xs[i]) AOh
  simp only[go_sem,q2,JC,aB,aA,Af,Int.reduceAdd,wz (n:=Gt k1 xs[i]+1),wz (n:=(i:Int)+1),IK,MQ,hg1,hg2]
  refine AAT _ (JF _ (Gt k1 xs[i]+1) AOh hfx.2.1.2 (by show JS k1 xs[i]≤_; omega)) fun _=>?_
  have hg3:=MP (x:=JS k1 xs[i]) AOh
  simp only[go_sem,q2,JC,aB,aA,Af,Int.reduceAdd,wz (n:=(i:Int)+1),IK,MQ,Pm,hg1,hg2,hg3]
  refine AAT _ (TW _ (JS k1 xs[i]) AOh hfx.2.2.1 (by show Am k1 xs[i]≤_; omega)) fun _=>?_
  have hg4:=MP (x:=Am k1 xs[i]) AOh
  simp only[go_sem,q2,JC,aB,aA,Af,Int.reduceAdd,wz (n:=Am k1 xs[i]+1),wz (n:=Am k1 xs[i]+2),wz (n:=Am k1 xs[i]+3),wz (n:=Am k1 xs[i]+4),wz (n:=(i:Int)+1),IK,MQ,Pm,Us,hg1,hg2,hg3,hg4]
  refine AAm ?_
  simp only[go_sem,q2,JC,aB,aA,Af,Int.reduceAdd,wz (n:=Am k1 xs[i]+1),wz (n:=Am k1 xs[i]+2),wz (n:=Am k1 xs[i]+3),wz (n:=Am k1 xs[i]+4),wz (n:=(i:Int)+1),IK,MQ,Pm,Us,hg1,hg2,hg3,hg4]
  refine AB5 _ (EQ (Am k1 xs[i]+4) AOh AOh) ?_
  simp only[go_sem,q2,JC,aB,aA,Af,Int.reduceAdd,wz (n:=Am k1 xs[i]+5),wz (n:=Am k1 xs[i]+6),wz (n:=Am k1 xs[i]+7),wz (n:=Am k1 xs[i]+8),wz (n:=Am k1 xs[i]+9),wz (n:=Am k1 xs[i]+10),wz (n:=(i:Int)+1),IK,MQ,Pm,Us,hg1,hg2,hg3,hg4]
  refine⟨(i+1,Am k1 xs[i]+10),⟨rfl,rfl⟩,rfl,hP.step hi O5, ?mu⟩
  case mu=>simp only; omega
 ·have:=hP.finL h
  subst this
  exact AIk
def UG (k:Int) (x:DConf):Int:=ER Lu (k) x.cols
theorem AAV (k:Int) (x:DConf):ER Lu (k) x.cols=UG k x:=rfl
def KP (k:Int) (x:DConf):Int:=UG k x
def Zh (k:Int) (x:DConf):DConf:=⟨H7 qo Lu (k) x.cols,x.slots,x.bufs⟩
theorem Zi (k:Int) (x:DConf):k≤UG k x:=Es Jk _ _
theorem ABf (k:Int) (x:DConf):k≤KP k x:=by have:=Zi k x; unfold KP; omega
theorem ABg (x:DConf) (k l:Int) (h0:0≤FB x l) (hl:l≤1048576):KP k x+64*FB x l≤k+64*l:=by
 have e0:=Wn x l
 have h1:=h0
 rw[e0] at h1
 obtain⟨a0,b0,u0⟩:=AZ h1
 have w0:=(CG a0 AOh).2
 have:UG k x+64*(Fv x.cols.length (l))≤k+64*(l):=Pi Pj _ _ _ a0
 have IG:FB x l=Fv x.cols.length (l):=(e0).trans (u0)
 rw[IG]; unfold KP; omega
theorem rM (x:DConf) (k:Int) (hk:0≤k) (hf:Po x) (hb:KP k x≤4000000000000000000):MCtr prog 50 true x.o [.c (.v (.int .i64 k))] (fun cl' rs=>cl'=(Zh k x).o∧rs = [.c (.v (.int .i64 (KP k x)))]):=by
 unfold KP at hb
 have hle:=Zi k x
 refine AC0 (fn:=f50) call50 func50 rfl mixed ntmps50 results50 (by kernel_rfl) rfl (.inl rfl) fun us hw0 hw=>?_
 simp only[go_sem]
 refine ACx (l:=0) (LY x.cols (k) AOh hf (by show UG k x≤_; omega)) rfl ⟨rfl,rfl,rfl,rfl,AQ _,AOi,trivial⟩ ?_
 simp only[go_sem,AAV]
 exact⟨[.ref 0,.v (.int .i64 x.slots),.v (.int .i64 x.bufs)],(Zh k x).o,[.c (.v (.int .i64 (KP k x)))],rfl,.inl rfl,⟨rfl,rfl,rfl,rfl,AQ _,AOi,rfl,rfl,rfl,rfl,trivial⟩,ABz _,rfl,rfl,rfl,rfl⟩
theorem jJ (x:DConf) (k:Int) (hk:0≤k) (hf:Po x) (hb:KP k x≤4000000000000000000):Ctr prog 57 [.agg (Zh k x).c,.c (.v (.int .i64 k))] [.val (.c (.v (.int .i64 (KP k x))))]:=by
 unfold KP at hb ⊢
 have hle:=Zi k x
 refine CM call57 func57 ntmps57 results57 fun hw=>?_
 simp only[go_sem,Zh]
 refine AAT _ (JF x.cols (k) AOh hf (by show UG k x≤_; omega)) fun _=>?_
 have hg0:=MP (x:=UG k x) AOh
 simp only[go_sem,AAV,hg0]
def Zj (k:Int) (x:DDir):Int:=ER JH (k) x.l
theorem ADJ (k:Int) (x:DDir):ER JH (k) x.l=Zj k x:=rfl
def O6 (k:Int) (x:DDir):Int:=Zj k x
def rO (k:Int) (x:DDir):DDir:=⟨x.ver,H7 mkRef JH (k) x.l⟩
theorem mX (k:Int) (x:DDir):k≤Zj k x:=Es NW _ _
theorem ADK (k:Int) (x:DDir):k≤O6 k x:=by have:=mX k x; unfold O6; omega
theorem ADL (x:DDir) (k l:Int) (h0:0≤IY x l) (hl:l≤1048576):O6 k x+64*IY x l≤k+64*l:=by
 have e0:=Zm x l
 have h1:=h0
 rw[e0] at h1
 obtain⟨a0,b0,u0⟩:=AZ h1
 have w0:=(CG a0 AOh).2
 have:Zj k x+64*(Fv x.l.length (l))≤k+64*(l):=Pi dK _ _ _ a0
 have IG:IY x l=Fv x.l.length (l):=(e0).trans (u0)
 rw[IG]; unfold O6; omega
theorem xk (x:DDir) (k:Int) (hk:0≤k) (hf:UI x) (hb:O6 k x≤4000000000000000000):MCtr prog 51 true x.o [.c (.v (.int .i64 k))] (fun cl' rs=>cl'=(rO k x).o∧rs = [.c (.v (.int .i64 (O6 k x)))]):=by
 unfold O6 at hb
 have hle:=mX k x
 refine AC0 (fn:=f51) call51 func51 rfl mixed ntmps51 results51 (by kernel_rfl) rfl (.inl rfl) fun us hw0 hw=>?_
 simp only[go_sem]
 refine ACx (l:=0) (YE x.l (k) AOh hf (by show Zj k x≤_; omega)) rfl ⟨rfl,rfl,rfl,rfl,Ba _,AOi,trivial⟩ ?_
 simp only[go_sem,ADJ]
 exact⟨[.v (.int .i64 x.ver),.ref 0],(rO k x).o,[.c (.v (.int .i64 (O6 k x)))],rfl,.inl rfl,⟨rfl,rfl,rfl,rfl,rfl,rfl,Ba _,AOi,trivial⟩,ADc _,rfl,rfl,rfl,rfl⟩
theorem mY (x:DDir) (k:Int) (hk:0≤k) (hf:UI x) (hb:O6 k x≤4000000000000000000):Ctr prog 58 [.agg (rO k x).c,.c (.v (.int .i64 k))] [.val (.c (.v (.int .i64 (O6 k x))))]:=by
 unfold O6 at hb ⊢
 have hle:=mX k x
 refine CM call58 func58 ntmps58 results58 fun hw=>?_
 simp only[go_sem,rO]
 refine AAT _ (TY x.l (k) AOh hf (by show Zj k x≤_; omega)) fun _=>?_
 have hg0:=MP (x:=Zj k x) AOh
 simp only[go_sem,ADJ,hg0]
def G7 (k:Int) (x:DWorld):Int:=KP (k) x.c0
theorem FI (k:Int) (x:DWorld):KP (k) x.c0=G7 k x:=rfl
def G8 (k:Int) (x:DWorld):Int:=O6 (G7 k x) x.d
theorem F8 (k:Int) (x:DWorld):O6 (G7 k x) x.d=G8 k x:=rfl
def G9 (k:Int) (x:DWorld):Int:=ER JG (G8 k x) x.b
theorem Hz (k:Int) (x:DWorld):ER JG (G8 k x) x.b=G9 k x:=rfl
def G_ (k:Int) (x:DWorld):Int:=ER Lu (G9 k x) x.m
theorem JD (k:Int) (x:DWorld):ER Lu (G9 k x) x.m=G_ k x:=rfl
def HY (k:Int) (x:DWorld):Int:=ER I9 (G_ k x) x.x
theorem LW (k:Int) (x:DWorld):ER I9 (G_ k x) x.x=HY k x:=rfl
def Ha (k:Int) (x:DWorld):Int:=ER Lu (HY k x) x.p
theorem O7 (k:Int) (x:DWorld):ER Lu (HY k x) x.p=Ha k x:=rfl
def He (k:Int) (x:DWorld):Int:=ER EN (Ha k x) x.tasks
theorem Ut (k:Int) (x:DWorld):ER EN (Ha k x) x.tasks=He k x:=rfl
def MR (k:Int) (x:DWorld):Int:=ER Gg (He k x) x.deeds
theorem rP (k:Int) (x:DWorld):ER Gg (He k x) x.deeds=MR k x:=rfl
def Gn (k:Int) (x:DWorld):Int:=MR k x
def SV (k:Int) (x:DWorld):DWorld:=⟨Zh (k) x.c0,x.time,x.t,x.e,rO (G7 k x) x.d,H7 Qy JG (G8 k x) x.b,H7 qo Lu (G9 k x) x.m,H7 P8 I9 (G_ k x) x.x,H7 qo Lu (HY k x) x.p,H7 KN EN (Ha k x) x.tasks,H7 KO Gg (He k x) x.deeds⟩
theorem Wl (k:Int) (x:DWorld):k≤G7 k x∧G7 k x≤G8 k x∧G8 k x≤G9 k x∧G9 k x≤G_ k x∧G_ k x≤HY k x∧HY k x≤Ha k x∧Ha k x≤He k x∧He k x≤MR k x:=⟨ABf _ _,ADK _ _,Es Qz _ _,Es Jk _ _,Es PG _ _,Es Jk _ _,Es O4 _ _,Es O5 _ _⟩
theorem Zk (k:Int) (x:DWorld):k≤Gn k x:=by have:=Wl k x; unfold Gn; omega
theorem xm (x:DWorld) (k l:Int) (h0:0≤JP x l) (hl:l≤1048576):Gn k x+64*JP x l≤k+64*l:=by
 have e0:=NT x l
 have h1:=h0
 rw[e0] at h1
 obtain⟨a0,b0,u0⟩:=AZ h1
 have w0:=(Pq x.c0 _ a0 AOh).2
 have:G7 k x+64*(FB x.c0 (l))≤k+64*(l):=ABg _ _ _ a0 AOh
 obtain⟨a1,b1,u1⟩:=AZ b0
 have w1:=(Sm x.d _ a1 AOh).2
 have:G8 k x+64*(IY x.d (FB x.c0 (l)))≤G7 k x+64*(FB x.c0 (l)):=ADL _ _ _ a1 AOh
 obtain⟨a2,b2,u2⟩:=AZ b1
 have w2:=(Du x.b (fun x _=>NF x) a2 AOh).2
 have:G9 k x+64*(DW IX x.b (IY x.d (FB x.c0 (l))))≤G8 k x+64*(IY x.d (FB x.c0 (l))):=KL _ (fun y _ k l a b=>⟨uH y k l a b,(NF y l a b).2⟩) _ a2 AOh
 obtain⟨a3,b3,u3⟩:=AZ b2
 have w3:=(CG a3 AOh).2
 have:G_ k x+64*(Fv x.m.length (DW IX x.b (IY x.d (FB x.c0 (l)))))≤G9 k x+64*(DW IX x.b (IY x.d (FB x.c0 (l)))):=Pi Pj _ _ _ a3
 obtain⟨a4,b4,u4⟩:=AZ b3
 have w4:=(CG a4 AOh).2
 have:HY k x+64*(Fv x.x.length (Fv x.m.length (DW IX x.b (IY x.d (FB x.c0 (l))))))≤G_ k x+64*(Fv x.m.length (DW IX x.b (IY x.d (FB x.c0 (l))))):=Pi kK _ _ _ a4
 obtain⟨a5,b5,u5⟩:=AZ b4
 have w5:=(CG a5 AOh).2
 have:Ha k x+64*(Fv x.p.length (Fv x.x.length (Fv x.m.length (DW IX x.b (IY x.d (FB x.c0 (l)))))))≤HY k x+64*(Fv x.x.length (Fv x.m.length (DW IX x.b (IY x.d (FB x.c0 (l)))))):=Pi Pj _ _ _ a5
 obtain⟨a6,b6,u6⟩:=AZ b5
 have w6:=(Du x.tasks (fun x _=>KW x) a6 AOh).2
 have:He k x+64*(DW I5 x.tasks (Fv x.p.length (Fv x.x.length (Fv x.m.length (DW IX x.b (IY x.d (FB x.c0 (l))))))))≤Ha k x+64*(Fv x.p.length (Fv x.x.length (Fv x.m.length (DW IX x.b (IY x.d (FB x.c0 (l))))))):=KL _ (fun y _ k l a b=>⟨Wj y k l a b,(KW y l a b).2⟩) _ a6 AOh
 obtain⟨a7,b7,u7⟩:=AZ b6
 have w7:=(Du x.deeds (fun x _=>NU x) a7 AOh).2
 have:MR k x+64*(DW KR x.deeds (DW I5 x.tasks (Fv x.p.length (Fv x.x.length (Fv x.m.length (DW IX x.b (IY x.d (FB x.c0 (l)))))))))≤He k x+64*(DW I5 x.tasks (Fv x.p.length (Fv x.x.length (Fv x.m.length (DW IX x.b (IY x.d (FB x.c0 (l)))))))):=KL _ (fun y _ k l a b=>⟨jw y k l a b,(NU y l a b).2⟩) _ a7 AOh
 have IG:JP x l=DW KR x.deeds (DW I5 x.tasks (Fv x.p.length (Fv x.x.length (Fv x.m.length (DW IX x.b (IY x.d (FB x.c0 (l)))))))):=(e0).trans ((u0).trans ((u1).trans ((u2).trans ((u3).trans ((u4).trans ((u5).trans ((u6).trans (u7))))))))
 rw[IG]; unfold Gn; omega
theorem Uu (x:DWorld) (k:Int) (hk:0≤k) (hf:AX x) (hb:Gn k x≤4000000000000000000):MCtr prog 12 true x.o [.c (.v (.int .i64 k))] (fun cl' rs=>cl'=(SV k x).o∧rs = [.c (.v (.int .i64 (Gn k x)))]):=by
 unfold Gn at hb
 have hle:=Wl k x
 refine AC0 (fn:=f12) call12 func12 rfl mixed ntmps12 results12 (by kernel_rfl) rfl (.inl rfl) fun us hw0 hw=>?_
 simp only[go_sem]
 refine ADr true (zs:=[.ref 0,.v (.int .i64 x.c0.slots),.v (.int .i64 x.c0.bufs)]) (cl:=[.ow 3 1 (x.c0.cols.map intC),.v (.int .i64 x.c0.slots),.v (.int .i64 x.c0.bufs)]) (by simpa only[go_sem] using rM x.c0 (k) AOh hf.1 (by show G7 k x≤_; omega)) rfl ⟨rfl,rfl,rfl,rfl,AQ _,AOi,rfl,rfl,rfl,rfl,trivial⟩ rfl (.inl rfl) fun cl' rs hM=>?_
 obtain⟨rfl,rfl⟩:=hM
 refine⟨⟨rfl,⟨rfl,rfl⟩,rfl,rfl,trivial⟩, ?_⟩
 simp only[go_sem,FI]
 refine ADr true (zs:=[.v (.int .i64 x.d.ver),.ref 1]) (cl:=[.v (.int .i64 x.d.ver),.ow 133 5 (x.d.l.map DRef.c)]) (by simpa only[go_sem] using xk x.d (G7 k x) AOh hf.2.1 (by show G8 k x≤_; omega)) rfl ⟨rfl,rfl,rfl,rfl,rfl,rfl,Ba _,AOi,trivial⟩ rfl (.inl rfl) fun cl' rs hM=>?_
 obtain⟨rfl,rfl⟩:=hM
 refine⟨⟨rfl,rfl,⟨rfl,rfl⟩,trivial⟩, ?_⟩
 simp only[go_sem,FI,F8]
 refine ACx (l:=2) (uI x.b (G8 k x) AOh hf.2.2.1 (by show G9 k x≤_; omega)) rfl ⟨rfl,rfl,rfl,rfl,BG _,AOi,trivial⟩ ?_
 simp only[go_sem,FI,F8,Hz]
 refine ACx (l:=3) (LY x.m (G9 k x) AOh hf.2.2.2.1 (by show G_ k x≤_; omega)) rfl ⟨rfl,rfl,rfl,rfl,AQ _,AOi,trivial⟩ ?_
 simp only[go_sem,FI,F8,Hz,JD]
 refine ACx (l:=4) (oG x.x (G_ k x) AOh hf.2.2.2.2.1 (by show HY k x≤_; omega)) rfl ⟨rfl,rfl,rfl,rfl,Bj _,AOi,trivial⟩ ?_
 simp only[go_sem,FI,F8,Hz,JD,LW]
 refine ACx (l:=5) (LY x.p (HY k x) AOh hf.2.2.2.2.2.1 (by show Ha k x≤_; omega)) rfl ⟨rfl,rfl,rfl,rfl,AQ _,AOi,trivial⟩ ?_
 simp only[go_sem,FI,F8,Hz,JD,LW,O7]
 refine ACx (l:=6) (mQ x.tasks (Ha k x) AOh hf.2.2.2.2.2.2.1 (by show He k x≤_; omega)) rfl ⟨rfl,rfl,rfl,rfl,Gp _,AOi,trivial⟩ ?_
 simp only[go_sem,FI,F8,Hz,JD,LW,O7,Ut]
 refine ACx (l:=7) (mW x.deeds (He k x) AOh hf.2.2.2.2.2.2.2 (by show MR k x≤_; omega)) rfl ⟨rfl,rfl,rfl,rfl,Cc _,AOi,trivial⟩ ?_
 simp only[go_sem,FI,F8,Hz,JD,LW,O7,Ut,rP]
 exact⟨[.ref 0,.v (.int .i64 x.c0.slots),.v (.int .i64 x.c0.bufs),.v (.int .i64 x.time),.v (.int .i64 x.t),.v (.int .i64 x.e),.v (.int .i64 x.d.ver),.ref 1,.ref 2,.ref 3,.ref 4,.ref 5,.ref 6,.ref 7],(SV k x).o,[.c (.v (.int .i64 (Gn k x)))],rfl,.inl rfl,⟨rfl,rfl,rfl,rfl,AQ _,AOi,rfl,rfl,rfl,rfl,rfl,rfl,rfl,rfl,rfl,rfl,rfl,rfl,rfl,rfl,rfl,rfl,Ba _,AOi,rfl,rfl,rfl,rfl,BG _,AOi,rfl,rfl,rfl,rfl,AQ _,AOi,rfl,rfl,rfl,rfl,Bj _,AOi,rfl,rfl,rfl,rfl,AQ _,AOi,rfl,rfl,rfl,rfl,Gp _,AOi,rfl,rfl,rfl,rfl,Cc _,AOi,trivial⟩,UM _,rfl,rfl,rfl,rfl⟩
theorem Qp (x:DWorld) (k:Int) (hk:0≤k) (hf:AX x) (hb:Gn k x≤4000000000000000000):Ctr prog 13 [.agg (SV k x).c,.c (.v (.int .i64 k))] [.val (.c (.v (.int .i64 (Gn k x))))]:=by
 unfold Gn at hb ⊢
 have hle:=Wl k x
 refine CM call13 func13 ntmps13 results13 fun hw=>?_
 simp only[go_sem,SV]
 refine AAT _ (by simpa only[go_sem] using jJ x.c0 (k) AOh hf.1 (by show G7 k x≤_; omega)) fun _=>?_
 have hg0:=MP (x:=G7 k x) AOh
 simp only[go_sem,FI,hg0]
 refine AAT _ (by simpa only[go_sem] using mY x.d (G7 k x) AOh hf.2.1 (by show G8 k x≤_; omega)) fun _=>?_
 have hg1:=MP (x:=G8 k x) AOh
 simp only[go_sem,FI,F8,hg0,hg1]
 refine AAT _ (jO x.b (G8 k x) AOh hf.2.2.1 (by show G9 k x≤_; omega)) fun _=>?_
 have hg2:=MP (x:=G9 k x) AOh
 simp only[go_sem,FI,F8,Hz,hg0,hg1,hg2]
 refine AAT _ (JF x.m (G9 k x) AOh hf.2.2.2.1 (by show G_ k x≤_; omega)) fun _=>?_
 have hg3:=MP (x:=G_ k x) AOh
 simp only[go_sem,FI,F8,Hz,JD,hg0,hg1,hg2,hg3]
 refine AAT _ (dJ x.x (G_ k x) AOh hf.2.2.2.2.1 (by show HY k x≤_; omega)) fun _=>?_
 have hg4:=MP (x:=HY k x) AOh
 simp only[go_sem,FI,F8,Hz,JD,LW,hg0,hg1,hg2,hg3,hg4]
 refine AAT _ (JF x.p (HY k x) AOh hf.2.2.2.2.2.1 (by show Ha k x≤_; omega)) fun _=>?_
 have hg5:=MP (x:=Ha k x) AOh
 simp only[go_sem,FI,F8,Hz,JD,LW,O7,hg0,hg1,hg2,hg3,hg4,hg5]
 refine AAT _ (Zf x.tasks (Ha k x) AOh hf.2.2.2.2.2.2.1 (by show He k x≤_; omega)) fun _=>?_
 have hg6:=MP (x:=He k x) AOh
 simp only[go_sem,FI,F8,Hz,JD,LW,O7,Ut,hg0,hg1,hg2,hg3,hg4,hg5,hg6]
 refine AAT _ (Zg x.deeds (He k x) AOh hf.2.2.2.2.2.2.2 (by show MR k x≤_; omega)) fun _=>?_
 have hg7:=MP (x:=MR k x) AOh
 simp only[go_sem,FI,F8,Hz,JD,LW,O7,Ut,rP,hg0,hg1,hg2,hg3,hg4,hg5,hg6,hg7]
end Go.Proofs.YtnoldekcdlaahaaGreat
namespace Go.Vm
theorem Ctr.fz2 {P:Program} {f:FuncId} {args:List AV} {cl ys:List Cl} {v:AV} (h:Ctr P f args [.agg cl,.val v]) (he:KI cl=ys):Ctr P f args [.val (.agg ys),.val v]:=by
 subst he
 exact h.frz
end Go.Vm
namespace Go.Proofs.YtnoldekcdlaahaaGreat
open Go.Vm
theorem Y9 {α:Type} {f:α→Int→Int}:∀ (xs:List α) (_:∀ x∈xs,∀ l,0≤f x l→l≤1048576→f x l≤l) (l:Int),0≤Xt f xs l→l≤1048576→∀ x∈xs,∃ l',l'≤1048576∧0≤f x l'
 | [],_,_,_,_,_,h=>AO_
 | y::ys,hf,l,h0,hl,x,hx=>by
  simp only[Xt] at h0
  obtain⟨h1,h2,h3⟩:=AZ h0
  rcases dh.1 hx with rfl | hx
  ·exact⟨l,hl,h1⟩
  ·exact Y9 ys (fun z hz=>hf z (by simp[hz])) _ h2 (by have:=hf y AOi l h1 hl; omega) x hx
theorem AAW {α:Type} {f:α→Int→Int} (xs:List α) (hf:∀ x∈xs,∀ l,0≤f x l→l≤1048576→f x l≤l) {l:Int} (h:0≤DW f xs l) (hl:l≤1048576):DW f xs l≤l-xs.length:=by
 unfold DW at h ⊢
 obtain⟨a1,b1,c1⟩:=AZ h
 have h3:¬ l-xs.length<0:=by intro h3; rw[AFA h3] at a1; omega
 rw[c1]
 have c2:=(mZ xs (F:=fun _=>True) (fun x hx l a b=>⟨trivial,hf x hx l a b⟩) _ b1 (by rw[AAY h3]; omega)).2
 rw[AAY h3] at c2 ⊢
 exact c2
theorem AE_ {xs:List DBuf} {l:Int} (h0:0≤DW IX xs l) (hl:l≤1048576):∀ x∈xs,∀ k,JG k x≤k+67108928:=fun x hx k=>by
 unfold DW at h0
 obtain⟨h1,h2,_⟩:=AZ h0
 obtain⟨l',g1,g2⟩:=Y9 xs (fun x _ l a b=>(NF x l a b).2) _ h2 (by have:=(CG h1 hl).2; omega) x hx
 have:=uH x k l' g2 g1
 omega
theorem ADM {xs:List DTask} {l:Int} (h0:0≤DW I5 xs l) (hl:l≤1048576):∀ x∈xs,∀ k,EN k x≤k+67108928:=fun x hx k=>by
 unfold DW at h0
 obtain⟨h1,h2,_⟩:=AZ h0
 obtain⟨l',g1,g2⟩:=Y9 xs (fun x _ l a b=>(KW x l a b).2) _ h2 (by have:=(CG h1 hl).2; omega) x hx
 have:=Wj x k l' g2 g1
 omega
theorem ADN {xs:List DDeed} {l:Int} (h0:0≤DW KR xs l) (hl:l≤1048576):∀ x∈xs,∀ k,Gg k x≤k+67108928:=fun x hx k=>by
 unfold DW at h0
 obtain⟨h1,h2,_⟩:=AZ h0
 obtain⟨l',g1,g2⟩:=Y9 xs (fun x _ l a b=>(NU x l a b).2) _ h2 (by have:=(CG h1 hl).2; omega) x hx
 have:=jw x k l' g2 g1
 omega
theorem ADO {w:DWorld} (h0:0≤JP w 1048576):w.deeds.length+w.tasks.length≤1048576∧(∀ x∈w.b,∀ k,JG k x≤k+67108928)∧(∀ x∈w.tasks,∀ k,EN k x≤k+67108928)∧(∀ x∈w.deeds,∀ k,Gg k x≤k+67108928):=by
 rw[NT] at h0
 obtain⟨a0,b0,_⟩:=AZ h0
 have w0:=(Pq w.c0 _ a0 AOh).2
 obtain⟨a1,b1,_⟩:=AZ b0
 have w1:=(Sm w.d _ a1 AOh).2
 obtain⟨a2,b2,_⟩:=AZ b1
 have w2:=(Du w.b (fun x _=>NF x) a2 AOh).2
 obtain⟨a3,b3,_⟩:=AZ b2
 have w3:=(CG a3 AOh).2
 obtain⟨a4,b4,_⟩:=AZ b3
 have w4:=(CG a4 AOh).2
 obtain⟨a5,b5,_⟩:=AZ b4
 have w5:=(CG a5 AOh).2
 obtain⟨a6,b6,_⟩:=AZ b5
 have w6:=AAW w.tasks (fun x _ l a b=>(KW x l a b).2) a6 AOh
 obtain⟨a7,b7,_⟩:=AZ b6
 have w7:=AAW w.deeds (fun x _ l a b=>(NU x l a b).2) a7 AOh
 exact⟨AOh,AE_ a2 AOh,ADM a6 AOh,ADN a7 AOh⟩
theorem AHA (w:DWorld) (hf:AX w) (hb:∀ x∈w.b,∀ k,JG k x≤k+67108928) (ht:∀ x∈w.tasks,∀ k,EN k x≤k+67108928) (hd:∀ x∈w.deeds,∀ k,Gg k x≤k+67108928):Gn 1 w≤4000000000000000000:=by
 rw[A8,IZ,H_] at hf
 obtain⟨f1,f2,f3,f4,f5,f6,f7,f8⟩:=hf
 have f3:=f3.1
 have f7:=f7.1
 have f8:=f8.1
 have g1:G7 1 w≤1+w.c0.cols.length*64:=H8 (c:=Lu) 64 AOh w.c0.cols (fun x _ k=>Pj k x) 1
 have g2:G8 1 w≤G7 1 w+w.d.l.length*64:=H8 (c:=JH) 64 AOh w.d.l (fun x _ k=>dK k x) _
 have g3:G9 1 w≤G8 1 w+w.b.length*67108928:=H8 (c:=JG) 67108928 AOh w.b hb _
 have g4:G_ 1 w≤G9 1 w+w.m.length*64:=H8 (c:=Lu) 64 AOh w.m (fun x _ k=>Pj k x) _
 have g5:HY 1 w≤G_ 1 w+w.x.length*64:=H8 (c:=I9) 64 AOh w.x (fun x _ k=>kK k x) _
 have g6:Ha 1 w≤HY 1 w+w.p.length*64:=H8 (c:=Lu) 64 AOh w.p (fun x _ k=>Pj k x) _
 have g7:He 1 w≤Ha 1 w+w.tasks.length*67108928:=H8 (c:=EN) 67108928 AOh w.tasks ht _
 have g8:MR 1 w≤He 1 w+w.deeds.length*67108928:=H8 (c:=Gg) 67108928 AOh w.deeds hd _
 show MR 1 w≤_
 omega
end Go.Proofs.YtnoldekcdlaahaaGreat
