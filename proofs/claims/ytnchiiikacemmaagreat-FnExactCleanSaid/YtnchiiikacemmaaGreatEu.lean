/- A part. -/
import Derived.Test.YtnchiiikacemmaaGreatEx
set_option linter.unusedSimpArgs false
set_option linter.unusedVariables false
set_option maxHeartbeats 2000000
set_option maxRecDepth 10000
open Go.Proofs.Tryz
namespace Go.Proofs.YtnchiiikacemmaaGreat
open Go.Vm
def Ag (k:Int) (x:DTask):Int:=Dw Ed (k+3) x.r
theorem Hu (k:Int) (x:DTask):Dw Ed (k+3) x.r=Ag k x:=rfl
def FZ (k:Int) (x:DTask):Int:=Dw BJ (Ag k x+8) x.q.p.l
theorem Lc (k:Int) (x:DTask):Dw BJ (Ag k x+8) x.q.p.l=FZ k x:=rfl
def EN (k:Int) (x:DTask):Int:=Dw KG (FZ k x+1) x.q.out
theorem QG (k:Int) (x:DTask):Dw KG (FZ k x+1) x.q.out=EN k x:=rfl
def BU (k:Int) (x:DTask):Int:=Dw II (EN k x+2) x.l
theorem XE (k:Int) (x:DTask):Dw II (EN k x+2) x.l=BU k x:=rfl
def Nc (k:Int) (x:DTask):Int:=Dw H6 (BU k x+6) x.got
theorem wH (k:Int) (x:DTask):Dw H6 (BU k x+6) x.got=Nc k x:=rfl
def Gu (k:Int) (x:DTask):Int:=Nc k x
def JM (k:Int) (x:DTask):DTask:=⟨k,k+1,k+2,Gn Ih Ed (k+3) x.r,Ag k x,⟨Ag k x+1,DPred.mk (Ag k x+2) (Ag k x+3) (Ag k x+4) (⟨Ag k x+5,Ag k x+6,Gt (Ag k x+7)⟩) (Gn Dn BJ (Ag k x+8) x.q.p.l),FZ k x,Gn lN KG (FZ k x+1) x.q.out⟩,EN k x,EN k x+1,Gn mkRef II (EN k x+2) x.l,BU k x,BU k x+1,BU k x+2,BU k x+3,BU k x+4,IntKind.i64.wrap ((BU k x+5).tmod 3)==0,Gn mkRow H6 (BU k x+6) x.got⟩
theorem QH (k:Int) (x:DTask):Gu k x=Nc k x:=rfl
theorem AAf (k:Int) (x:DTask):(JM k x).c = [.v (.int .i64 (k)),.v (.int .i64 (k+1)),.v (.int .i64 (k+2)),.sl ((Gn Ih Ed (k+3) x.r).map DVal.c),.v (.int .i64 (Ag k x)),.v (.int .i64 (Ag k x+1)),.v (.int .i64 (Ag k x+2)),.v (.int .i64 (Ag k x+3)),.v (.int .i64 (Ag k x+4)),.v (.int .i64 (Ag k x+5)),.v (.int .i64 (Ag k x+6)),.v (.string (Gt (Ag k x+7))),.sl ((Gn Dn BJ (Ag k x+8) x.q.p.l).map DPred.c),.v (.int .i64 (FZ k x)),.sl ((Gn lN KG (FZ k x+1) x.q.out).map intC),.v (.int .i64 (EN k x)),.v (.int .i64 (EN k x+1)),.sl ((Gn mkRef II (EN k x+2) x.l).map DRef.c),.v (.int .i64 (BU k x)),.v (.int .i64 (BU k x+1)),.v (.int .i64 (BU k x+2)),.v (.int .i64 (BU k x+3)),.v (.int .i64 (BU k x+4)),.v (.bool (IntKind.i64.wrap ((BU k x+5).tmod 3)==0)),.sl ((Gn mkRow H6 (BU k x+6) x.got).map DRow.c)]:=by rw[DTask.c_eq]; simp only[JM,DPred.o_eq,DPred.c_eq,DQuery.o_eq,DQuery.c_eq,DVal.c_eq,DPred.kind,DPred.col,DPred.op,DPred.v,DPred.l,bH,bi]
theorem AAg (k:Int) (x:DTask):(JM k x).o = [.v (.int .i64 (k)),.v (.int .i64 (k+1)),.v (.int .i64 (k+2)),.ow 119 3 ((Gn Ih Ed (k+3) x.r).map DVal.c),.v (.int .i64 (Ag k x)),.v (.int .i64 (Ag k x+1)),.v (.int .i64 (Ag k x+2)),.v (.int .i64 (Ag k x+3)),.v (.int .i64 (Ag k x+4)),.v (.int .i64 (Ag k x+5)),.v (.int .i64 (Ag k x+6)),.v (.string (Gt (Ag k x+7))),.ow 122 7 ((Gn Dn BJ (Ag k x+8) x.q.p.l).map DPred.o),.v (.int .i64 (FZ k x)),.ow 3 1 ((Gn lN KG (FZ k x+1) x.q.out).map intC),.v (.int .i64 (EN k x)),.v (.int .i64 (EN k x+1)),.ow 165 5 ((Gn mkRef II (EN k x+2) x.l).map DRef.c),.v (.int .i64 (BU k x)),.v (.int .i64 (BU k x+1)),.v (.int .i64 (BU k x+2)),.v (.int .i64 (BU k x+3)),.v (.int .i64 (BU k x+4)),.v (.bool (IntKind.i64.wrap ((BU k x+5).tmod 3)==0)),.ow 193 2 ((Gn mkRow H6 (BU k x+6) x.got).map DRow.o)]:=by rw[DTask.o_eq]; simp only[JM,DPred.o_eq,DPred.c_eq,DQuery.o_eq,DQuery.c_eq,DVal.c_eq,DPred.kind,DPred.col,DPred.op,DPred.v,DPred.l,bH,bi]
theorem gY (k:Int) (x:DTask):k+3≤Ag k x∧Ag k x+8≤FZ k x∧FZ k x+1≤EN k x∧EN k x+2≤BU k x∧BU k x+6≤Nc k x:=⟨EM Jk _ _,EM JP _ _,EM Iq _ _,EM M_ _ _,EM Mc _ _⟩
theorem MX (k:Int) (x:DTask):k≤Gu k x:=by have:=gY k x; unfold Gu; omega
theorem dN (x:DTask) (k l:Int) (h0:0≤ED x l) (hl:l≤1048576):Gu k x+64*ED x l≤k+64*l+64:=by
 have d1:=h0
 rw[QE] at d1
 obtain⟨a1_0,b1_0,e1_0⟩:=AZ d1
 have w1_0:=(DF x.r (fun x _=>DL x) a1_0 (by omega)).2
 obtain⟨a1_1,b1_1,e1_1⟩:=AZ b1_0
 have w1_1:=(LZ x.q _ a1_1 (by omega)).2
 have d2:=a1_1
 rw[JK] at d2
 obtain⟨a2_0,b2_0,e2_0⟩:=AZ d2
 have w2_0:=(F5 x.q.p _ a2_0 (by omega)).2
 have d3:=a2_0
 rw[Ie] at d3
 obtain⟨a3_0,b3_0,e3_0⟩:=AZ d3
 have w3_0:=(DL x.q.p.v _ a3_0 (by omega)).2
 have d4:=a3_0
 rw[Gh] at d4
 obtain⟨a4_0,b4_0,e4_0⟩:=AZ d4
 have w4_0:=(Cb a4_0 (by omega)).2
 have eq4:Aa x.q.p.v (BN Aa x.r l)=(DC x.q.p.v.s.size (BN Aa x.r l)):=(Gh x.q.p.v (BN Aa x.r l)).trans (e4_0)
 obtain⟨a3_1,b3_1,e3_1⟩:=AZ b3_0
 have w3_1:=(DF x.q.p.l (fun x _=>F5 x) a3_1 (by omega)).2
 have eq3:Au x.q.p (BN Aa x.r l)=(BN Au x.q.p.l (Aa x.q.p.v (BN Aa x.r l))):=(Ie x.q.p (BN Aa x.r l)).trans ((e3_0).trans (e3_1))
 obtain⟨a2_1,b2_1,e2_1⟩:=AZ b2_0
 have w2_1:=(Cb a2_1 (by omega)).2
 have eq2:BZ x.q (BN Aa x.r l)=(DC x.q.out.length (Au x.q.p (BN Aa x.r l))):=(JK x.q (BN Aa x.r l)).trans ((e2_0).trans (e2_1))
 obtain⟨a1_2,b1_2,e1_2⟩:=AZ b1_1
 have w1_2:=(Cb a1_2 (by omega)).2
 obtain⟨a1_3,b1_3,e1_3⟩:=AZ b1_2
 have w1_3:=(DF x.got (fun x _=>KZ x) a1_3 (by omega)).2
 have Iu:ED x l=(BN EQ x.got (DC x.l.length (BZ x.q (BN Aa x.r l)))):=(QE x l).trans ((e1_0).trans ((e1_1).trans ((e1_2).trans (e1_3))))
 have:Ag k x+64*(BN Aa x.r l)≤k+3+64*l:=IQ _ (fun y _ k l a b=>⟨Si y k l a b,(DL y l a b).2⟩) _ a1_0 (by omega)
 have:FZ k x+64*(BN Au x.q.p.l (Aa x.q.p.v (BN Aa x.r l)))≤Ag k x+8+64*(Aa x.q.p.v (BN Aa x.r l)):=IQ _ (fun y _ k l a b=>⟨dQ y k l a b,(F5 y l a b).2⟩) _ a3_1 (by omega)
 have:EN k x+64*(DC x.q.out.length (Au x.q.p (BN Aa x.r l)))≤FZ k x+1+64*(Au x.q.p (BN Aa x.r l)):=NW NY _ _ _ a2_1
 have:BU k x+64*(DC x.l.length (BZ x.q (BN Aa x.r l)))≤EN k x+2+64*(BZ x.q (BN Aa x.r l)):=NW X0 _ _ _ a1_2
 have:Nc k x+64*(BN EQ x.got (DC x.l.length (BZ x.q (BN Aa x.r l))))≤BU k x+6+64*(DC x.l.length (BZ x.q (BN Aa x.r l))):=IQ _ (fun y _ k l a b=>⟨lw y k l a b,(KZ y l a b).2⟩) _ a1_3 (by omega)
 rw[QH,Iu]; omega
theorem gZ (xs:List DTask) (k:Int) (hk:0≤k) (hx:fitS FW xs) (hb:Dw Gu k xs≤4000000000000000000):rX prog 46 127 25 DTask.o JM Gu xs (k):=by
 have hxl:=hx.1
 refine MCtr.mk (fn:=f46) call46 func46 rfl mixed ntmps46 results46 (by kernel_rfl) rfl (.inr rfl) fun us hw0 hw=>?_
 simp only[go_sem]
 refine LoopA.mk 1 0 [0,1,5] (A:=Nat×List DTask×Int) (mkS us 211 127 25 DTask.o xs) (MkX JM Gu xs k) (fun x=>xs.length-x.1) (0,[],k) ⟨⟨rfl,Cj (BA Ut)⟩,rfl,MkX.start⟩ ?_
 rintro⟨i,dn,k1⟩ hP
 have hn:=hP.len
 simp only[go_sem,mkS,ae,hn]
 refine cndC.mk (fun h=>?_) (fun h=>?_)
 ·have hi:i<xs.length:=by simpa using h
  obtain⟨q2,q4,q5,q3⟩:=hP.room hi MX DTask.o
  have hst:=hP.set hi DTask.o (JM k1 xs[i])
  have hset:=set_self (R:=(dn++xs.drop i).map DTask.o) (i:=i) q3
  rw[QH] at q4
  have hle:=gY k1 xs[i]
  have hfx:=hx.2 _ (aj hi)
  rw[DTask.o_eq] at q2
  simp only[DPred.o_eq,DQuery.o_eq,DVal.c_eq,bH,bi] at q2
  simp only[go_sem,q2,q3,hset,cO,bG,IC,Ad,Int.reduceAdd,wz (n:=k1+1),wz (n:=k1+2),wz (n:=k1+3),wz (n:=(i:Int)+1)]
  refine MutX.mk (l:=1) (Ld _ (k1+3) (by omega) hfx.1 (by show Ag k1 xs[i]≤_; omega)) rfl ⟨rfl,rfl,rfl,rfl,CX _,by simp,trivial⟩ ?_
  simp only[go_sem,q2,q3,hset,cO,bG,IC,Ad,Int.reduceAdd,wz (n:=Ag k1 xs[i]+1),wz (n:=Ag k1 xs[i]+2),wz (n:=Ag k1 xs[i]+3),wz (n:=Ag k1 xs[i]+4),wz (n:=Ag k1 xs[i]+5),wz (n:=Ag k1 xs[i]+6),wz (n:=Ag k1 xs[i]+7),wz (n:=(i:Int)+1),Hu]
  refine CallK.mk _ (Dk (Ag k1 xs[i]+7) (by omega) (by omega)) fun _=>?_
  simp only[go_sem,q2,q3,hset,cO,bG,IC,Ad,Int.reduceAdd,wz (n:=Ag k1 xs[i]+8),wz (n:=(i:Int)+1),Hu]
  refine MutX.mk (l:=2) (Sv _ (Ag k1 xs[i]+8) (by omega) (Eq.mp (BG _) hfx.2.1.1).2 (by show FZ k1 xs[i]≤_; omega)) rfl ⟨rfl,rfl,rfl,rfl,BL _,by simp,trivial⟩ ?_
  simp only[go_sem,q2,q3,hset,cO,bG,IC,Ad,Int.reduceAdd,wz (n:=FZ k1 xs[i]+1),wz (n:=(i:Int)+1),Hu,Lc]
  refine MutX.mk (l:=3) (Jj _ (FZ k1 xs[i]+1) (by omega) hfx.2.1.2 (by show EN k1 xs[i]≤_; omega)) rfl ⟨rfl,rfl,rfl,rfl,Aq _,by simp,trivial⟩ ?_
  simp only[go_sem,q2,q3,hset,cO,bG,IC,Ad,Int.reduceAdd,wz (n:=EN k1 xs[i]+1),wz (n:=EN k1 xs[i]+2),wz (n:=(i:Int)+1),Hu,Lc,QG]
  refine MutX.mk (l:=4) (Vf _ (EN k1 xs[i]+2) (by omega) hfx.2.2.1 (by show BU k1 xs[i]≤_; omega)) rfl ⟨rfl,rfl,rfl,rfl,Et _,by simp,trivial⟩ ?_
  simp only[go_sem,q2,q3,hset,cO,bG,IC,Ad,Int.reduceAdd,wz (n:=BU k1 xs[i]+1),wz (n:=BU k1 xs[i]+2),wz (n:=BU k1 xs[i]+3),wz (n:=BU k1 xs[i]+4),wz (n:=BU k1 xs[i]+5),wz (n:=BU k1 xs[i]+6),wz (n:=(i:Int)+1),Hu,Lc,QG,XE]
  refine MutX.mk (l:=5) (Vb _ (BU k1 xs[i]+6) (by omega) hfx.2.2.2 (by show Nc k1 xs[i]≤_; omega)) rfl ⟨rfl,rfl,rfl,rfl,A8 _,by simp,trivial⟩ ?_
  simp only[go_sem,q2,q3,hset,cO,bG,IC,Ad,Int.reduceAdd,wz (n:=(i:Int)+1),Hu,Lc,QG,XE,wH]
  refine⟨(i+1,dn ++ [JM k1 xs[i]],Gu k1 xs[i]),.inr ⟨i,(dn++xs.drop i).map DTask.o, ?rowr,DTask.o (JM k1 xs[i]), ?ob,⟨aaT, ?e1, ?e2,q3, ?e3⟩, ?own,⟨rfl, ?tr⟩, ?eq⟩,hP.step hi MX, ?mu⟩
  case e1=>exact rfl
  case e2=>exact rfl
  case e3=>exact rfl
  case own=>rw[AAg]; exact⟨rfl,rfl,rfl,rfl,rfl,rfl,rfl,rfl,rfl,rfl,CX _,by simp,rfl,rfl,rfl,rfl,rfl,rfl,rfl,rfl,rfl,rfl,rfl,rfl,rfl,rfl,rfl,rfl,rfl,rfl,rfl,rfl,BL _,by simp,rfl,rfl,rfl,rfl,rfl,rfl,Aq _,by simp,rfl,rfl,rfl,rfl,rfl,rfl,rfl,rfl,Et _,by simp,rfl,rfl,rfl,rfl,rfl,rfl,rfl,rfl,rfl,rfl,rfl,rfl,rfl,rfl,rfl,rfl,A8 _,by simp,fun l hl=>by omega⟩
  case eq=>unfold Az; rw[hst,QH]; rfl
  case tr=>unfold Az; rw[hst]; exact Cj (BA Ut)
  case mu=>simp only; omega
 ·obtain⟨y1,y2⟩:=hP.finL h
  simp only[go_sem]
  rw[y1,y2]
  exact⟨[.ref 0],[.ow 127 25 _],[.c (.v (.int .i64 _))],rfl,.inr rfl,⟨rfl,rfl,rfl,rfl,GH _,by simp,trivial⟩,by simp only[Eu,JG,lq,aU],rfl,rfl,rfl,rfl⟩
theorem Xl (xs:List DTask) (k:Int) (hk:0≤k) (hx:fitS FW xs) (hb:Dw Gu k xs≤4000000000000000000):wE prog 53 DTask.c JM Gu xs (k):=by
 have hxl:=hx.1
 refine CM call53 func53 ntmps53 results53 fun hw=>?_
 simp only[go_sem]
 refine LoopK.mk 0 [0,1,5] (A:=Nat×Int) (Zh 261 DTask.c JM Gu xs k) (HdX JM Gu xs k) (fun x=>xs.length-x.1) (0,k) ⟨⟨rfl,rfl⟩,rfl,HdX.start⟩ ?_
 rintro⟨i,k1⟩ hP
 simp only[go_sem,Zh,ae,IM]
 refine cndC.mk (fun h=>?_) (fun h=>?_)
 ·have hi:i<xs.length:=by simpa using h
  obtain⟨q2,q4,q5⟩:=hP.room hi MX DTask.c
  rw[QH] at q4
  have hle:=gY k1 xs[i]
  have hfx:=hx.2 _ (aj hi)
  rw[AAf] at q2
  simp only[go_sem,q2,IC,bD,aH,Ad,Int.reduceAdd,wz (n:=k1+1),wz (n:=k1+2),wz (n:=k1+3),wz (n:=(i:Int)+1)]
  refine CallK.mk _ (Ja _ (k1+3) (by omega) hfx.1 (by show Ag k1 xs[i]≤_; omega)) fun _=>?_
  have hg1:=KH (x:=Ag k1 xs[i]) (by omega)
  simp only[go_sem,q2,IC,bD,aH,Ad,Int.reduceAdd,wz (n:=Ag k1 xs[i]+1),wz (n:=Ag k1 xs[i]+2),wz (n:=Ag k1 xs[i]+3),wz (n:=Ag k1 xs[i]+4),wz (n:=Ag k1 xs[i]+5),wz (n:=Ag k1 xs[i]+6),wz (n:=Ag k1 xs[i]+7),wz (n:=(i:Int)+1),Hu,hg1]
  refine DrawK.mk ?_
  simp only[go_sem,q2,IC,bD,aH,Ad,Int.reduceAdd,wz (n:=Ag k1 xs[i]+1),wz (n:=Ag k1 xs[i]+2),wz (n:=Ag k1 xs[i]+3),wz (n:=Ag k1 xs[i]+4),wz (n:=Ag k1 xs[i]+5),wz (n:=Ag k1 xs[i]+6),wz (n:=Ag k1 xs[i]+7),wz (n:=(i:Int)+1),Hu,hg1]
  refine CallF.mk _ (Dk (Ag k1 xs[i]+7) (by omega) (by omega)) ?_
  simp only[go_sem,q2,IC,bD,aH,Ad,Int.reduceAdd,wz (n:=Ag k1 xs[i]+8),wz (n:=(i:Int)+1),Hu,hg1]
  refine CallK.mk _ (O3 _ (Ag k1 xs[i]+8) (by omega) (Eq.mp (BG _) hfx.2.1.1).2 (by show FZ k1 xs[i]≤_; omega)) fun _=>?_
  have hg2:=KH (x:=FZ k1 xs[i]) (by omega)
  simp only[go_sem,q2,IC,bD,aH,Ad,Int.reduceAdd,wz (n:=FZ k1 xs[i]+1),wz (n:=(i:Int)+1),Hu,Lc,hg1,hg2]
  refine CallK.mk _ (IG _ (FZ k1 xs[i]+1) (by omega) hfx.2.1.2 (by show EN k1 xs[i]≤_; omega)) fun _=>?_
  have hg3:=KH (x:=EN k1 xs[i]) (by omega)
  simp only[go_sem,q2,IC,bD,aH,Ad,Int.reduceAdd,wz (n:=EN k1 xs[i]+1),wz (n:=EN k1 xs[i]+2),wz (n:=(i:Int)+1),Hu,Lc,QG,hg1,hg2,hg3]
  refine CallK.mk _ (Qp _ (EN k1 xs[i]+2) (by omega) hfx.2.2.1 (by show BU k1 xs[i]≤_; omega)) fun _=>?_
  have hg4:=KH (x:=BU k1 xs[i]) (by omega)
  simp only[go_sem,q2,IC,bD,aH,Ad,Int.reduceAdd,wz (n:=BU k1 xs[i]+1),wz (n:=BU k1 xs[i]+2),wz (n:=BU k1 xs[i]+3),wz (n:=BU k1 xs[i]+4),wz (n:=BU k1 xs[i]+5),wz (n:=BU k1 xs[i]+6),wz (n:=(i:Int)+1),Hu,Lc,QG,XE,hg1,hg2,hg3,hg4]
  refine CallK.mk _ (Qn _ (BU k1 xs[i]+6) (by omega) hfx.2.2.2 (by show Nc k1 xs[i]≤_; omega)) fun _=>?_
  have hg5:=KH (x:=Nc k1 xs[i]) (by omega)
  simp only[go_sem,q2,IC,bD,aH,Ad,Int.reduceAdd,wz (n:=(i:Int)+1),Hu,Lc,QG,XE,wH,hg1,hg2,hg3,hg4,hg5]
  refine⟨(i+1,Nc k1 xs[i]),⟨rfl,rfl⟩,rfl,hP.step hi MX, ?mu⟩
  case mu=>simp only; omega
 ·have:=hP.finL h
  subst this
  simp only[go_sem]
def Ah (k:Int) (x:DDeed):Int:=Dw Ed (k+2) x.r
theorem G5 (k:Int) (x:DDeed):Dw Ed (k+2) x.r=Ah k x:=rfl
def Fa (k:Int) (x:DDeed):Int:=Dw BJ (Ah k x+8) x.q.p.l
theorem KJ (k:Int) (x:DDeed):Dw BJ (Ah k x+8) x.q.p.l=Fa k x:=rfl
def IR (k:Int) (x:DDeed):Int:=Dw KG (Fa k x+1) x.q.out
theorem Nh (k:Int) (x:DDeed):Dw KG (Fa k x+1) x.q.out=IR k x:=rfl
def Af (k:Int) (x:DDeed):Int:=Dw H6 (IR k x) x.res.rows
theorem SV (k:Int) (x:DDeed):Dw H6 (IR k x) x.res.rows=Af k x:=rfl
def Gv (k:Int) (x:DDeed):Int:=Af k x+10
def JO (k:Int) (x:DDeed):DDeed:=⟨k,k+1,Gn Ih Ed (k+2) x.r,Ah k x,⟨Ah k x+1,DPred.mk (Ah k x+2) (Ah k x+3) (Ah k x+4) (⟨Ah k x+5,Ah k x+6,Gt (Ah k x+7)⟩) (Gn Dn BJ (Ah k x+8) x.q.p.l),Fa k x,Gn lN KG (Fa k x+1) x.q.out⟩,⟨Gn mkRow H6 (IR k x) x.res.rows,Af k x,IntKind.i64.wrap ((Af k x+1).tmod 3)==0,⟨Af k x+2,Af k x+3,Gt (Af k x+4)⟩⟩,Af k x+5,Af k x+6,Af k x+7,Af k x+8,Af k x+9⟩
theorem QI (k:Int) (x:DDeed):Gv k x=Af k x+10:=rfl
theorem AAh (k:Int) (x:DDeed):(JO k x).c = [.v (.int .i64 (k)),.v (.int .i64 (k+1)),.sl ((Gn Ih Ed (k+2) x.r).map DVal.c),.v (.int .i64 (Ah k x)),.v (.int .i64 (Ah k x+1)),.v (.int .i64 (Ah k x+2)),.v (.int .i64 (Ah k x+3)),.v (.int .i64 (Ah k x+4)),.v (.int .i64 (Ah k x+5)),.v (.int .i64 (Ah k x+6)),.v (.string (Gt (Ah k x+7))),.sl ((Gn Dn BJ (Ah k x+8) x.q.p.l).map DPred.c),.v (.int .i64 (Fa k x)),.sl ((Gn lN KG (Fa k x+1) x.q.out).map intC),.sl ((Gn mkRow H6 (IR k x) x.res.rows).map DRow.c),.v (.int .i64 (Af k x)),.v (.bool (IntKind.i64.wrap ((Af k x+1).tmod 3)==0)),.v (.int .i64 (Af k x+2)),.v (.int .i64 (Af k x+3)),.v (.string (Gt (Af k x+4))),.v (.int .i64 (Af k x+5)),.v (.int .i64 (Af k x+6)),.v (.int .i64 (Af k x+7)),.v (.int .i64 (Af k x+8)),.v (.int .i64 (Af k x+9))]:=by rw[DDeed.c_eq]; simp only[JO,DPred.o_eq,DPred.c_eq,DQuery.o_eq,DQuery.c_eq,DResult.o_eq,DResult.c_eq,DVal.c_eq,DPred.kind,DPred.col,DPred.op,DPred.v,DPred.l,bH,bi]
theorem AAi (k:Int) (x:DDeed):(JO k x).o = [.v (.int .i64 (k)),.v (.int .i64 (k+1)),.ow 119 3 ((Gn Ih Ed (k+2) x.r).map DVal.c),.v (.int .i64 (Ah k x)),.v (.int .i64 (Ah k x+1)),.v (.int .i64 (Ah k x+2)),.v (.int .i64 (Ah k x+3)),.v (.int .i64 (Ah k x+4)),.v (.int .i64 (Ah k x+5)),.v (.int .i64 (Ah k x+6)),.v (.string (Gt (Ah k x+7))),.ow 122 7 ((Gn Dn BJ (Ah k x+8) x.q.p.l).map DPred.o),.v (.int .i64 (Fa k x)),.ow 3 1 ((Gn lN KG (Fa k x+1) x.q.out).map intC),.ow 193 2 ((Gn mkRow H6 (IR k x) x.res.rows).map DRow.o),.v (.int .i64 (Af k x)),.v (.bool (IntKind.i64.wrap ((Af k x+1).tmod 3)==0)),.v (.int .i64 (Af k x+2)),.v (.int .i64 (Af k x+3)),.v (.string (Gt (Af k x+4))),.v (.int .i64 (Af k x+5)),.v (.int .i64 (Af k x+6)),.v (.int .i64 (Af k x+7)),.v (.int .i64 (Af k x+8)),.v (.int .i64 (Af k x+9))]:=by rw[DDeed.o_eq]; simp only[JO,DPred.o_eq,DPred.c_eq,DQuery.o_eq,DQuery.c_eq,DResult.o_eq,DResult.c_eq,DVal.c_eq,DPred.kind,DPred.col,DPred.op,DPred.v,DPred.l,bH,bi]
theorem gm (k:Int) (x:DDeed):k+2≤Ah k x∧Ah k x+8≤Fa k x∧Fa k x+1≤IR k x∧IR k x≤Af k x:=⟨EM Jk _ _,EM JP _ _,EM Iq _ _,EM Mc _ _⟩
theorem MZ (k:Int) (x:DDeed):k≤Gv k x:=by have:=gm k x; unfold Gv; omega
theorem dO (x:DDeed) (k l:Int) (h0:0≤Es x l) (hl:l≤1048576):Gv k x+64*Es x l≤k+64*l+64:=by
 have d1:=h0
 rw[QF] at d1
 obtain⟨a1_0,b1_0,e1_0⟩:=AZ d1
 have w1_0:=(DF x.r (fun x _=>DL x) a1_0 (by omega)).2
 obtain⟨a1_1,b1_1,e1_1⟩:=AZ b1_0
 have w1_1:=(LZ x.q _ a1_1 (by omega)).2
 have d2:=a1_1
 rw[JK] at d2
 obtain⟨a2_0,b2_0,e2_0⟩:=AZ d2
 have w2_0:=(F5 x.q.p _ a2_0 (by omega)).2
 have d3:=a2_0
 rw[Ie] at d3
 obtain⟨a3_0,b3_0,e3_0⟩:=AZ d3
 have w3_0:=(DL x.q.p.v _ a3_0 (by omega)).2
 have d4:=a3_0
 rw[Gh] at d4
 obtain⟨a4_0,b4_0,e4_0⟩:=AZ d4
 have w4_0:=(Cb a4_0 (by omega)).2
 have eq4:Aa x.q.p.v (BN Aa x.r l)=(DC x.q.p.v.s.size (BN Aa x.r l)):=(Gh x.q.p.v (BN Aa x.r l)).trans (e4_0)
 obtain⟨a3_1,b3_1,e3_1⟩:=AZ b3_0
 have w3_1:=(DF x.q.p.l (fun x _=>F5 x) a3_1 (by omega)).2
 have eq3:Au x.q.p (BN Aa x.r l)=(BN Au x.q.p.l (Aa x.q.p.v (BN Aa x.r l))):=(Ie x.q.p (BN Aa x.r l)).trans ((e3_0).trans (e3_1))
 obtain⟨a2_1,b2_1,e2_1⟩:=AZ b2_0
 have w2_1:=(Cb a2_1 (by omega)).2
 have eq2:BZ x.q (BN Aa x.r l)=(DC x.q.out.length (Au x.q.p (BN Aa x.r l))):=(JK x.q (BN Aa x.r l)).trans ((e2_0).trans (e2_1))
 obtain⟨a1_2,b1_2,e1_2⟩:=AZ b1_1
 have w1_2:=(SS x.res _ a1_2 (by omega)).2
 have d5:=a1_2
 rw[LY] at d5
 obtain⟨a5_0,b5_0,e5_0⟩:=AZ d5
 have w5_0:=(DF x.res.rows (fun x _=>KZ x) a5_0 (by omega)).2
 obtain⟨a5_1,b5_1,e5_1⟩:=AZ b5_0
 have w5_1:=(DL x.res.v _ a5_1 (by omega)).2
 have d6:=a5_1
 rw[Gh] at d6
 obtain⟨a6_0,b6_0,e6_0⟩:=AZ d6
 have w6_0:=(Cb a6_0 (by omega)).2
 have eq6:Aa x.res.v (BN EQ x.res.rows (BZ x.q (BN Aa x.r l)))=(DC x.res.v.s.size (BN EQ x.res.rows (BZ x.q (BN Aa x.r l)))):=(Gh x.res.v (BN EQ x.res.rows (BZ x.q (BN Aa x.r l)))).trans (e6_0)
 have eq5:IE x.res (BZ x.q (BN Aa x.r l))=(Aa x.res.v (BN EQ x.res.rows (BZ x.q (BN Aa x.r l)))):=(LY x.res (BZ x.q (BN Aa x.r l))).trans ((e5_0).trans (e5_1))
 have Iu:Es x l=(IE x.res (BZ x.q (BN Aa x.r l))):=(QF x l).trans ((e1_0).trans ((e1_1).trans (e1_2)))
 have:Ah k x+64*(BN Aa x.r l)≤k+2+64*l:=IQ _ (fun y _ k l a b=>⟨Si y k l a b,(DL y l a b).2⟩) _ a1_0 (by omega)
 have:Fa k x+64*(BN Au x.q.p.l (Aa x.q.p.v (BN Aa x.r l)))≤Ah k x+8+64*(Aa x.q.p.v (BN Aa x.r l)):=IQ _ (fun y _ k l a b=>⟨dQ y k l a b,(F5 y l a b).2⟩) _ a3_1 (by omega)
 have:IR k x+64*(DC x.q.out.length (Au x.q.p (BN Aa x.r l)))≤Fa k x+1+64*(Au x.q.p (BN Aa x.r l)):=NW NY _ _ _ a2_1
 have:Af k x+64*(BN EQ x.res.rows (BZ x.q (BN Aa x.r l)))≤IR k x+64*(BZ x.q (BN Aa x.r l)):=IQ _ (fun y _ k l a b=>⟨lw y k l a b,(KZ y l a b).2⟩) _ a5_0 (by omega)
 rw[QI,Iu]; omega
theorem gp (xs:List DDeed) (k:Int) (hk:0≤k) (hx:fitS E8 xs) (hb:Dw Gv k xs≤4000000000000000000):rX prog 47 132 25 DDeed.o JO Gv xs (k):=by
 have hxl:=hx.1
 refine MCtr.mk (fn:=f47) call47 func47 rfl mixed ntmps47 results47 (by kernel_rfl) rfl (.inr rfl) fun us hw0 hw=>?_
 simp only[go_sem]
 refine LoopA.mk 1 0 [0,1,5] (A:=Nat×List DDeed×Int) (mkS us 221 132 25 DDeed.o xs) (MkX JO Gv xs k) (fun x=>xs.length-x.1) (0,[],k) ⟨⟨rfl,Cj (BA Uu)⟩,rfl,MkX.start⟩ ?_
 rintro⟨i,dn,k1⟩ hP
 have hn:=hP.len
 simp only[go_sem,mkS,ae,hn]
 refine cndC.mk (fun h=>?_) (fun h=>?_)
 ·have hi:i<xs.length:=by simpa using h
  obtain⟨q2,q4,q5,q3⟩:=hP.room hi MZ DDeed.o
  have hst:=hP.set hi DDeed.o (JO k1 xs[i])
  have hset:=set_self (R:=(dn++xs.drop i).map DDeed.o) (i:=i) q3
  rw[QI] at q4
  have hle:=gm k1 xs[i]
  have hfx:=hx.2 _ (aj hi)
  rw[DDeed.o_eq] at q2
  simp only[DPred.o_eq,DQuery.o_eq,DResult.o_eq,DVal.c_eq,bH,bi] at q2
  simp only[go_sem,q2,q3,hset,cO,bG,IC,Ad,Int.reduceAdd,wz (n:=k1+1),wz (n:=k1+2),wz (n:=(i:Int)+1)]
  refine MutX.mk (l:=1) (Ld _ (k1+2) (by omega) hfx.1 (by show Ah k1 xs[i]≤_; omega)) rfl ⟨rfl,rfl,rfl,rfl,CX _,by simp,trivial⟩ ?_
  simp only[go_sem,q2,q3,hset,cO,bG,IC,Ad,Int.reduceAdd,wz (n:=Ah k1 xs[i]+1),wz (n:=Ah k1 xs[i]+2),wz (n:=Ah k1 xs[i]+3),wz (n:=Ah k1 xs[i]+4),wz (n:=Ah k1 xs[i]+5),wz (n:=Ah k1 xs[i]+6),wz (n:=Ah k1 xs[i]+7),wz (n:=(i:Int)+1),G5]
  refine CallK.mk _ (Dk (Ah k1 xs[i]+7) (by omega) (by omega)) fun _=>?_
  simp only[go_sem,q2,q3,hset,cO,bG,IC,Ad,Int.reduceAdd,wz (n:=Ah k1 xs[i]+8),wz (n:=(i:Int)+1),G5]
  refine MutX.mk (l:=2) (Sv _ (Ah k1 xs[i]+8) (by omega) (Eq.mp (BG _) hfx.2.1.1).2 (by show Fa k1 xs[i]≤_; omega)) rfl ⟨rfl,rfl,rfl,rfl,BL _,by simp,trivial⟩ ?_
  simp only[go_sem,q2,q3,hset,cO,bG,IC,Ad,Int.reduceAdd,wz (n:=Fa k1 xs[i]+1),wz (n:=(i:Int)+1),G5,KJ]
  refine MutX.mk (l:=3) (Jj _ (Fa k1 xs[i]+1) (by omega) hfx.2.1.2 (by show IR k1 xs[i]≤_; omega)) rfl ⟨rfl,rfl,rfl,rfl,Aq _,by simp,trivial⟩ ?_
  simp only[go_sem,q2,q3,hset,cO,bG,IC,Ad,Int.reduceAdd,wz (n:=(i:Int)+1),G5,KJ,Nh]
  refine MutX.mk (l:=4) (Vb _ (IR k1 xs[i]) (by omega) hfx.2.2.1 (by show Af k1 xs[i]≤_; omega)) rfl ⟨rfl,rfl,rfl,rfl,A8 _,by simp,trivial⟩ ?_
  simp only[go_sem,q2,q3,hset,cO,bG,IC,Ad,Int.reduceAdd,wz (n:=Af k1 xs[i]+1),wz (n:=Af k1 xs[i]+2),wz (n:=Af k1 xs[i]+3),wz (n:=Af k1 xs[i]+4),wz (n:=(i:Int)+1),G5,KJ,Nh,SV]
  refine CallK.mk _ (Dk (Af k1 xs[i]+4) (by omega) (by omega)) fun _=>?_
  simp only[go_sem,q2,q3,hset,cO,bG,IC,Ad,Int.reduceAdd,wz (n:=Af k1 xs[i]+5),wz (n:=Af k1 xs[i]+6),wz (n:=Af k1 xs[i]+7),wz (n:=Af k1 xs[i]+8),wz (n:=Af k1 xs[i]+9),wz (n:=Af k1 xs[i]+10),wz (n:=(i:Int)+1),G5,KJ,Nh,SV]
  refine⟨(i+1,dn ++ [JO k1 xs[i]],Gv k1 xs[i]),.inr ⟨i,(dn++xs.drop i).map DDeed.o, ?rowr,DDeed.o (JO k1 xs[i]), ?ob,⟨aaT, ?e1, ?e2,q3, ?e3⟩, ?own,⟨rfl, ?tr⟩, ?eq⟩,hP.step hi MZ, ?mu⟩
  case e1=>exact rfl
  case e2=>exact rfl
  case e3=>exact rfl
  case own=>rw[AAi]; exact⟨rfl,rfl,rfl,rfl,rfl,rfl,rfl,rfl,CX _,by simp,rfl,rfl,rfl,rfl,rfl,rfl,rfl,rfl,rfl,rfl,rfl,rfl,rfl,rfl,rfl,rfl,rfl,rfl,rfl,rfl,BL _,by simp,rfl,rfl,rfl,rfl,rfl,rfl,Aq _,by simp,rfl,rfl,rfl,rfl,A8 _,by simp,rfl,rfl,rfl,rfl,rfl,rfl,rfl,rfl,rfl,rfl,rfl,rfl,rfl,rfl,rfl,rfl,rfl,rfl,rfl,rfl,fun l hl=>by omega⟩
  case eq=>unfold Az; rw[hst,QI]; rfl
  case tr=>unfold Az; rw[hst]; exact Cj (BA Uu)
  case mu=>simp only; omega
 ·obtain⟨y1,y2⟩:=hP.finL h
  simp only[go_sem]
  rw[y1,y2]
  exact⟨[.ref 0],[.ow 132 25 _],[.c (.v (.int .i64 _))],rfl,.inr rfl,⟨rfl,rfl,rfl,rfl,Jb _,by simp,trivial⟩,by simp only[Eu,JG,lu,aU],rfl,rfl,rfl,rfl⟩
theorem Xm (xs:List DDeed) (k:Int) (hk:0≤k) (hx:fitS E8 xs) (hb:Dw Gv k xs≤4000000000000000000):wE prog 54 DDeed.c JO Gv xs (k):=by
 have hxl:=hx.1
 refine CM call54 func54 ntmps54 results54 fun hw=>?_
 simp only[go_sem]
 refine LoopK.mk 0 [0,1,5] (A:=Nat×Int) (Zh 271 DDeed.c JO Gv xs k) (HdX JO Gv xs k) (fun x=>xs.length-x.1) (0,k) ⟨⟨rfl,rfl⟩,rfl,HdX.start⟩ ?_
 rintro⟨i,k1⟩ hP
 simp only[go_sem,Zh,ae,IM]
 refine cndC.mk (fun h=>?_) (fun h=>?_)
 ·have hi:i<xs.length:=by simpa using h
  obtain⟨q2,q4,q5⟩:=hP.room hi MZ DDeed.c
  rw[QI] at q4
  have hle:=gm k1 xs[i]
  have hfx:=hx.2 _ (aj hi)
  rw[AAh] at q2
  simp only[go_sem,q2,IC,bD,aH,Ad,Int.reduceAdd,wz (n:=k1+1),wz (n:=k1+2),wz (n:=(i:Int)+1)]
  refine CallK.mk _ (Ja _ (k1+2) (by omega) hfx.1 (by show Ah k1 xs[i]≤_; omega)) fun _=>?_
  have hg1:=KH (x:=Ah k1 xs[i]) (by omega)
  simp only[go_sem,q2,IC,bD,aH,Ad,Int.reduceAdd,wz (n:=Ah k1 xs[i]+1),wz (n:=Ah k1 xs[i]+2),wz (n:=Ah k1 xs[i]+3),wz (n:=Ah k1 xs[i]+4),wz (n:=Ah k1 xs[i]+5),wz (n:=Ah k1 xs[i]+6),wz (n:=Ah k1 xs[i]+7),wz (n:=(i:Int)+1),G5,hg1]
  refine DrawK.mk ?_
  simp only[go_sem,q2,IC,bD,aH,Ad,Int.reduceAdd,wz (n:=Ah k1 xs[i]+1),wz (n:=Ah k1 xs[i]+2),wz (n:=Ah k1 xs[i]+3),wz (n:=Ah k1 xs[i]+4),wz (n:=Ah k1 xs[i]+5),wz (n:=Ah k1 xs[i]+6),wz (n:=Ah k1 xs[i]+7),wz (n:=(i:Int)+1),G5,hg1]
  refine CallF.mk _ (Dk (Ah k1 xs[i]+7) (by omega) (by omega)) ?_
  simp only[go_sem,q2,IC,bD,aH,Ad,Int.reduceAdd,wz (n:=Ah k1 xs[i]+8),wz (n:=(i:Int)+1),G5,hg1]
  refine CallK.mk _ (O3 _ (Ah k1 xs[i]+8) (by omega) (Eq.mp (BG _) hfx.2.1.1).2 (by show Fa k1 xs[i]≤_; omega)) fun _=>?_
  have hg2:=KH (x:=Fa k1 xs[i]) (by omega)
  simp only[go_sem,q2,IC,bD,aH,Ad,Int.reduceAdd,wz (n:=Fa k1 xs[i]+1),wz (n:=(i:Int)+1),G5,KJ,hg1,hg2]
  refine CallK.mk _ (IG _ (Fa k1 xs[i]+1) (by omega) hfx.2.1.2 (by show IR k1 xs[i]≤_; omega)) fun _=>?_
  have hg3:=KH (x:=IR k1 xs[i]) (by omega)
  simp only[go_sem,q2,IC,bD,aH,Ad,Int.reduceAdd,wz (n:=(i:Int)+1),G5,KJ,Nh,hg1,hg2,hg3]
  refine CallK.mk _ (Qn _ (IR k1 xs[i]) (by omega) hfx.2.2.1 (by show Af k1 xs[i]≤_; omega)) fun _=>?_
  have hg4:=KH (x:=Af k1 xs[i]) (by omega)
  simp only[go_sem,q2,IC,bD,aH,Ad,Int.reduceAdd,wz (n:=Af k1 xs[i]+1),wz (n:=Af k1 xs[i]+2),wz (n:=Af k1 xs[i]+3),wz (n:=Af k1 xs[i]+4),wz (n:=(i:Int)+1),G5,KJ,Nh,SV,hg1,hg2,hg3,hg4]
  refine DrawK.mk ?_
  simp only[go_sem,q2,IC,bD,aH,Ad,Int.reduceAdd,wz (n:=Af k1 xs[i]+1),wz (n:=Af k1 xs[i]+2),wz (n:=Af k1 xs[i]+3),wz (n:=Af k1 xs[i]+4),wz (n:=(i:Int)+1),G5,KJ,Nh,SV,hg1,hg2,hg3,hg4]
  refine CallF.mk _ (Dk (Af k1 xs[i]+4) (by omega) (by omega)) ?_
  simp only[go_sem,q2,IC,bD,aH,Ad,Int.reduceAdd,wz (n:=Af k1 xs[i]+5),wz (n:=Af k1 xs[i]+6),wz (n:=Af k1 xs[i]+7),wz (n:=Af k1 xs[i]+8),wz (n:=Af k1 xs[i]+9),wz (n:=Af k1 xs[i]+10),wz (n:=(i:Int)+1),G5,KJ,Nh,SV,hg1,hg2,hg3,hg4]
  refine⟨(i+1,Af k1 xs[i]+10),⟨rfl,rfl⟩,rfl,hP.step hi MZ, ?mu⟩
  case mu=>simp only; omega
 ·have:=hP.finL h
  subst this
  simp only[go_sem]
end Go.Proofs.YtnchiiikacemmaaGreat
