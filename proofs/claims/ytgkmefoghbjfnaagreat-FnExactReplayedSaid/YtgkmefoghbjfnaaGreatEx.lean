/- A part. -/
import Derived.Test.YtgkmefoghbjfnaaGreatBg
set_option linter.unusedSimpArgs false
set_option linter.unusedVariables false
set_option maxHeartbeats 2000000
set_option maxRecDepth 10000
open Go.Proofs.Tryz
namespace Go.Proofs.YtgkmefoghbjfnaaGreat
open Go.Vm
theorem Ko (l:List Int):Fe (l.map intC)=true:=Ak fun _=>rfl
theorem V4 (l:List Int):Fe (l.map byteC)=true:=Ak fun _=>rfl
theorem NL (l:List DVal):Fe (l.map DVal.c)=true:=Ak fun _=>rfl
theorem Qn (d:DRow):CQ d.o=true:=by
 rw[DRow.o_eq]
 simp[CQ,D5,NL]
theorem QC (l:List DRow):Fe (l.map DRow.o)=true:=Ak Qn
theorem Jr:∀ (n:Nat) (d:DPred),SizeOf.sizeOf d≤n→CQ d.o=true
 | 0,d,h=>by cases d; simp at h
 | n+1,d,h=>by
  have hm:Fe (d.l.map DPred.o)=true:=EN fun y hy=>by
   obtain⟨x,hx,rfl⟩:=cO.1 hy
   refine Jr n x ?_
   have h1:SizeOf.sizeOf x<SizeOf.sizeOf d.l:=eu hx
   have h2:SizeOf.sizeOf d.l<SizeOf.sizeOf d:=by cases d; simp[DPred.l]; omega
   omega
  rw[DPred.o_eq]
  simp[CQ,D5,hm,DVal.c_eq]
theorem Oe (d:DPred):CQ d.o=true:=Jr _ d (aQ _)
theorem Qo (l:List DPred):Fe (l.map DPred.o)=true:=Ak Oe
theorem Og (d:DSlot):CQ d.o=true:=by
 rw[DSlot.o_eq]
 simp[CQ,D5,NL]
theorem V5 (l:List DSlot):Fe (l.map DSlot.o)=true:=Ak Og
theorem Qp (d:DBuf):CQ d.o=true:=by
 rw[DBuf.o_eq]
 simp[CQ,D5,DChunk.o_eq,V5,V4]
theorem ZC (l:List DBuf):Fe (l.map DBuf.o)=true:=Ak Qp
theorem V6 (l:List DDead):Fe (l.map DDead.c)=true:=Ak fun _=>rfl
theorem QD (l:List DRef):Fe (l.map DRef.c)=true:=Ak fun _=>rfl
theorem h_ (d:DDir):CQ d.o=true:=by
 rw[DDir.o_eq]
 simp[CQ,D5,QD]
theorem Oh (d:DTask):CQ d.o=true:=by
 rw[DTask.o_eq]
 simp[CQ,D5,DPred.o_eq,DQuery.o_eq,DVal.c_eq,Qo,QD,QC,NL,Ko]
theorem V7 (l:List DTask):Fe (l.map DTask.o)=true:=Ak Oh
theorem Oi (d:DDeed):CQ d.o=true:=by
 rw[DDeed.o_eq]
 simp[CQ,D5,DPred.o_eq,DQuery.o_eq,DResult.o_eq,DVal.c_eq,Qo,QC,NL,Ko]
theorem V8 (l:List DDeed):Fe (l.map DDeed.o)=true:=Ak Oi
theorem Z8 (d:DConf):CQ d.o=true:=by
 rw[DConf.o_eq]
 simp[CQ,D5,Ko]
theorem X_ (d:DWorld):CQ d.o=true:=by
 rw[DWorld.o_eq]
 simp[CQ,D5,DConf.o_eq,DDir.o_eq,ZC,V6,V8,QD,V7,Ko]
theorem MJ (d:DTable):CQ d.o=true:=by
 rw[DTable.o_eq]
 simp[CQ,D5,QC,Ko]
theorem FK (xs:List Int) (k:Int) (hk:0≤k) (hx:xs.length≤1048576) (hb:C_ Ip k xs≤4000000000000000000):X9 prog 42 3 1 intC Vz Ip xs (k):=by
 have hxl:=hx
 refine MCtr.mk (fn:=f42) call42 func42 rfl mixed ntmps42 results42 (by kernel_rfl) rfl (.inr rfl) fun us hw0 hw=>?_
 simp only[go_sem]
 refine LoopK.mk 1 [0,1,5] (A:=Nat×List Int×Int) (mkS us 19 3 1 intC xs) (MkX Vz Ip xs k) (fun x=>xs.length-x.1) (0,[],k) ⟨⟨rfl,BX (Ak fun d=>rfl)⟩,rfl,MkX.start⟩ ?_
 rintro⟨i,dn,k1⟩ hP
 have hn:=hP.len
 simp only[go_sem,mkS,ae,hn]
 refine cndC.mk (fun h=>?_) (fun h=>?_)
 ·have hi:i<xs.length:=by simpa using h
  obtain⟨q2,q4,q5,q3⟩:=hP.room hi Fq intC
  have hst:=hP.set hi intC (Vz k1 xs[i])
  rw[show intC (Vz k1 xs[i]) = [.v (.int .i64 (k1))] from rfl] at hst
  have hset:=set_self (R:=(dn++xs.drop i).map intC) (i:=i) q3
  have q4:k1+1≤C_ Ip k xs:=q4
  rw[lM] at q2
  simp only[go_sem,q2,q3,hset,bZ,bu,Jh,A_,Int.reduceAdd,wz (n:=k1+1),wz (n:=(i:Int)+1)]
  rw[hst]
  refine⟨(i+1,dn ++ [Vz k1 xs[i]],k1+1),⟨rfl,BX (Ak fun d=>rfl)⟩,rfl,hP.step hi Fq, ?mu⟩
  case mu=>simp only; omega
 ·obtain⟨y1,y2⟩:=hP.finL h
  simp only[go_sem]
  rw[y1,y2]
  exact⟨[.ref 0],[.ow 3 1 _],[.c (.v (.int .i64 _))],rfl,.inr rfl,⟨rfl,rfl,rfl,rfl,AU _,by simp,trivial⟩,by simp only[CQ,D5,Ko,aH],rfl,rfl,rfl,rfl⟩
theorem SX (xs:List Int) (k:Int) (hk:0≤k) (hx:xs.length≤1048576) (hb:C_ Ip k xs≤4000000000000000000):yA prog 47 intC Vz Ip xs (k):=by
 have hxl:=hx
 refine CM call47 func47 ntmps47 results47 fun hw=>?_
 simp only[go_sem]
 refine LoopK.mk 0 [0,1,5] (A:=Nat×Int) (ru 21 intC Vz Ip xs k) (HdX Vz Ip xs k) (fun x=>xs.length-x.1) (0,k) ⟨⟨rfl,rfl⟩,rfl,HdX.start⟩ ?_
 rintro⟨i,k1⟩ hP
 simp only[go_sem,ru,ae,QB]
 refine cndC.mk (fun h=>?_) (fun h=>?_)
 ·have hi:i<xs.length:=by simpa using h
  obtain⟨q2,q4,q5⟩:=hP.room hi Fq intC
  have q4:k1+1≤C_ Ip k xs:=q4
  rw[show intC (Vz k1 xs[i]) = [.v (.int .i64 (k1))] from rfl] at q2
  simp only[go_sem,q2,Jh,aB,ax,A_,Int.reduceAdd,wz (n:=k1+1),wz (n:=(i:Int)+1)]
  refine⟨(i+1,k1+1),⟨rfl,rfl⟩,rfl,hP.step hi Fq, ?mu⟩
  case mu=>simp only; omega
 ·have:=hP.finL h
  subst this
  simp only[go_sem]
theorem UQ (xs:List Int) (k:Int) (hk:0≤k) (hx:xs.length≤1048576) (hb:C_ Ip k xs≤4000000000000000000):X9 prog 75 5 1 byteC pz Ip xs (k):=by
 have hxl:=hx
 refine MCtr.mk (fn:=f75) call75 func75 rfl mixed ntmps75 results75 (by kernel_rfl) rfl (.inr rfl) fun us hw0 hw=>?_
 simp only[go_sem]
 refine LoopK.mk 1 [0,1,5] (A:=Nat×List Int×Int) (mkS us 20 5 1 byteC xs) (MkX pz Ip xs k) (fun x=>xs.length-x.1) (0,[],k) ⟨⟨rfl,BX (Ak fun d=>rfl)⟩,rfl,MkX.start⟩ ?_
 rintro⟨i,dn,k1⟩ hP
 have hn:=hP.len
 simp only[go_sem,mkS,ae,hn]
 refine cndC.mk (fun h=>?_) (fun h=>?_)
 ·have hi:i<xs.length:=by simpa using h
  obtain⟨q2,q4,q5,q3⟩:=hP.room hi Fq byteC
  have hst:=hP.set hi byteC (pz k1 xs[i])
  rw[show byteC (pz k1 xs[i]) = [.v (.int .u8 (IntKind.u8.wrap (k1)))] from rfl] at hst
  have hset:=set_self (R:=(dn++xs.drop i).map byteC) (i:=i) q3
  have q4:k1+1≤C_ Ip k xs:=q4
  rw[g_] at q2
  simp only[go_sem,q2,q3,hset,bZ,bu,Jh,A_,Int.reduceAdd,wz (n:=k1+1),wz (n:=(i:Int)+1)]
  rw[hst]
  refine⟨(i+1,dn ++ [pz k1 xs[i]],k1+1),⟨rfl,BX (Ak fun d=>rfl)⟩,rfl,hP.step hi Fq, ?mu⟩
  case mu=>simp only; omega
 ·obtain⟨y1,y2⟩:=hP.finL h
  simp only[go_sem]
  rw[y1,y2]
  exact⟨[.ref 0],[.ow 5 1 _],[.c (.v (.int .i64 _))],rfl,.inr rfl,⟨rfl,rfl,rfl,rfl,QI _,by simp,trivial⟩,by simp only[CQ,D5,V4,aH],rfl,rfl,rfl,rfl⟩
def DI (k:Int) (x:DVal):Int:=k+3
def Gf (k:Int) (x:DVal):DVal:=⟨k,k+1,FP (k+2)⟩
theorem Qq (k:Int) (x:DVal):DI k x=k+3:=rfl
theorem ZE (k:Int) (x:DVal):(Gf k x).c = [.v (.int .i64 (k)),.v (.int .i64 (k+1)),.v (.string (FP (k+2)))]:=by rw[DVal.c_eq]; rfl
theorem Gg (k:Int) (x:DVal):k≤DI k x:=by unfold DI; omega
theorem NM (x:DVal) (k l:Int) (h0:0≤Ad x l) (hl:l≤1048576):DI k x+64*Ad x l≤k+64*l+64:=by
 have d1:=h0
 rw[D8] at d1
 obtain⟨a1_0,b1_0,e1_0⟩:=AX d1
 have w1_0:=(Bo a1_0 (by omega)).2
 have FC:Ad x l=(Di x.s.size l):=(D8 x l).trans (e1_0)
 rw[Qq,FC]; omega
theorem IQ (xs:List DVal) (k:Int) (hk:0≤k) (hx:fitS EK xs) (hb:C_ DI k xs≤4000000000000000000):X9 prog 76 75 3 DVal.c Gf DI xs (k):=by
 have hxl:=hx.1
 refine MCtr.mk (fn:=f76) call76 func76 rfl mixed ntmps76 results76 (by kernel_rfl) rfl (.inr rfl) fun us hw0 hw=>?_
 simp only[go_sem]
 refine LoopK.mk 1 [0,1,5] (A:=Nat×List DVal×Int) (mkS us 35 75 3 DVal.c xs) (MkX Gf DI xs k) (fun x=>xs.length-x.1) (0,[],k) ⟨⟨rfl,BX (Ak fun d=>rfl)⟩,rfl,MkX.start⟩ ?_
 rintro⟨i,dn,k1⟩ hP
 have hn:=hP.len
 simp only[go_sem,mkS,ae,hn]
 refine cndC.mk (fun h=>?_) (fun h=>?_)
 ·have hi:i<xs.length:=by simpa using h
  obtain⟨q2,q4,q5,q3⟩:=hP.room hi Gg DVal.c
  have hst:=hP.set hi DVal.c (Gf k1 xs[i])
  rw[ZE] at hst
  have hset:=set_self (R:=(dn++xs.drop i).map DVal.c) (i:=i) q3
  rw[Qq] at q4
  have hfx:=hx.2 _ (au hi)
  rw[DVal.c_eq] at q2
  try simp only[fA,bP] at q2
  simp only[go_sem,q2,q3,hset,bZ,bu,Jh,A_,Int.reduceAdd,wz (n:=k1+1),wz (n:=k1+2),wz (n:=(i:Int)+1)]
  refine CallK.mk _ (EI (k1+2) (by omega) (by omega)) fun _=>?_
  simp only[go_sem,q2,q3,hset,bZ,bu,Jh,A_,Int.reduceAdd,wz (n:=k1+3),wz (n:=(i:Int)+1)]
  rw[hst]
  refine⟨(i+1,dn ++ [Gf k1 xs[i]],k1+3),⟨rfl,BX (Ak fun d=>rfl)⟩,rfl,hP.step hi Gg, ?mu⟩
  case mu=>simp only; omega
 ·obtain⟨y1,y2⟩:=hP.finL h
  simp only[go_sem]
  rw[y1,y2]
  exact⟨[.ref 0],[.ow 75 3 _],[.c (.v (.int .i64 _))],rfl,.inr rfl,⟨rfl,rfl,rfl,rfl,BP _,by simp,trivial⟩,by simp only[CQ,D5,NL,aH],rfl,rfl,rfl,rfl⟩
theorem SY (xs:List DVal) (k:Int) (hk:0≤k) (hx:fitS EK xs) (hb:C_ DI k xs≤4000000000000000000):yA prog 79 DVal.c Gf DI xs (k):=by
 have hxl:=hx.1
 refine CM call79 func79 ntmps79 results79 fun hw=>?_
 simp only[go_sem]
 refine LoopK.mk 0 [0,1,5] (A:=Nat×Int) (ru 41 DVal.c Gf DI xs k) (HdX Gf DI xs k) (fun x=>xs.length-x.1) (0,k) ⟨⟨rfl,rfl⟩,rfl,HdX.start⟩ ?_
 rintro⟨i,k1⟩ hP
 simp only[go_sem,ru,ae,QB]
 refine cndC.mk (fun h=>?_) (fun h=>?_)
 ·have hi:i<xs.length:=by simpa using h
  obtain⟨q2,q4,q5⟩:=hP.room hi Gg DVal.c
  rw[Qq] at q4
  have hfx:=hx.2 _ (au hi)
  rw[ZE] at q2
  simp only[go_sem,q2,Jh,aB,ax,A_,Int.reduceAdd,wz (n:=k1+1),wz (n:=k1+2),wz (n:=(i:Int)+1)]
  refine DrawK.mk ?_
  simp only[go_sem,q2,Jh,aB,ax,A_,Int.reduceAdd,wz (n:=k1+1),wz (n:=k1+2),wz (n:=(i:Int)+1)]
  refine CallF.mk _ (EI (k1+2) (by omega) (by omega)) ?_
  simp only[go_sem,q2,Jh,aB,ax,A_,Int.reduceAdd,wz (n:=k1+3),wz (n:=(i:Int)+1)]
  refine⟨(i+1,k1+3),⟨rfl,rfl⟩,rfl,hP.step hi Gg, ?mu⟩
  case mu=>simp only; omega
 ·have:=hP.finL h
  subst this
  simp only[go_sem]
def NP (k:Int) (x:DRow):Int:=C_ DI (k+1) x.l
theorem iC (k:Int) (x:DRow):C_ DI (k+1) x.l=NP k x:=rfl
def D9 (k:Int) (x:DRow):Int:=NP k x
def mkRow (k:Int) (x:DRow):DRow:=⟨k,Ez Gf DI (k+1) x.l⟩
theorem NQ (k:Int) (x:DRow):D9 k x=NP k x:=rfl
theorem lN (k:Int) (x:DRow):(mkRow k x).c = [.v (.int .i64 (k)),.sl ((Ez Gf DI (k+1) x.l).map DVal.c)]:=by rw[DRow.c_eq]; rfl
theorem lQ (k:Int) (x:DRow):(mkRow k x).o = [.v (.int .i64 (k)),.ow 75 3 ((Ez Gf DI (k+1) x.l).map DVal.c)]:=by rw[DRow.o_eq]; rfl
theorem YA (k:Int) (x:DRow):k+1≤NP k x:=CS Gg _ _
theorem Hr (k:Int) (x:DRow):k≤D9 k x:=by have:=YA k x; unfold D9; omega
theorem V9 (x:DRow) (k l:Int) (h0:0≤EM x l) (hl:l≤1048576):D9 k x+64*EM x l≤k+64*l+64:=by
 have d1:=h0
 rw[NI] at d1
 obtain⟨a1_0,b1_0,e1_0⟩:=AX d1
 have w1_0:=(Bq x.l (fun x _=>Ba x) a1_0 (by omega)).2
 have FC:EM x l=(BZ Ad x.l l):=(NI x l).trans (e1_0)
 have:NP k x+64*(BZ Ad x.l l)≤k+1+64*l:=Fj _ (fun y _ k l a b=>⟨NM y k l a b,(Ba y l a b).2⟩) _ a1_0 (by omega)
 rw[NQ,FC]; omega
theorem Js (xs:List DRow) (k:Int) (hk:0≤k) (hx:fitS Ah xs) (hb:C_ D9 k xs≤4000000000000000000):X9 prog 46 147 2 DRow.o mkRow D9 xs (k):=by
 have hxl:=hx.1
 refine MCtr.mk (fn:=f46) call46 func46 rfl mixed ntmps46 results46 (by kernel_rfl) rfl (.inr rfl) fun us hw0 hw=>?_
 simp only[go_sem]
 refine LoopA.mk 1 0 [0,1,5] (A:=Nat×List DRow×Int) (mkS us 27 147 2 DRow.o xs) (MkX mkRow D9 xs k) (fun x=>xs.length-x.1) (0,[],k) ⟨⟨rfl,BX (Ak Qn)⟩,rfl,MkX.start⟩ ?_
 rintro⟨i,dn,k1⟩ hP
 have hn:=hP.len
 simp only[go_sem,mkS,ae,hn]
 refine cndC.mk (fun h=>?_) (fun h=>?_)
 ·have hi:i<xs.length:=by simpa using h
  obtain⟨q2,q4,q5,q3⟩:=hP.room hi Hr DRow.o
  have hst:=hP.set hi DRow.o (mkRow k1 xs[i])
  have hset:=set_self (R:=(dn++xs.drop i).map DRow.o) (i:=i) q3
  rw[NQ] at q4
  have hle:=YA k1 xs[i]
  have hfx:=hx.2 _ (au hi)
  rw[DRow.o_eq] at q2
  try simp only[fA,bP] at q2
  simp only[go_sem,q2,q3,hset,bZ,bu,Jh,A_,Int.reduceAdd,wz (n:=k1+1),wz (n:=(i:Int)+1)]
  refine MutX.mk (l:=1) (IQ _ (k1+1) (by omega) hfx (by show NP k1 xs[i]≤_; omega)) rfl ⟨rfl,rfl,rfl,rfl,BP _,by simp,trivial⟩ ?_
  simp only[go_sem,q2,q3,hset,bZ,bu,Jh,A_,Int.reduceAdd,wz (n:=(i:Int)+1),iC]
  refine⟨(i+1,dn ++ [mkRow k1 xs[i]],D9 k1 xs[i]),.inr ⟨i,(dn++xs.drop i).map DRow.o, ?rowr,DRow.o (mkRow k1 xs[i]), ?ob,⟨gX, ?e1, ?e2,q3, ?e3⟩, ?own,⟨rfl, ?tr⟩, ?eq⟩,hP.step hi Hr, ?mu⟩
  case e1=>exact rfl
  case e2=>exact rfl
  case e3=>exact rfl
  case own=>rw[lQ]; exact⟨rfl,rfl,rfl,rfl,rfl,rfl,BP _,by simp,fun l hl=>by omega⟩
  case eq=>unfold Am; rw[hst,NQ]; rfl
  case tr=>unfold Am; rw[hst]; exact BX (Ak Qn)
  case mu=>simp only; omega
 ·obtain⟨y1,y2⟩:=hP.finL h
  simp only[go_sem]
  rw[y1,y2]
  exact⟨[.ref 0],[.ow 147 2 _],[.c (.v (.int .i64 _))],rfl,.inr rfl,⟨rfl,rfl,rfl,rfl,AL _,by simp,trivial⟩,by simp only[CQ,D5,QC,aH],rfl,rfl,rfl,rfl⟩
theorem Si (xs:List DRow) (k:Int) (hk:0≤k) (hx:fitS Ah xs) (hb:C_ D9 k xs≤4000000000000000000):yA prog 48 DRow.c mkRow D9 xs (k):=by
 have hxl:=hx.1
 refine CM call48 func48 ntmps48 results48 fun hw=>?_
 simp only[go_sem]
 refine LoopK.mk 0 [0,1,5] (A:=Nat×Int) (ru 31 DRow.c mkRow D9 xs k) (HdX mkRow D9 xs k) (fun x=>xs.length-x.1) (0,k) ⟨⟨rfl,rfl⟩,rfl,HdX.start⟩ ?_
 rintro⟨i,k1⟩ hP
 simp only[go_sem,ru,ae,QB]
 refine cndC.mk (fun h=>?_) (fun h=>?_)
 ·have hi:i<xs.length:=by simpa using h
  obtain⟨q2,q4,q5⟩:=hP.room hi Hr DRow.c
  rw[NQ] at q4
  have hle:=YA k1 xs[i]
  have hfx:=hx.2 _ (au hi)
  rw[lN] at q2
  simp only[go_sem,q2,Jh,aB,ax,A_,Int.reduceAdd,wz (n:=k1+1),wz (n:=(i:Int)+1)]
  refine CallK.mk _ (SY _ (k1+1) (by omega) hfx (by show NP k1 xs[i]≤_; omega)) fun _=>?_
  have hg1:=p_ (x:=NP k1 xs[i]) (by omega)
  simp only[go_sem,q2,Jh,aB,ax,A_,Int.reduceAdd,wz (n:=(i:Int)+1),iC,hg1]
  refine⟨(i+1,NP k1 xs[i]),⟨rfl,rfl⟩,rfl,hP.step hi Hr, ?mu⟩
  case mu=>simp only; omega
 ·have:=hP.finL h
  subst this
  simp only[go_sem]
mutual
def BR:Int→DPred→Int
 | k,.mk _ _ _ _ l=>NR (k+6) l
def NR:Int→List DPred→Int
 | k,[]=>k
 | k,x::xs=>NR (BR k x) xs
end
mutual
def Dy:Int→DPred→DPred
 | k,.mk _ _ _ _ l=>DPred.mk (k) (k+1) (k+2) (⟨k+3,k+4,FP (k+5)⟩) (NS (k+6) l)
def NS:Int→List DPred→List DPred
 | k,[]=>[]
 | k,x::xs=>Dy k x::NS (BR k x) xs
end
theorem Qr:∀ (xs:List DPred) (k:Int),NR k xs=C_ BR k xs
 | [],k=>by simp only[NR,C_]
 | x::xs,k=>by simp only[NR,C_,Qr xs]
theorem Qs:∀ (xs:List DPred) (k:Int),NS k xs=Ez Dy BR k xs
 | [],k=>by simp only[NS,Ez]
 | x::xs,k=>by simp only[NS,Ez,Qs xs]
def Oj (k:Int) (x:DPred):Int:=C_ BR (k+6) x.l
theorem lS (k:Int) (x:DPred):C_ BR (k+6) x.l=Oj k x:=rfl
theorem Kq (k:Int) (x:DPred):BR k x=Oj k x:=by cases x; simp only[BR,Qr]; rfl
theorem Z9 (k:Int) (x:DPred):Dy k x=DPred.mk (k) (k+1) (k+2) (⟨k+3,k+4,FP (k+5)⟩) (Ez Dy BR (k+6) x.l):=by cases x; simp only[Dy,Qs]; rfl
theorem iD (k:Int) (x:DPred):(Dy k x).o = [.v (.int .i64 (k)),.v (.int .i64 (k+1)),.v (.int .i64 (k+2)),.v (.int .i64 (k+3)),.v (.int .i64 (k+4)),.v (.string (FP (k+5))),.ow 78 7 ((Ez Dy BR (k+6) x.l).map DPred.o)]:=by rw[Z9,DPred.o_eq]; rfl
theorem Qu:∀ (n:Nat) (x:DPred),SizeOf.sizeOf x≤n→∀ k,k≤BR k x
 | 0,x,h,k=>by cases x; simp at h
 | n+1,x,h,k=>by
  have h1:=ZA (c:=BR) x.l (fun y hy=>Qu n y (by
   have h1:SizeOf.sizeOf y<SizeOf.sizeOf x.l:=eu hy
   have h2:SizeOf.sizeOf x.l<SizeOf.sizeOf x:=by cases x; simp[DPred.l]; omega
   omega)) (k+6)
  rw[Kq,Oj]; omega
theorem Iw (k:Int) (x:DPred):k≤BR k x:=Qu _ x (aQ _) k
theorem lT (k:Int) (x:DPred):k+6≤Oj k x:=CS Iw _ _
theorem V_ (x:DPred) (hx:∀ y∈x.l,∀ k l,0≤Ar y l→l≤1048576→BR k y+64*Ar y l≤k+64*l+64) (k l:Int) (h0:0≤Ar x l) (hl:l≤1048576):BR k x+64*Ar x l≤k+64*l+64:=by
 have d1:=h0
 rw[FI] at d1
 obtain⟨a1_0,b1_0,e1_0⟩:=AX d1
 have w1_0:=(Ba x.v _ a1_0 (by omega)).2
 have d2:=a1_0
 rw[D8] at d2
 obtain⟨a2_0,b2_0,e2_0⟩:=AX d2
 have w2_0:=(Bo a2_0 (by omega)).2
 have eq2:Ad x.v l=(Di x.v.s.size l):=(D8 x.v l).trans (e2_0)
 obtain⟨a1_1,b1_1,e1_1⟩:=AX b1_0
 have w1_1:=(Bq x.l (fun x _=>Dx x) a1_1 (by omega)).2
 have FC:Ar x l=(BZ Ar x.l (Ad x.v l)):=(FI x l).trans ((e1_0).trans (e1_1))
 have:Oj k x+64*(BZ Ar x.l (Ad x.v l))≤k+6+64*(Ad x.v l):=Fj _ (fun y hy k l a b=>⟨hx y hy k l a b,(Dx y l a b).2⟩) _ a1_1 (by omega)
 rw[Kq,FC]; omega
theorem Qv:∀ (n:Nat) (x:DPred),SizeOf.sizeOf x≤n→∀ k l,0≤Ar x l→l≤1048576→BR k x+64*Ar x l≤k+64*l+64
 | 0,x,h=>by cases x; simp at h
 | n+1,x,h=>V_ x fun y hy=>Qv n y (by
  have h1:SizeOf.sizeOf y<SizeOf.sizeOf x.l:=eu hy
  have h2:SizeOf.sizeOf x.l<SizeOf.sizeOf x:=by cases x; simp[DPred.l]; omega
  omega)
theorem TL (x:DPred) (k l:Int) (h0:0≤Ar x l) (hl:l≤1048576):BR k x+64*Ar x l≤k+64*l+64:=Qv _ x (aQ _) k l h0 hl
theorem NT (xs:List DPred) (hr:∀ x∈xs,∀ k,0≤k→fitS BF x.l→C_ BR k x.l≤4000000000000000000→X9 prog 78 78 7 DPred.o Dy BR x.l (k)) (k:Int) (hk:0≤k) (hx:fitS BF xs) (hb:C_ BR k xs≤4000000000000000000):X9 prog 78 78 7 DPred.o Dy BR xs (k):=by
 have hxl:=hx.1
 refine MCtr.mk (fn:=f78) call78 func78 rfl mixed ntmps78 results78 (by kernel_rfl) rfl (.inr rfl) fun us hw0 hw=>?_
 simp only[go_sem]
 refine LoopA.mk 1 0 [0,1,5] (A:=Nat×List DPred×Int) (mkS us 66 78 7 DPred.o xs) (MkX Dy BR xs k) (fun x=>xs.length-x.1) (0,[],k) ⟨⟨rfl,BX (Ak Oe)⟩,rfl,MkX.start⟩ ?_
 rintro⟨i,dn,k1⟩ hP
 have hn:=hP.len
 simp only[go_sem,mkS,ae,hn]
 refine cndC.mk (fun h=>?_) (fun h=>?_)
 ·have hi:i<xs.length:=by simpa using h
  obtain⟨q2,q4,q5,q3⟩:=hP.room hi Iw DPred.o
  have hst:=hP.set hi DPred.o (Dy k1 xs[i])
  have hset:=set_self (R:=(dn++xs.drop i).map DPred.o) (i:=i) q3
  rw[Kq] at q4
  have hle:=lT k1 xs[i]
  have hfx:=hx.2 _ (au hi)
  rw[DPred.o_eq] at q2
  simp only[DVal.c_eq,fA,bP] at q2
  simp only[go_sem,q2,q3,hset,bZ,bu,Jh,A_,Int.reduceAdd,wz (n:=k1+1),wz (n:=k1+2),wz (n:=k1+3),wz (n:=k1+4),wz (n:=k1+5),wz (n:=(i:Int)+1)]
  refine CallK.mk _ (EI (k1+5) (by omega) (by omega)) fun _=>?_
  simp only[go_sem,q2,q3,hset,bZ,bu,Jh,A_,Int.reduceAdd,wz (n:=k1+6),wz (n:=(i:Int)+1)]
  refine MutX.mk (l:=1) (hr xs[i] (au hi) (k1+6) (by omega) (Eq.mp (Bi _) hfx).2 (by show Oj k1 xs[i]≤_; omega)) rfl ⟨rfl,rfl,rfl,rfl,CV _,by simp,trivial⟩ ?_
  simp only[go_sem,q2,q3,hset,bZ,bu,Jh,A_,Int.reduceAdd,wz (n:=(i:Int)+1),lS]
  refine⟨(i+1,dn ++ [Dy k1 xs[i]],BR k1 xs[i]),.inr ⟨i,(dn++xs.drop i).map DPred.o, ?rowr,DPred.o (Dy k1 xs[i]), ?ob,⟨gX, ?e1, ?e2,q3, ?e3⟩, ?own,⟨rfl, ?tr⟩, ?eq⟩,hP.step hi Iw, ?mu⟩
  case e1=>exact rfl
  case e2=>exact rfl
  case e3=>exact rfl
  case own=>rw[iD]; exact⟨rfl,rfl,rfl,rfl,rfl,rfl,rfl,rfl,rfl,rfl,rfl,rfl,rfl,rfl,rfl,rfl,CV _,by simp,fun l hl=>by omega⟩
  case eq=>unfold Am; rw[hst,Kq]; rfl
  case tr=>unfold Am; rw[hst]; exact BX (Ak Oe)
  case mu=>simp only; omega
 ·obtain⟨y1,y2⟩:=hP.finL h
  simp only[go_sem]
  rw[y1,y2]
  exact⟨[.ref 0],[.ow 78 7 _],[.c (.v (.int .i64 _))],rfl,.inr rfl,⟨rfl,rfl,rfl,rfl,CV _,by simp,trivial⟩,by simp only[CQ,D5,Qo,aH],rfl,rfl,rfl,rfl⟩
theorem PW:∀ (n:Nat) (xs:List DPred),(∀ x∈xs,SizeOf.sizeOf x≤n)→∀ (k:Int),0≤k→fitS BF xs→C_ BR k xs≤4000000000000000000→X9 prog 78 78 7 DPred.o Dy BR xs (k)
 | 0,xs,h,k,h1,h2,h3=>NT xs (fun x hx=>by have:=h x hx; cases x; simp at this) k h1 h2 h3
 | n+1,xs,h,k,h1,h2,h3=>NT xs (fun x hx k g1 g2 g3=>PW n x.l (fun y hy=>by
   have h1:SizeOf.sizeOf y<SizeOf.sizeOf x.l:=eu hy
   have h2:SizeOf.sizeOf x.l<SizeOf.sizeOf x:=by cases x; simp[DPred.l]; omega
   have:=h x hx
   omega) k g1 g2 g3) k h1 h2 h3
theorem NU (xs:List DPred) (k:Int) (hk:0≤k) (hx:fitS BF xs) (hb:C_ BR k xs≤4000000000000000000):X9 prog 78 78 7 DPred.o Dy BR xs (k):=PW (SizeOf.sizeOf xs) xs (fun x hx=>Nat.le_of_lt (eu hx)) k hk hx hb
def Ol (k:Int) (x:DSlot):Int:=C_ DI (k+1) x.l
theorem lU (k:Int) (x:DSlot):C_ DI (k+1) x.l=Ol k x:=rfl
def Gt (k:Int) (x:DSlot):Int:=Ol k x
def Jt (k:Int) (x:DSlot):DSlot:=⟨k,Ez Gf DI (k+1) x.l⟩
theorem Om (k:Int) (x:DSlot):Gt k x=Ol k x:=rfl
theorem iE (k:Int) (x:DSlot):(Jt k x).o = [.v (.int .i64 (k)),.ow 75 3 ((Ez Gf DI (k+1) x.l).map DVal.c)]:=by rw[DSlot.o_eq]; rfl
theorem ZF (k:Int) (x:DSlot):k+1≤Ol k x:=CS Gg _ _
theorem Oo (k:Int) (x:DSlot):k≤Gt k x:=by have:=ZF k x; unfold Gt; omega
theorem Z_ (x:DSlot) (k l:Int) (h0:0≤ER x l) (hl:l≤1048576):Gt k x+64*ER x l≤k+64*l+64:=by
 have d1:=h0
 rw[KW] at d1
 obtain⟨a1_0,b1_0,e1_0⟩:=AX d1
 have w1_0:=(Bq x.l (fun x _=>Ba x) a1_0 (by omega)).2
 have FC:ER x l=(BZ Ad x.l l):=(KW x l).trans (e1_0)
 have:Ol k x+64*(BZ Ad x.l l)≤k+1+64*l:=Fj _ (fun y _ k l a b=>⟨NM y k l a b,(Ba y l a b).2⟩) _ a1_0 (by omega)
 rw[Om,FC]; omega
theorem UR (xs:List DSlot) (k:Int) (hk:0≤k) (hx:fitS JJ xs) (hb:C_ Gt k xs≤4000000000000000000):X9 prog 74 197 2 DSlot.o Jt Gt xs (k):=by
 have hxl:=hx.1
 refine MCtr.mk (fn:=f74) call74 func74 rfl mixed ntmps74 results74 (by kernel_rfl) rfl (.inr rfl) fun us hw0 hw=>?_
 simp only[go_sem]
 refine LoopA.mk 1 0 [0,1,5] (A:=Nat×List DSlot×Int) (mkS us 27 197 2 DSlot.o xs) (MkX Jt Gt xs k) (fun x=>xs.length-x.1) (0,[],k) ⟨⟨rfl,BX (Ak Og)⟩,rfl,MkX.start⟩ ?_
 rintro⟨i,dn,k1⟩ hP
 have hn:=hP.len
 simp only[go_sem,mkS,ae,hn]
 refine cndC.mk (fun h=>?_) (fun h=>?_)
 ·have hi:i<xs.length:=by simpa using h
  obtain⟨q2,q4,q5,q3⟩:=hP.room hi Oo DSlot.o
  have hst:=hP.set hi DSlot.o (Jt k1 xs[i])
  have hset:=set_self (R:=(dn++xs.drop i).map DSlot.o) (i:=i) q3
  rw[Om] at q4
  have hle:=ZF k1 xs[i]
  have hfx:=hx.2 _ (au hi)
  rw[DSlot.o_eq] at q2
  try simp only[fA,bP] at q2
  simp only[go_sem,q2,q3,hset,bZ,bu,Jh,A_,Int.reduceAdd,wz (n:=k1+1),wz (n:=(i:Int)+1)]
  refine MutX.mk (l:=1) (IQ _ (k1+1) (by omega) hfx (by show Ol k1 xs[i]≤_; omega)) rfl ⟨rfl,rfl,rfl,rfl,BP _,by simp,trivial⟩ ?_
  simp only[go_sem,q2,q3,hset,bZ,bu,Jh,A_,Int.reduceAdd,wz (n:=(i:Int)+1),lU]
  refine⟨(i+1,dn ++ [Jt k1 xs[i]],Gt k1 xs[i]),.inr ⟨i,(dn++xs.drop i).map DSlot.o, ?rowr,DSlot.o (Jt k1 xs[i]), ?ob,⟨gX, ?e1, ?e2,q3, ?e3⟩, ?own,⟨rfl, ?tr⟩, ?eq⟩,hP.step hi Oo, ?mu⟩
  case e1=>exact rfl
  case e2=>exact rfl
  case e3=>exact rfl
  case own=>rw[iE]; exact⟨rfl,rfl,rfl,rfl,rfl,rfl,BP _,by simp,fun l hl=>by omega⟩
  case eq=>unfold Am; rw[hst,Om]; rfl
  case tr=>unfold Am; rw[hst]; exact BX (Ak Og)
  case mu=>simp only; omega
 ·obtain⟨y1,y2⟩:=hP.finL h
  simp only[go_sem]
  rw[y1,y2]
  exact⟨[.ref 0],[.ow 197 2 _],[.c (.v (.int .i64 _))],rfl,.inr rfl,⟨rfl,rfl,rfl,rfl,Nk _,by simp,trivial⟩,by simp only[CQ,D5,V5,aH],rfl,rfl,rfl,rfl⟩
def Ju (k:Int) (x:DBuf):Int:=C_ Gt (k+3) x.c0.l
theorem iF (k:Int) (x:DBuf):C_ Gt (k+3) x.c0.l=Ju k x:=rfl
def TM (k:Int) (x:DBuf):Int:=C_ Ip (Ju k x) x.g
theorem qC (k:Int) (x:DBuf):C_ Ip (Ju k x) x.g=TM k x:=rfl
def Jv (k:Int) (x:DBuf):Int:=TM k x
def Qw (k:Int) (x:DBuf):DBuf:=⟨k,k+1,⟨k+2,Ez Jt Gt (k+3) x.c0.l⟩,Ez pz Ip (Ju k x) x.g⟩
theorem Qx (k:Int) (x:DBuf):Jv k x=TM k x:=rfl
theorem lV (k:Int) (x:DBuf):(Qw k x).o = [.v (.int .i64 (k)),.v (.int .i64 (k+1)),.v (.int .i64 (k+2)),.ow 197 2 ((Ez Jt Gt (k+3) x.c0.l).map DSlot.o),.ow 5 1 ((Ez pz Ip (Ju k x) x.g).map byteC)]:=by rw[DBuf.o_eq]; rfl
theorem iG (k:Int) (x:DBuf):k+3≤Ju k x∧Ju k x≤TM k x:=⟨CS Oo _ _,CS Fq _ _⟩
theorem Qy (k:Int) (x:DBuf):k≤Jv k x:=by have:=iG k x; unfold Jv; omega
theorem iH (x:DBuf) (k l:Int) (h0:0≤Dp x l) (hl:l≤1048576):Jv k x+64*Dp x l≤k+64*l+64:=by
 have d1:=h0
 rw[NJ] at d1
 obtain⟨a1_0,b1_0,e1_0⟩:=AX d1
 have w1_0:=(PV x.c0 _ a1_0 (by omega)).2
 have d2:=a1_0
 rw[JH] at d2
 obtain⟨a2_0,b2_0,e2_0⟩:=AX d2
 have w2_0:=(Bq x.c0.l (fun x _=>MF x) a2_0 (by omega)).2
 have eq2:F9 x.c0 l=(BZ ER x.c0.l l):=(JH x.c0 l).trans (e2_0)
 obtain⟨a1_1,b1_1,e1_1⟩:=AX b1_0
 have w1_1:=(Bo a1_1 (by omega)).2
 have FC:Dp x l=(Di x.g.length (F9 x.c0 l)):=(NJ x l).trans ((e1_0).trans (e1_1))
 have:Ju k x+64*(BZ ER x.c0.l l)≤k+3+64*l:=Fj _ (fun y _ k l a b=>⟨Z_ y k l a b,(MF y l a b).2⟩) _ a2_0 (by omega)
 have:TM k x+64*(Di x.g.length (F9 x.c0 l))≤Ju k x+64*(F9 x.c0 l):=JG MB _ _ _ a1_1
 rw[Qx,FC]; omega
theorem WA (xs:List DBuf) (k:Int) (hk:0≤k) (hx:fitS MG xs) (hb:C_ Jv k xs≤4000000000000000000):X9 prog 41 133 5 DBuf.o Qw Jv xs (k):=by
 have hxl:=hx.1
 refine MCtr.mk (fn:=f41) call41 func41 rfl mixed ntmps41 results41 (by kernel_rfl) rfl (.inr rfl) fun us hw0 hw=>?_
 simp only[go_sem]
 refine LoopA.mk 1 0 [0,1,5] (A:=Nat×List DBuf×Int) (mkS us 50 133 5 DBuf.o xs) (MkX Qw Jv xs k) (fun x=>xs.length-x.1) (0,[],k) ⟨⟨rfl,BX (Ak Qp)⟩,rfl,MkX.start⟩ ?_
 rintro⟨i,dn,k1⟩ hP
 have hn:=hP.len
 simp only[go_sem,mkS,ae,hn]
 refine cndC.mk (fun h=>?_) (fun h=>?_)
 ·have hi:i<xs.length:=by simpa using h
  obtain⟨q2,q4,q5,q3⟩:=hP.room hi Qy DBuf.o
  have hst:=hP.set hi DBuf.o (Qw k1 xs[i])
  have hset:=set_self (R:=(dn++xs.drop i).map DBuf.o) (i:=i) q3
  rw[Qx] at q4
  have hle:=iG k1 xs[i]
  have hfx:=hx.2 _ (au hi)
  rw[DBuf.o_eq] at q2
  simp only[DChunk.o_eq,fA,bP] at q2
  simp only[go_sem,q2,q3,hset,bZ,bu,Jh,A_,Int.reduceAdd,wz (n:=k1+1),wz (n:=k1+2),wz (n:=k1+3),wz (n:=(i:Int)+1)]
  refine MutX.mk (l:=1) (UR _ (k1+3) (by omega) hfx.1 (by show Ju k1 xs[i]≤_; omega)) rfl ⟨rfl,rfl,rfl,rfl,Nk _,by simp,trivial⟩ ?_
  simp only[go_sem,q2,q3,hset,bZ,bu,Jh,A_,Int.reduceAdd,wz (n:=(i:Int)+1),iF]
  refine MutX.mk (l:=2) (UQ _ (Ju k1 xs[i]) (by omega) hfx.2 (by show TM k1 xs[i]≤_; omega)) rfl ⟨rfl,rfl,rfl,rfl,QI _,by simp,trivial⟩ ?_
  simp only[go_sem,q2,q3,hset,bZ,bu,Jh,A_,Int.reduceAdd,wz (n:=(i:Int)+1),iF,qC]
  refine⟨(i+1,dn ++ [Qw k1 xs[i]],Jv k1 xs[i]),.inr ⟨i,(dn++xs.drop i).map DBuf.o, ?rowr,DBuf.o (Qw k1 xs[i]), ?ob,⟨gX, ?e1, ?e2,q3, ?e3⟩, ?own,⟨rfl, ?tr⟩, ?eq⟩,hP.step hi Qy, ?mu⟩
  case e1=>exact rfl
  case e2=>exact rfl
  case e3=>exact rfl
  case own=>rw[lV]; exact⟨rfl,rfl,rfl,rfl,rfl,rfl,rfl,rfl,rfl,rfl,Nk _,by simp,rfl,rfl,rfl,rfl,QI _,by simp,fun l hl=>by omega⟩
  case eq=>unfold Am; rw[hst,Qx]; rfl
  case tr=>unfold Am; rw[hst]; exact BX (Ak Qp)
  case mu=>simp only; omega
 ·obtain⟨y1,y2⟩:=hP.finL h
  simp only[go_sem]
  rw[y1,y2]
  exact⟨[.ref 0],[.ow 133 5 _],[.c (.v (.int .i64 _))],rfl,.inr rfl,⟨rfl,rfl,rfl,rfl,RN _,by simp,trivial⟩,by simp only[CQ,D5,ZC,aH],rfl,rfl,rfl,rfl⟩
def Ht (k:Int) (x:DDead):Int:=k+3
def Oq (k:Int) (x:DDead):DDead:=⟨k,k+1,k+2⟩
theorem a_ (k:Int) (x:DDead):Ht k x=k+3:=rfl
theorem iI (k:Int) (x:DDead):(Oq k x).c = [.v (.int .i64 (k)),.v (.int .i64 (k+1)),.v (.int .i64 (k+2))]:=by rw[DDead.c_eq]; rfl
theorem Ot (k:Int) (x:DDead):k≤Ht k x:=by unfold Ht; omega
theorem b_ (k:Int) (x:DDead):Ht k x≤k+64:=by unfold Ht; omega
theorem UT (xs:List DDead) (k:Int) (hk:0≤k) (hx:xs.length≤1048576) (hb:C_ Ht k xs≤4000000000000000000):X9 prog 43 136 3 DDead.c Oq Ht xs (k):=by
 have hxl:=hx
 refine MCtr.mk (fn:=f43) call43 func43 rfl mixed ntmps43 results43 (by kernel_rfl) rfl (.inr rfl) fun us hw0 hw=>?_
 simp only[go_sem]
 refine LoopK.mk 1 [0,1,5] (A:=Nat×List DDead×Int) (mkS us 34 136 3 DDead.c xs) (MkX Oq Ht xs k) (fun x=>xs.length-x.1) (0,[],k) ⟨⟨rfl,BX (Ak fun d=>rfl)⟩,rfl,MkX.start⟩ ?_
 rintro⟨i,dn,k1⟩ hP
 have hn:=hP.len
 simp only[go_sem,mkS,ae,hn]
 refine cndC.mk (fun h=>?_) (fun h=>?_)
 ·have hi:i<xs.length:=by simpa using h
  obtain⟨q2,q4,q5,q3⟩:=hP.room hi Ot DDead.c
  have hst:=hP.set hi DDead.c (Oq k1 xs[i])
  rw[iI] at hst
  have hset:=set_self (R:=(dn++xs.drop i).map DDead.c) (i:=i) q3
  rw[a_] at q4
  rw[DDead.c_eq] at q2
  try simp only[fA,bP] at q2
  simp only[go_sem,q2,q3,hset,bZ,bu,Jh,A_,Int.reduceAdd,wz (n:=k1+1),wz (n:=k1+2),wz (n:=k1+3),wz (n:=(i:Int)+1)]
  rw[hst]
  refine⟨(i+1,dn ++ [Oq k1 xs[i]],k1+3),⟨rfl,BX (Ak fun d=>rfl)⟩,rfl,hP.step hi Ot, ?mu⟩
  case mu=>simp only; omega
 ·obtain⟨y1,y2⟩:=hP.finL h
  simp only[go_sem]
  rw[y1,y2]
  exact⟨[.ref 0],[.ow 136 3 _],[.c (.v (.int .i64 _))],rfl,.inr rfl,⟨rfl,rfl,rfl,rfl,QJ _,by simp,trivial⟩,by simp only[CQ,D5,V6,aH],rfl,rfl,rfl,rfl⟩
def Hu (k:Int) (x:DRef):Int:=k+5
def mkRef (k:Int) (x:DRef):DRef:=⟨k,k+1,k+2,k+3,k+4⟩
theorem iJ (k:Int) (x:DRef):Hu k x=k+5:=rfl
theorem lW (k:Int) (x:DRef):(mkRef k x).c = [.v (.int .i64 (k)),.v (.int .i64 (k+1)),.v (.int .i64 (k+2)),.v (.int .i64 (k+3)),.v (.int .i64 (k+4))]:=by rw[DRef.c_eq]; rfl
theorem NV (k:Int) (x:DRef):k≤Hu k x:=by unfold Hu; omega
theorem WB (k:Int) (x:DRef):Hu k x≤k+64:=by unfold Hu; omega
theorem PX (xs:List DRef) (k:Int) (hk:0≤k) (hx:xs.length≤1048576) (hb:C_ Hu k xs≤4000000000000000000):X9 prog 73 172 5 DRef.c mkRef Hu xs (k):=by
 have hxl:=hx
 refine MCtr.mk (fn:=f73) call73 func73 rfl mixed ntmps73 results73 (by kernel_rfl) rfl (.inr rfl) fun us hw0 hw=>?_
 simp only[go_sem]
 refine LoopK.mk 1 [0,1,5] (A:=Nat×List DRef×Int) (mkS us 48 172 5 DRef.c xs) (MkX mkRef Hu xs k) (fun x=>xs.length-x.1) (0,[],k) ⟨⟨rfl,BX (Ak fun d=>rfl)⟩,rfl,MkX.start⟩ ?_
 rintro⟨i,dn,k1⟩ hP
 have hn:=hP.len
 simp only[go_sem,mkS,ae,hn]
 refine cndC.mk (fun h=>?_) (fun h=>?_)
 ·have hi:i<xs.length:=by simpa using h
  obtain⟨q2,q4,q5,q3⟩:=hP.room hi NV DRef.c
  have hst:=hP.set hi DRef.c (mkRef k1 xs[i])
  rw[lW] at hst
  have hset:=set_self (R:=(dn++xs.drop i).map DRef.c) (i:=i) q3
  rw[iJ] at q4
  rw[DRef.c_eq] at q2
  try simp only[fA,bP] at q2
  simp only[go_sem,q2,q3,hset,bZ,bu,Jh,A_,Int.reduceAdd,wz (n:=k1+1),wz (n:=k1+2),wz (n:=k1+3),wz (n:=k1+4),wz (n:=k1+5),wz (n:=(i:Int)+1)]
  rw[hst]
  refine⟨(i+1,dn ++ [mkRef k1 xs[i]],k1+5),⟨rfl,BX (Ak fun d=>rfl)⟩,rfl,hP.step hi NV, ?mu⟩
  case mu=>simp only; omega
 ·obtain⟨y1,y2⟩:=hP.finL h
  simp only[go_sem]
  rw[y1,y2]
  exact⟨[.ref 0],[.ow 172 5 _],[.c (.v (.int .i64 _))],rfl,.inr rfl,⟨rfl,rfl,rfl,rfl,Ik _,by simp,trivial⟩,by simp only[CQ,D5,QD,aH],rfl,rfl,rfl,rfl⟩
end Go.Proofs.YtgkmefoghbjfnaaGreat
