/- A part. -/
import Derived.Test.YthmifbbmgnhddaaGreatBg
set_option linter.unusedSimpArgs false
set_option linter.unusedVariables false
set_option maxHeartbeats 2000000
set_option maxRecDepth 10000
open Go.Proofs.Tryz
namespace Go.Proofs.YthmifbbmgnhddaaGreat
open Go.Vm
section
variable {p q r:Prop}
theorem ASh(h:p:=by kernel_rfl):p:=h
end
theorem Qd (l:List Int):JD (l.map intC)=true:=BK fun _=>rfl
theorem wF (l:List Int):JD (l.map byteC)=true:=BK fun _=>rfl
theorem WJ (l:List DVal):JD (l.map DVal.c)=true:=BK fun _=>rfl
theorem fV (d:DRow):EP d.o=true:=by
 rw[DRow.o_eq]
 simp[EP,Hr,WJ]
theorem dH (l:List DRow):JD (l.map DRow.o)=true:=BK fV
theorem SL:∀ (n:Nat) (d:DPred),SizeOf.sizeOf d≤n→EP d.o=true
 | 0,d,h=>ASA
 | n+1,d,h=>by
  have hm:JD (d.l.map DPred.o)=true:=Il fun y hy=>by
   obtain⟨x,hx,rfl⟩:=UT.1 hy
   refine SL n x ?_
   exact AO_
  rw[DPred.o_eq]
  simp[EP,Hr,hm,DVal.c_eq]
theorem UH (d:DPred):EP d.o=true:=SL _ d (aI _)
theorem WL (l:List DPred):JD (l.map DPred.o)=true:=BK UH
theorem AAt (d:DQuery):EP d.o=true:=by
 rw[DQuery.o_eq]
 simp[EP,Hr,DPred.o_eq,DVal.c_eq,WL,Qd]
theorem YD (d:DSlot):EP d.o=true:=by
 rw[DSlot.o_eq]
 simp[EP,Hr,WJ]
theorem wG (l:List DSlot):JD (l.map DSlot.o)=true:=BK YD
theorem fZ (d:DBuf):EP d.o=true:=by
 rw[DBuf.o_eq]
 simp[EP,Hr,DChunk.o_eq,wG,wF]
theorem ACN (l:List DBuf):JD (l.map DBuf.o)=true:=BK fZ
theorem wH (l:List DDead):JD (l.map DDead.c)=true:=BK fun _=>rfl
theorem dI (l:List DRef):JD (l.map DRef.c)=true:=BK fun _=>rfl
theorem AFL (d:DDir):EP d.o=true:=by
 rw[DDir.o_eq]
 simp[EP,Hr,dI]
theorem YE (d:DTask):EP d.o=true:=by
 rw[DTask.o_eq]
 simp[EP,Hr,DPred.o_eq,DQuery.o_eq,DVal.c_eq,WL,dI,dH,WJ,Qd]
theorem wI (l:List DTask):JD (l.map DTask.o)=true:=BK YE
theorem YF (d:DDeed):EP d.o=true:=by
 rw[DDeed.o_eq]
 simp[EP,Hr,DPred.o_eq,DQuery.o_eq,DResult.o_eq,DVal.c_eq,WL,dH,WJ,Qd]
theorem wJ (l:List DDeed):JD (l.map DDeed.o)=true:=BK YF
theorem ADj (d:DConf):EP d.o=true:=by
 rw[DConf.o_eq]
 simp[EP,Hr,Qd]
theorem OV (d:DWorld):EP d.o=true:=by
 rw[DWorld.o_eq]
 simp[EP,Hr,DConf.o_eq,DDir.o_eq,ACN,wH,wJ,dI,wI,Qd]
theorem J9 (xs:List Int) (k:Int) (hk:0≤k) (hx:xs.length≤1048576) (hb:Eh NH k xs≤4000000000000000000):MkE prog 66 3 1 intC pX NH xs (k):=by
 have hxl:=hx
 refine ACf (fn:=f66) call66 func66 rfl mixed ntmps66 results66 ASh rfl (.inr rfl) fun us hw0 hw=>?_
 simp only[go_sem]
 refine AAa 1 [0,1,5] (A:=Nat×List Int×Int) (mkS us 19 3 1 intC xs) (MkX pX NH xs k) (fun x=>xs.length-x.1) (0,[],k) ⟨⟨rfl,Dn (BK fun d=>rfl)⟩,rfl,MkX.start⟩ ?_
 rintro⟨i,dn,k1⟩ hP
 have hn:=hP.len
 refine AQz (fun h=>?_) fun h=>?_
 ·have hi:i<xs.length:=by simpa using h
  obtain⟨q2,q4,q5,q3⟩:=hP.room hi Jt intC
  have hst:=hP.set hi intC (pX k1 xs[i])
  rw[show intC (pX k1 xs[i]) = [.v (.int .i64 (k1))] from rfl] at hst
  have hset:=set_self (R:=(dn++xs.drop i).map intC) (i:=i) q3
  have q4:k1+1≤Eh NH k xs:=q4
  rw[ACK] at q2
  simp only[go_sem,q2,q3,hset,dh,bi,Jd,Ag,Int.reduceAdd,wz (n:=k1+1),wz (n:=(i:Int)+1)]
  rw[hst]
  refine⟨(i+1,dn ++ [pX k1 xs[i]],k1+1),⟨rfl,Dn (BK fun d=>rfl)⟩,rfl,hP.step hi Jt, ?mu⟩
  case mu=>simp only; omega
 ·obtain⟨y1,y2⟩:=hP.finL h
  simp only[go_sem]
  rw[y1,y2]
  exact⟨[.ref 0],[.ow 3 1 _],[.c (.v (.int .i64 _))],rfl,.inr rfl,⟨rfl,rfl,rfl,rfl,AX _,AQ3,trivial⟩,by simp only[EP,Hr,Qd,aF],rfl,rfl,rfl,rfl⟩
theorem Je (xs:List Int) (k:Int) (hk:0≤k) (hx:xs.length≤1048576) (hb:Eh NH k xs≤4000000000000000000):HdE prog 74 intC pX NH xs (k):=by
 have hxl:=hx
 refine CM call74 func74 ntmps74 results74 fun hw=>?_
 simp only[go_sem]
 refine AAa 0 [0,1,5] (A:=Nat×Int) (lK 21 intC pX NH xs k) (HdX pX NH xs k) (fun x=>xs.length-x.1) (0,k) ⟨⟨rfl,rfl⟩,rfl,HdX.start⟩ ?_
 rintro⟨i,k1⟩ hP
 refine AQ0 (fun h=>?_) fun h=>?_
 ·have hi:i<xs.length:=by simpa using h
  obtain⟨q2,q4,q5⟩:=hP.room hi Jt intC
  have q4:k1+1≤Eh NH k xs:=q4
  rw[show intC (pX k1 xs[i]) = [.v (.int .i64 (k1))] from rfl] at q2
  exact AOk
 ·have:=hP.finL h
  subst this
  exact AIu
theorem qQ (xs:List Int) (k:Int) (hk:0≤k) (hx:xs.length≤1048576) (hb:Eh NH k xs≤4000000000000000000):MkE prog 151 5 1 byteC mkY NH xs (k):=by
 have hxl:=hx
 refine ACf (fn:=f151) call151 func151 rfl mixed ntmps151 results151 ASh rfl (.inr rfl) fun us hw0 hw=>?_
 simp only[go_sem]
 refine AAa 1 [0,1,5] (A:=Nat×List Int×Int) (mkS us 20 5 1 byteC xs) (MkX mkY NH xs k) (fun x=>xs.length-x.1) (0,[],k) ⟨⟨rfl,Dn (BK fun d=>rfl)⟩,rfl,MkX.start⟩ ?_
 rintro⟨i,dn,k1⟩ hP
 have hn:=hP.len
 refine AQz (fun h=>?_) fun h=>?_
 ·have hi:i<xs.length:=by simpa using h
  obtain⟨q2,q4,q5,q3⟩:=hP.room hi Jt byteC
  have hst:=hP.set hi byteC (mkY k1 xs[i])
  rw[show byteC (mkY k1 xs[i]) = [.v (.int .u8 (IntKind.u8.wrap (k1)))] from rfl] at hst
  have hset:=set_self (R:=(dn++xs.drop i).map byteC) (i:=i) q3
  have q4:k1+1≤Eh NH k xs:=q4
  rw[Py] at q2
  simp only[go_sem,q2,q3,hset,dh,bi,Jd,Ag,Int.reduceAdd,wz (n:=k1+1),wz (n:=(i:Int)+1)]
  rw[hst]
  refine⟨(i+1,dn ++ [mkY k1 xs[i]],k1+1),⟨rfl,Dn (BK fun d=>rfl)⟩,rfl,hP.step hi Jt, ?mu⟩
  case mu=>simp only; omega
 ·obtain⟨y1,y2⟩:=hP.finL h
  simp only[go_sem]
  rw[y1,y2]
  exact⟨[.ref 0],[.ow 5 1 _],[.c (.v (.int .i64 _))],rfl,.inr rfl,⟨rfl,rfl,rfl,rfl,CE _,AQ3,trivial⟩,by simp only[EP,Hr,wF,aF],rfl,rfl,rfl,rfl⟩
theorem f_ (xs:List Int) (k:Int) (hk:0≤k) (hx:xs.length≤1048576) (hb:Eh NH k xs≤4000000000000000000):HdE prog 156 byteC mkY NH xs (k):=by
 have hxl:=hx
 refine CM call156 func156 ntmps156 results156 fun hw=>?_
 simp only[go_sem]
 refine AAa 0 [0,1,5] (A:=Nat×Int) (lK 22 byteC mkY NH xs k) (HdX mkY NH xs k) (fun x=>xs.length-x.1) (0,k) ⟨⟨rfl,rfl⟩,rfl,HdX.start⟩ ?_
 rintro⟨i,k1⟩ hP
 refine AQ0 (fun h=>?_) fun h=>?_
 ·have hi:i<xs.length:=by simpa using h
  obtain⟨q2,q4,q5⟩:=hP.room hi Jt byteC
  have q4:k1+1≤Eh NH k xs:=q4
  rw[show byteC (mkY k1 xs[i]) = [.v (.int .u8 (IntKind.u8.wrap (k1)))] from rfl] at q2
  exact AOk
 ·have:=hP.finL h
  subst this
  exact AIu
def FI (k:Int) (x:DVal):Int:=k+3
def J_ (k:Int) (x:DVal):DVal:=⟨k,k+1,Ii (k+2)⟩
theorem gB (k:Int) (x:DVal):FI k x=k+3:=rfl
theorem ACO (k:Int) (x:DVal):(J_ k x).c = [.v (.int .i64 (k)),.v (.int .i64 (k+1)),.v (.string (Ii (k+2)))]:=by rw[DVal.c_eq]; rfl
theorem KN (k:Int) (x:DVal):k≤FI k x:=by unfold FI; omega
theorem SN (x:DVal) (k l:Int) (h0:0≤Aj x l) (hl:l≤1048576):FI k x+64*Aj x l≤k+64*l+64:=by
 have d1:=h0
 rw[F9] at d1
 obtain⟨a1_0,b1_0,e1_0⟩:=Aa d1
 have w1_0:=(C9 a1_0 AQ2).2
 have G9:Aj x l=(FY x.s.size l):=(F9 x l).trans (e1_0)
 rw[gB,G9]; omega
theorem MM (xs:List DVal) (k:Int) (hk:0≤k) (hx:fitS Ee xs) (hb:Eh FI k xs≤4000000000000000000):MkE prog 17 66 3 DVal.c J_ FI xs (k):=by
 have hxl:=hx.1
 refine ACf (fn:=f17) call17 func17 rfl mixed ntmps17 results17 ASh rfl (.inr rfl) fun us hw0 hw=>?_
 simp only[go_sem]
 refine AAa 1 [0,1,5] (A:=Nat×List DVal×Int) (mkS us 35 66 3 DVal.c xs) (MkX J_ FI xs k) (fun x=>xs.length-x.1) (0,[],k) ⟨⟨rfl,Dn (BK fun d=>rfl)⟩,rfl,MkX.start⟩ ?_
 rintro⟨i,dn,k1⟩ hP
 have hn:=hP.len
 refine AQz (fun h=>?_) fun h=>?_
 ·have hi:i<xs.length:=by simpa using h
  obtain⟨q2,q4,q5,q3⟩:=hP.room hi KN DVal.c
  have hst:=hP.set hi DVal.c (J_ k1 xs[i])
  rw[ACO] at hst
  have hset:=set_self (R:=(dn++xs.drop i).map DVal.c) (i:=i) q3
  rw[gB] at q4
  have hfx:=hx.2 _ (aj hi)
  rw[DVal.c_eq] at q2
  try simp only[aT,aG] at q2
  simp only[go_sem,q2,q3,hset,dh,bi,Jd,Ag,Int.reduceAdd,wz (n:=k1+1),wz (n:=k1+2),wz (n:=(i:Int)+1)]
  refine AAN _ (EQ (k1+2) AQ2 AQ2) fun _=>?_
  simp only[go_sem,q2,q3,hset,dh,bi,Jd,Ag,Int.reduceAdd,wz (n:=k1+3),wz (n:=(i:Int)+1)]
  rw[hst]
  refine⟨(i+1,dn ++ [J_ k1 xs[i]],k1+3),⟨rfl,Dn (BK fun d=>rfl)⟩,rfl,hP.step hi KN, ?mu⟩
  case mu=>simp only; omega
 ·obtain⟨y1,y2⟩:=hP.finL h
  simp only[go_sem]
  rw[y1,y2]
  exact⟨[.ref 0],[.ow 66 3 _],[.c (.v (.int .i64 _))],rfl,.inr rfl,⟨rfl,rfl,rfl,rfl,BH _,AQ3,trivial⟩,by simp only[EP,Hr,WJ,aF],rfl,rfl,rfl,rfl⟩
theorem Lp (xs:List DVal) (k:Int) (hk:0≤k) (hx:fitS Ee xs) (hb:Eh FI k xs≤4000000000000000000):HdE prog 157 DVal.c J_ FI xs (k):=by
 have hxl:=hx.1
 refine CM call157 func157 ntmps157 results157 fun hw=>?_
 simp only[go_sem]
 refine AAa 0 [0,1,5] (A:=Nat×Int) (lK 41 DVal.c J_ FI xs k) (HdX J_ FI xs k) (fun x=>xs.length-x.1) (0,k) ⟨⟨rfl,rfl⟩,rfl,HdX.start⟩ ?_
 rintro⟨i,k1⟩ hP
 refine AQ0 (fun h=>?_) fun h=>?_
 ·have hi:i<xs.length:=by simpa using h
  obtain⟨q2,q4,q5⟩:=hP.room hi KN DVal.c
  rw[gB] at q4
  have hfx:=hx.2 _ (aj hi)
  rw[ACO] at q2
  simp only[go_sem,q2,Jd,aB,ax,Ag,Int.reduceAdd,wz (n:=k1+1),wz (n:=k1+2),wz (n:=(i:Int)+1)]
  refine AAO ?_
  simp only[go_sem,q2,Jd,aB,ax,Ag,Int.reduceAdd,wz (n:=k1+1),wz (n:=k1+2),wz (n:=(i:Int)+1)]
  refine AAS _ (EQ (k1+2) AQ2 AQ2) ?_
  simp only[go_sem,q2,Jd,aB,ax,Ag,Int.reduceAdd,wz (n:=k1+3),wz (n:=(i:Int)+1)]
  refine⟨(i+1,k1+3),⟨rfl,rfl⟩,rfl,hP.step hi KN, ?mu⟩
  case mu=>simp only; omega
 ·have:=hP.finL h
  subst this
  exact AIu
def WM (k:Int) (x:DRow):Int:=Eh FI (k+1) x.l
theorem AFM (k:Int) (x:DRow):Eh FI (k+1) x.l=WM k x:=rfl
def JU (k:Int) (x:DRow):Int:=WM k x
def mkRow (k:Int) (x:DRow):DRow:=⟨k,IV J_ FI (k+1) x.l⟩
theorem WN (k:Int) (x:DRow):JU k x=WM k x:=rfl
theorem AHQ (k:Int) (x:DRow):(mkRow k x).c = [.v (.int .i64 (k)),.sl ((IV J_ FI (k+1) x.l).map DVal.c)]:=by rw[DRow.c_eq]; rfl
theorem AHR (k:Int) (x:DRow):(mkRow k x).o = [.v (.int .i64 (k)),.ow 66 3 ((IV J_ FI (k+1) x.l).map DVal.c)]:=by rw[DRow.o_eq]; rfl
theorem AAu (k:Int) (x:DRow):k+1≤WM k x:=Ed KN _ _
theorem P5 (k:Int) (x:DRow):k≤JU k x:=by have:=AAu k x; unfold JU; omega
theorem wK (x:DRow) (k l:Int) (h0:0≤KJ x l) (hl:l≤1048576):JU k x+64*KJ x l≤k+64*l+64:=by
 have d1:=h0
 rw[WE] at d1
 obtain⟨a1_0,b1_0,e1_0⟩:=Aa d1
 have w1_0:=(Dk x.l (fun x _=>DL x) a1_0 AQ2).2
 have G9:KJ x l=(DD Aj x.l l):=(WE x l).trans (e1_0)
 have:WM k x+64*(DD Aj x.l l)≤k+1+64*l:=Js _ (fun y _ k l a b=>⟨SN y k l a b,(DL y l a b).2⟩) _ a1_0 AQ2
 rw[WN,G9]; omega
theorem Y7 (xs:List DRow) (k:Int) (hk:0≤k) (hx:fitS Aw xs) (hb:Eh JU k xs≤4000000000000000000):MkE prog 153 201 2 DRow.o mkRow JU xs (k):=by
 have hxl:=hx.1
 refine ACf (fn:=f153) call153 func153 rfl mixed ntmps153 results153 ASh rfl (.inr rfl) fun us hw0 hw=>?_
 simp only[go_sem]
 refine ACi 1 0 [0,1,5] (A:=Nat×List DRow×Int) (mkS us 27 201 2 DRow.o xs) (MkX mkRow JU xs k) (fun x=>xs.length-x.1) (0,[],k) ⟨⟨rfl,Dn (BK fV)⟩,rfl,MkX.start⟩ ?_
 rintro⟨i,dn,k1⟩ hP
 have hn:=hP.len
 refine AQz (fun h=>?_) fun h=>?_
 ·have hi:i<xs.length:=by simpa using h
  obtain⟨q2,q4,q5,q3⟩:=hP.room hi P5 DRow.o
  have hst:=hP.set hi DRow.o (mkRow k1 xs[i])
  have hset:=set_self (R:=(dn++xs.drop i).map DRow.o) (i:=i) q3
  rw[WN] at q4
  have hle:=AAu k1 xs[i]
  have hfx:=hx.2 _ (aj hi)
  rw[DRow.o_eq] at q2
  try simp only[aT,aG] at q2
  simp only[go_sem,q2,q3,hset,dh,bi,Jd,Ag,Int.reduceAdd,wz (n:=k1+1),wz (n:=(i:Int)+1)]
  refine ABp (l:=1) (MM _ (k1+1) AQ2 hfx (by show WM k1 xs[i]≤_; omega)) rfl ⟨rfl,rfl,rfl,rfl,BH _,AQ3,trivial⟩ ?_
  simp only[go_sem,q2,q3,hset,dh,bi,Jd,Ag,Int.reduceAdd,wz (n:=(i:Int)+1),AFM]
  refine⟨(i+1,dn ++ [mkRow k1 xs[i]],JU k1 xs[i]),.inr ⟨i,(dn++xs.drop i).map DRow.o, ?rowr,DRow.o (mkRow k1 xs[i]), ?ob,⟨aa3, ?e1, ?e2,q3, ?e3⟩, ?own,⟨rfl, ?tr⟩, ?eq⟩,hP.step hi P5, ?mu⟩
  case e1=>exact rfl
  case e2=>exact rfl
  case e3=>exact rfl
  case own=>rw[AHR]; exact⟨rfl,rfl,rfl,rfl,rfl,rfl,BH _,AQ3,fun l hl=>AQ2⟩
  case eq=>unfold Am; rw[hst,WN]; rfl
  case tr=>unfold Am; rw[hst]; exact Dn (BK fV)
  case mu=>simp only; omega
 ·obtain⟨y1,y2⟩:=hP.finL h
  simp only[go_sem]
  rw[y1,y2]
  exact⟨[.ref 0],[.ow 201 2 _],[.c (.v (.int .i64 _))],rfl,.inr rfl,⟨rfl,rfl,rfl,rfl,AO _,AQ3,trivial⟩,by simp only[EP,Hr,dH,aF],rfl,rfl,rfl,rfl⟩
theorem Ux (xs:List DRow) (k:Int) (hk:0≤k) (hx:fitS Aw xs) (hb:Eh JU k xs≤4000000000000000000):HdE prog 159 DRow.c mkRow JU xs (k):=by
 have hxl:=hx.1
 refine CM call159 func159 ntmps159 results159 fun hw=>?_
 simp only[go_sem]
 refine AAa 0 [0,1,5] (A:=Nat×Int) (lK 31 DRow.c mkRow JU xs k) (HdX mkRow JU xs k) (fun x=>xs.length-x.1) (0,k) ⟨⟨rfl,rfl⟩,rfl,HdX.start⟩ ?_
 rintro⟨i,k1⟩ hP
 refine AQ0 (fun h=>?_) fun h=>?_
 ·have hi:i<xs.length:=by simpa using h
  obtain⟨q2,q4,q5⟩:=hP.room hi P5 DRow.c
  rw[WN] at q4
  have hle:=AAu k1 xs[i]
  have hfx:=hx.2 _ (aj hi)
  rw[AHQ] at q2
  simp only[go_sem,q2,Jd,aB,ax,Ag,Int.reduceAdd,wz (n:=k1+1),wz (n:=(i:Int)+1)]
  refine AAN _ (Lp _ (k1+1) AQ2 hfx (by show WM k1 xs[i]≤_; omega)) fun _=>?_
  have hg1:=Nb (x:=WM k1 xs[i]) AQ2
  simp only[go_sem,q2,Jd,aB,ax,Ag,Int.reduceAdd,wz (n:=(i:Int)+1),AFM,hg1]
  refine⟨(i+1,WM k1 xs[i]),⟨rfl,rfl⟩,rfl,hP.step hi P5, ?mu⟩
  case mu=>simp only; omega
 ·have:=hP.finL h
  subst this
  exact AIu
mutual
def BN:Int→DPred→Int
 | k,.mk _ _ _ _ l=>WO (k+6) l
def WO:Int→List DPred→Int
 | k,[]=>k
 | k,x::xs=>WO (BN k x) xs
end
mutual
def EM:Int→DPred→DPred
 | k,.mk _ _ _ _ l=>DPred.mk (k) (k+1) (k+2) (⟨k+3,k+4,Ii (k+5)⟩) (WP (k+6) l)
def WP:Int→List DPred→List DPred
 | k,[]=>[]
 | k,x::xs=>EM k x::WP (BN k x) xs
end
theorem gG:∀ (xs:List DPred) (k:Int),WO k xs=Eh BN k xs
 | [],k=>by simp only[WO,Eh]
 | x::xs,k=>by simp only[WO,Eh,gG xs]
theorem gI:∀ (xs:List DPred) (k:Int),WP k xs=IV EM BN k xs
 | [],k=>by simp only[WP,IV]
 | x::xs,k=>by simp only[WP,IV,gI xs]
def Qe (k:Int) (x:DPred):Int:=Eh BN (k+6) x.l
theorem ACP (k:Int) (x:DPred):Eh BN (k+6) x.l=Qe k x:=rfl
theorem OB (k:Int) (x:DPred):BN k x=Qe k x:=by cases x; simp only[BN,gG]; rfl
theorem nM (k:Int) (x:DPred):EM k x=DPred.mk (k) (k+1) (k+2) (⟨k+3,k+4,Ii (k+5)⟩) (IV EM BN (k+6) x.l):=by cases x; simp only[EM,gI]; rfl
theorem AFN (k:Int) (x:DPred):(EM k x).c = [.v (.int .i64 (k)),.v (.int .i64 (k+1)),.v (.int .i64 (k+2)),.v (.int .i64 (k+3)),.v (.int .i64 (k+4)),.v (.string (Ii (k+5))),.sl ((IV EM BN (k+6) x.l).map DPred.c)]:=by rw[nM,DPred.c_eq]; rfl
theorem AFO (k:Int) (x:DPred):(EM k x).o = [.v (.int .i64 (k)),.v (.int .i64 (k+1)),.v (.int .i64 (k+2)),.v (.int .i64 (k+3)),.v (.int .i64 (k+4)),.v (.string (Ii (k+5))),.ow 69 7 ((IV EM BN (k+6) x.l).map DPred.o)]:=by rw[nM,DPred.o_eq]; rfl
theorem gJ:∀ (n:Nat) (x:DPred),SizeOf.sizeOf x≤n→∀ k,k≤BN k x
 | 0,x,h,k=>by cases x; simp at h
 | n+1,x,h,k=>by
  have h1:=ACE (c:=BN) x.l (fun y hy=>gJ n y (by
   have h1:SizeOf.sizeOf y<SizeOf.sizeOf x.l:=aao hy
   have h2:SizeOf.sizeOf x.l<SizeOf.sizeOf x:=AR7
   omega)) (k+6)
  rw[OB,Qe]; omega
theorem KA (k:Int) (x:DPred):k≤BN k x:=gJ _ x (aI _) k
theorem ACQ (k:Int) (x:DPred):k+6≤Qe k x:=Ed KA _ _
theorem wL (x:DPred) (hx:∀ y∈x.l,∀ k l,0≤BJ y l→l≤1048576→BN k y+64*BJ y l≤k+64*l+64) (k l:Int) (h0:0≤BJ x l) (hl:l≤1048576):BN k x+64*BJ x l≤k+64*l+64:=by
 have d1:=h0
 rw[Ic] at d1
 obtain⟨a1_0,b1_0,e1_0⟩:=Aa d1
 have w1_0:=(DL x.v _ a1_0 AQ2).2
 have d2:=a1_0
 rw[F9] at d2
 obtain⟨a2_0,b2_0,e2_0⟩:=Aa d2
 have w2_0:=(C9 a2_0 AQ2).2
 have eq2:Aj x.v l=(FY x.v.s.size l):=(F9 x.v l).trans (e2_0)
 obtain⟨a1_1,b1_1,e1_1⟩:=Aa b1_0
 have w1_1:=(Dk x.l (fun x _=>FU x) a1_1 AQ2).2
 have G9:BJ x l=(DD BJ x.l (Aj x.v l)):=(Ic x l).trans ((e1_0).trans (e1_1))
 have:Qe k x+64*(DD BJ x.l (Aj x.v l))≤k+6+64*(Aj x.v l):=Js _ (fun y hy k l a b=>⟨hx y hy k l a b,(FU y l a b).2⟩) _ a1_1 AQ2
 rw[OB,G9]; omega
theorem gK:∀ (n:Nat) (x:DPred),SizeOf.sizeOf x≤n→∀ k l,0≤BJ x l→l≤1048576→BN k x+64*BJ x l≤k+64*l+64
 | 0,x,h=>by cases x; simp at h
 | n+1,x,h=>wL x fun y hy=>gK n y (by
  have h1:SizeOf.sizeOf y<SizeOf.sizeOf x.l:=aao hy
  have h2:SizeOf.sizeOf x.l<SizeOf.sizeOf x:=AR7
  omega)
theorem YG (x:DPred) (k l:Int) (h0:0≤BJ x l) (hl:l≤1048576):BN k x+64*BJ x l≤k+64*l+64:=gK _ x (aI _) k l h0 hl
theorem WQ (xs:List DPred) (hr:∀ x∈xs,∀ k,0≤k→fitS Ap x.l→Eh BN k x.l≤4000000000000000000→MkE prog 152 69 7 DPred.o EM BN x.l (k)) (k:Int) (hk:0≤k) (hx:fitS Ap xs) (hb:Eh BN k xs≤4000000000000000000):MkE prog 152 69 7 DPred.o EM BN xs (k):=by
 have hxl:=hx.1
 refine ACf (fn:=f152) call152 func152 rfl mixed ntmps152 results152 ASh rfl (.inr rfl) fun us hw0 hw=>?_
 simp only[go_sem]
 refine ACi 1 0 [0,1,5] (A:=Nat×List DPred×Int) (mkS us 66 69 7 DPred.o xs) (MkX EM BN xs k) (fun x=>xs.length-x.1) (0,[],k) ⟨⟨rfl,Dn (BK UH)⟩,rfl,MkX.start⟩ ?_
 rintro⟨i,dn,k1⟩ hP
 have hn:=hP.len
 refine AQz (fun h=>?_) fun h=>?_
 ·have hi:i<xs.length:=by simpa using h
  obtain⟨q2,q4,q5,q3⟩:=hP.room hi KA DPred.o
  have hst:=hP.set hi DPred.o (EM k1 xs[i])
  have hset:=set_self (R:=(dn++xs.drop i).map DPred.o) (i:=i) q3
  rw[OB] at q4
  have hle:=ACQ k1 xs[i]
  have hfx:=hx.2 _ (aj hi)
  rw[DPred.o_eq] at q2
  simp only[DVal.c_eq,aT,aG] at q2
  simp only[go_sem,q2,q3,hset,dh,bi,Jd,Ag,Int.reduceAdd,wz (n:=k1+1),wz (n:=k1+2),wz (n:=k1+3),wz (n:=k1+4),wz (n:=k1+5),wz (n:=(i:Int)+1)]
  refine AAN _ (EQ (k1+5) AQ2 AQ2) fun _=>?_
  simp only[go_sem,q2,q3,hset,dh,bi,Jd,Ag,Int.reduceAdd,wz (n:=k1+6),wz (n:=(i:Int)+1)]
  refine ABp (l:=1) (hr xs[i] (aj hi) (k1+6) AQ2 (Eq.mp (BG _) hfx).2 (by show Qe k1 xs[i]≤_; omega)) rfl ⟨rfl,rfl,rfl,rfl,BC _,AQ3,trivial⟩ ?_
  simp only[go_sem,q2,q3,hset,dh,bi,Jd,Ag,Int.reduceAdd,wz (n:=(i:Int)+1),ACP]
  refine⟨(i+1,dn ++ [EM k1 xs[i]],BN k1 xs[i]),.inr ⟨i,(dn++xs.drop i).map DPred.o, ?rowr,DPred.o (EM k1 xs[i]), ?ob,⟨aa3, ?e1, ?e2,q3, ?e3⟩, ?own,⟨rfl, ?tr⟩, ?eq⟩,hP.step hi KA, ?mu⟩
  case e1=>exact rfl
  case e2=>exact rfl
  case e3=>exact rfl
  case own=>rw[AFO]; exact⟨rfl,rfl,rfl,rfl,rfl,rfl,rfl,rfl,rfl,rfl,rfl,rfl,rfl,rfl,rfl,rfl,BC _,AQ3,fun l hl=>AQ2⟩
  case eq=>unfold Am; rw[hst,OB]; rfl
  case tr=>unfold Am; rw[hst]; exact Dn (BK UH)
  case mu=>simp only; omega
 ·obtain⟨y1,y2⟩:=hP.finL h
  simp only[go_sem]
  rw[y1,y2]
  exact⟨[.ref 0],[.ow 69 7 _],[.c (.v (.int .i64 _))],rfl,.inr rfl,⟨rfl,rfl,rfl,rfl,BC _,AQ3,trivial⟩,by simp only[EP,Hr,WL,aF],rfl,rfl,rfl,rfl⟩
theorem Y8:∀ (n:Nat) (xs:List DPred),(∀ x∈xs,SizeOf.sizeOf x≤n)→∀ (k:Int),0≤k→fitS Ap xs→Eh BN k xs≤4000000000000000000→MkE prog 152 69 7 DPred.o EM BN xs (k)
 | 0,xs,h,k,h1,h2,h3=>WQ xs (fun x hx=>by have:=h x hx; cases x; simp at this) k h1 h2 h3
 | n+1,xs,h,k,h1,h2,h3=>WQ xs (fun x hx k g1 g2 g3=>Y8 n x.l (fun y hy=>by
   have h1:SizeOf.sizeOf y<SizeOf.sizeOf x.l:=aao hy
   have h2:SizeOf.sizeOf x.l<SizeOf.sizeOf x:=AR7
   have:=h x hx
   omega) k g1 g2 g3) k h1 h2 h3
theorem Qg (xs:List DPred) (k:Int) (hk:0≤k) (hx:fitS Ap xs) (hb:Eh BN k xs≤4000000000000000000):MkE prog 152 69 7 DPred.o EM BN xs (k):=Y8 (SizeOf.sizeOf xs) xs (fun x hx=>Nat.le_of_lt (aao hx)) k hk hx hb
theorem WR (xs:List DPred) (hr:∀ x∈xs,∀ k,0≤k→fitS Ap x.l→Eh BN k x.l≤4000000000000000000→HdE prog 158 DPred.c EM BN x.l (k)) (k:Int) (hk:0≤k) (hx:fitS Ap xs) (hb:Eh BN k xs≤4000000000000000000):HdE prog 158 DPred.c EM BN xs (k):=by
 have hxl:=hx.1
 refine CM call158 func158 ntmps158 results158 fun hw=>?_
 simp only[go_sem]
 refine AAa 0 [0,1,5] (A:=Nat×Int) (lK 80 DPred.c EM BN xs k) (HdX EM BN xs k) (fun x=>xs.length-x.1) (0,k) ⟨⟨rfl,rfl⟩,rfl,HdX.start⟩ ?_
 rintro⟨i,k1⟩ hP
 refine AQ0 (fun h=>?_) fun h=>?_
 ·have hi:i<xs.length:=by simpa using h
  obtain⟨q2,q4,q5⟩:=hP.room hi KA DPred.c
  rw[OB] at q4
  have hle:=ACQ k1 xs[i]
  have hfx:=hx.2 _ (aj hi)
  rw[AFN] at q2
  simp only[go_sem,q2,Jd,aB,ax,Ag,Int.reduceAdd,wz (n:=k1+1),wz (n:=k1+2),wz (n:=k1+3),wz (n:=k1+4),wz (n:=k1+5),wz (n:=(i:Int)+1)]
  refine AAO ?_
  simp only[go_sem,q2,Jd,aB,ax,Ag,Int.reduceAdd,wz (n:=k1+1),wz (n:=k1+2),wz (n:=k1+3),wz (n:=k1+4),wz (n:=k1+5),wz (n:=(i:Int)+1)]
  refine AAS _ (EQ (k1+5) AQ2 AQ2) ?_
  simp only[go_sem,q2,Jd,aB,ax,Ag,Int.reduceAdd,wz (n:=k1+6),wz (n:=(i:Int)+1)]
  refine AAN _ (hr xs[i] (aj hi) (k1+6) AQ2 (Eq.mp (BG _) hfx).2 (by show Qe k1 xs[i]≤_; omega)) fun _=>?_
  have hg1:=Nb (x:=Qe k1 xs[i]) AQ2
  simp only[go_sem,q2,Jd,aB,ax,Ag,Int.reduceAdd,wz (n:=(i:Int)+1),ACP,hg1]
  refine⟨(i+1,Qe k1 xs[i]),⟨rfl,rfl⟩,rfl,OB k1 xs[i]▸hP.step hi KA, ?mu⟩
  case mu=>simp only; omega
 ·have:=hP.finL h
  subst this
  exact AIu
theorem Y9:∀ (n:Nat) (xs:List DPred),(∀ x∈xs,SizeOf.sizeOf x≤n)→∀ (k:Int),0≤k→fitS Ap xs→Eh BN k xs≤4000000000000000000→HdE prog 158 DPred.c EM BN xs (k)
 | 0,xs,h,k,h1,h2,h3=>WR xs (fun x hx=>by have:=h x hx; cases x; simp at this) k h1 h2 h3
 | n+1,xs,h,k,h1,h2,h3=>WR xs (fun x hx k g1 g2 g3=>Y9 n x.l (fun y hy=>by
   have h1:SizeOf.sizeOf y<SizeOf.sizeOf x.l:=aao hy
   have h2:SizeOf.sizeOf x.l<SizeOf.sizeOf x:=AR7
   have:=h x hx
   omega) k g1 g2 g3) k h1 h2 h3
theorem SQ (xs:List DPred) (k:Int) (hk:0≤k) (hx:fitS Ap xs) (hb:Eh BN k xs≤4000000000000000000):HdE prog 158 DPred.c EM BN xs (k):=Y9 (SizeOf.sizeOf xs) xs (fun x hx=>Nat.le_of_lt (aao hx)) k hk hx hb
def Qh (k:Int) (x:DSlot):Int:=Eh FI (k+1) x.l
theorem ACR (k:Int) (x:DSlot):Eh FI (k+1) x.l=Qh k x:=rfl
def I5 (k:Int) (x:DSlot):Int:=Qh k x
def LP (k:Int) (x:DSlot):DSlot:=⟨k,IV J_ FI (k+1) x.l⟩
theorem UI (k:Int) (x:DSlot):I5 k x=Qh k x:=rfl
theorem AFP (k:Int) (x:DSlot):(LP k x).c = [.v (.int .i64 (k)),.sl ((IV J_ FI (k+1) x.l).map DVal.c)]:=by rw[DSlot.c_eq]; rfl
theorem AFQ (k:Int) (x:DSlot):(LP k x).o = [.v (.int .i64 (k)),.ow 66 3 ((IV J_ FI (k+1) x.l).map DVal.c)]:=by rw[DSlot.o_eq]; rfl
theorem qR (k:Int) (x:DSlot):k+1≤Qh k x:=Ed KN _ _
theorem P6 (k:Int) (x:DSlot):k≤I5 k x:=by have:=qR k x; unfold I5; omega
theorem ADk (x:DSlot) (k l:Int) (h0:0≤NJ x l) (hl:l≤1048576):I5 k x+64*NJ x l≤k+64*l+64:=by
 have d1:=h0
 rw[UF] at d1
 obtain⟨a1_0,b1_0,e1_0⟩:=Aa d1
 have w1_0:=(Dk x.l (fun x _=>DL x) a1_0 AQ2).2
 have G9:NJ x l=(DD Aj x.l l):=(UF x l).trans (e1_0)
 have:Qh k x+64*(DD Aj x.l l)≤k+1+64*l:=Js _ (fun y _ k l a b=>⟨SN y k l a b,(DL y l a b).2⟩) _ a1_0 AQ2
 rw[UI,G9]; omega
theorem qU (xs:List DSlot) (k:Int) (hk:0≤k) (hx:fitS O_ xs) (hb:Eh I5 k xs≤4000000000000000000):MkE prog 150 231 2 DSlot.o LP I5 xs (k):=by
 have hxl:=hx.1
 refine ACf (fn:=f150) call150 func150 rfl mixed ntmps150 results150 ASh rfl (.inr rfl) fun us hw0 hw=>?_
 simp only[go_sem]
 refine ACi 1 0 [0,1,5] (A:=Nat×List DSlot×Int) (mkS us 27 231 2 DSlot.o xs) (MkX LP I5 xs k) (fun x=>xs.length-x.1) (0,[],k) ⟨⟨rfl,Dn (BK YD)⟩,rfl,MkX.start⟩ ?_
 rintro⟨i,dn,k1⟩ hP
 have hn:=hP.len
 refine AQz (fun h=>?_) fun h=>?_
 ·have hi:i<xs.length:=by simpa using h
  obtain⟨q2,q4,q5,q3⟩:=hP.room hi P6 DSlot.o
  have hst:=hP.set hi DSlot.o (LP k1 xs[i])
  have hset:=set_self (R:=(dn++xs.drop i).map DSlot.o) (i:=i) q3
  rw[UI] at q4
  have hle:=qR k1 xs[i]
  have hfx:=hx.2 _ (aj hi)
  rw[DSlot.o_eq] at q2
  try simp only[aT,aG] at q2
  simp only[go_sem,q2,q3,hset,dh,bi,Jd,Ag,Int.reduceAdd,wz (n:=k1+1),wz (n:=(i:Int)+1)]
  refine ABp (l:=1) (MM _ (k1+1) AQ2 hfx (by show Qh k1 xs[i]≤_; omega)) rfl ⟨rfl,rfl,rfl,rfl,BH _,AQ3,trivial⟩ ?_
  simp only[go_sem,q2,q3,hset,dh,bi,Jd,Ag,Int.reduceAdd,wz (n:=(i:Int)+1),ACR]
  refine⟨(i+1,dn ++ [LP k1 xs[i]],I5 k1 xs[i]),.inr ⟨i,(dn++xs.drop i).map DSlot.o, ?rowr,DSlot.o (LP k1 xs[i]), ?ob,⟨aa3, ?e1, ?e2,q3, ?e3⟩, ?own,⟨rfl, ?tr⟩, ?eq⟩,hP.step hi P6, ?mu⟩
  case e1=>exact rfl
  case e2=>exact rfl
  case e3=>exact rfl
  case own=>rw[AFQ]; exact⟨rfl,rfl,rfl,rfl,rfl,rfl,BH _,AQ3,fun l hl=>AQ2⟩
  case eq=>unfold Am; rw[hst,UI]; rfl
  case tr=>unfold Am; rw[hst]; exact Dn (BK YD)
  case mu=>simp only; omega
 ·obtain⟨y1,y2⟩:=hP.finL h
  simp only[go_sem]
  rw[y1,y2]
  exact⟨[.ref 0],[.ow 231 2 _],[.c (.v (.int .i64 _))],rfl,.inr rfl,⟨rfl,rfl,rfl,rfl,Ha _,AQ3,trivial⟩,by simp only[EP,Hr,wG,aF],rfl,rfl,rfl,rfl⟩
theorem gQ (xs:List DSlot) (k:Int) (hk:0≤k) (hx:fitS O_ xs) (hb:Eh I5 k xs≤4000000000000000000):HdE prog 155 DSlot.c LP I5 xs (k):=by
 have hxl:=hx.1
 refine CM call155 func155 ntmps155 results155 fun hw=>?_
 simp only[go_sem]
 refine AAa 0 [0,1,5] (A:=Nat×Int) (lK 31 DSlot.c LP I5 xs k) (HdX LP I5 xs k) (fun x=>xs.length-x.1) (0,k) ⟨⟨rfl,rfl⟩,rfl,HdX.start⟩ ?_
 rintro⟨i,k1⟩ hP
 refine AQ0 (fun h=>?_) fun h=>?_
 ·have hi:i<xs.length:=by simpa using h
  obtain⟨q2,q4,q5⟩:=hP.room hi P6 DSlot.c
  rw[UI] at q4
  have hle:=qR k1 xs[i]
  have hfx:=hx.2 _ (aj hi)
  rw[AFP] at q2
  simp only[go_sem,q2,Jd,aB,ax,Ag,Int.reduceAdd,wz (n:=k1+1),wz (n:=(i:Int)+1)]
  refine AAN _ (Lp _ (k1+1) AQ2 hfx (by show Qh k1 xs[i]≤_; omega)) fun _=>?_
  have hg1:=Nb (x:=Qh k1 xs[i]) AQ2
  simp only[go_sem,q2,Jd,aB,ax,Ag,Int.reduceAdd,wz (n:=(i:Int)+1),ACR,hg1]
  refine⟨(i+1,Qh k1 xs[i]),⟨rfl,rfl⟩,rfl,hP.step hi P6, ?mu⟩
  case mu=>simp only; omega
 ·have:=hP.finL h
  subst this
  exact AIu
def OW (k:Int) (x:DBuf):Int:=Eh I5 (k+3) x.c0.l
theorem qV (k:Int) (x:DBuf):Eh I5 (k+3) x.c0.l=OW k x:=rfl
def WS (k:Int) (x:DBuf):Int:=Eh NH (OW k x) x.g
theorem AFR (k:Int) (x:DBuf):Eh NH (OW k x) x.g=WS k x:=rfl
def KO (k:Int) (x:DBuf):Int:=WS k x
def SS (k:Int) (x:DBuf):DBuf:=⟨k,k+1,⟨k+2,IV LP I5 (k+3) x.c0.l⟩,IV mkY NH (OW k x) x.g⟩
theorem WT (k:Int) (x:DBuf):KO k x=WS k x:=rfl
theorem AHS (k:Int) (x:DBuf):(SS k x).c = [.v (.int .i64 (k)),.v (.int .i64 (k+1)),.v (.int .i64 (k+2)),.sl ((IV LP I5 (k+3) x.c0.l).map DSlot.c),.sl ((IV mkY NH (OW k x) x.g).map byteC)]:=by rw[DBuf.c_eq]; rfl
theorem AHT (k:Int) (x:DBuf):(SS k x).o = [.v (.int .i64 (k)),.v (.int .i64 (k+1)),.v (.int .i64 (k+2)),.ow 231 2 ((IV LP I5 (k+3) x.c0.l).map DSlot.o),.ow 5 1 ((IV mkY NH (OW k x) x.g).map byteC)]:=by rw[DBuf.o_eq]; rfl
theorem AAv (k:Int) (x:DBuf):k+3≤OW k x∧OW k x≤WS k x:=⟨Ed P6 _ _,Ed Jt _ _⟩
theorem SV (k:Int) (x:DBuf):k≤KO k x:=by have:=AAv k x; unfold KO; omega
theorem wM (x:DBuf) (k l:Int) (h0:0≤Iy x l) (hl:l≤1048576):KO k x+64*Iy x l≤k+64*l+64:=by
 have d1:=h0
 rw[WF] at d1
 obtain⟨a1_0,b1_0,e1_0⟩:=Aa d1
 have w1_0:=(Y6 x.c0 _ a1_0 AQ2).2
 have d2:=a1_0
 rw[QX] at d2
 obtain⟨a2_0,b2_0,e2_0⟩:=Aa d2
 have w2_0:=(Dk x.c0.l (fun x _=>VO x) a2_0 AQ2).2
 have eq2:Lm x.c0 l=(DD NJ x.c0.l l):=(QX x.c0 l).trans (e2_0)
 obtain⟨a1_1,b1_1,e1_1⟩:=Aa b1_0
 have w1_1:=(C9 a1_1 AQ2).2
 have G9:Iy x l=(FY x.g.length (Lm x.c0 l)):=(WF x l).trans ((e1_0).trans (e1_1))
 have:OW k x+64*(DD NJ x.c0.l l)≤k+3+64*l:=Js _ (fun y _ k l a b=>⟨ADk y k l a b,(VO y l a b).2⟩) _ a2_0 AQ2
 have:WS k x+64*(FY x.g.length (Lm x.c0 l))≤OW k x+64*(Lm x.c0 l):=PY PZ _ _ _ a1_1
 rw[WT,G9]; omega
theorem wO (xs:List DBuf) (k:Int) (hk:0≤k) (hx:fitS KL xs) (hb:Eh KO k xs≤4000000000000000000):MkE prog 65 170 5 DBuf.o SS KO xs (k):=by
 have hxl:=hx.1
 refine ACf (fn:=f65) call65 func65 rfl mixed ntmps65 results65 ASh rfl (.inr rfl) fun us hw0 hw=>?_
 simp only[go_sem]
 refine ACi 1 0 [0,1,5] (A:=Nat×List DBuf×Int) (mkS us 50 170 5 DBuf.o xs) (MkX SS KO xs k) (fun x=>xs.length-x.1) (0,[],k) ⟨⟨rfl,Dn (BK fZ)⟩,rfl,MkX.start⟩ ?_
 rintro⟨i,dn,k1⟩ hP
 have hn:=hP.len
 refine AQz (fun h=>?_) fun h=>?_
 ·have hi:i<xs.length:=by simpa using h
  obtain⟨q2,q4,q5,q3⟩:=hP.room hi SV DBuf.o
  have hst:=hP.set hi DBuf.o (SS k1 xs[i])
  have hset:=set_self (R:=(dn++xs.drop i).map DBuf.o) (i:=i) q3
  rw[WT] at q4
  have hle:=AAv k1 xs[i]
  have hfx:=hx.2 _ (aj hi)
  rw[DBuf.o_eq] at q2
  simp only[DChunk.o_eq,aT,aG] at q2
  simp only[go_sem,q2,q3,hset,dh,bi,Jd,Ag,Int.reduceAdd,wz (n:=k1+1),wz (n:=k1+2),wz (n:=k1+3),wz (n:=(i:Int)+1)]
  refine ABp (l:=1) (qU _ (k1+3) AQ2 hfx.1 (by show OW k1 xs[i]≤_; omega)) rfl ⟨rfl,rfl,rfl,rfl,Ha _,AQ3,trivial⟩ ?_
  simp only[go_sem,q2,q3,hset,dh,bi,Jd,Ag,Int.reduceAdd,wz (n:=(i:Int)+1),qV]
  refine ABp (l:=2) (qQ _ (OW k1 xs[i]) AQ2 hfx.2 (by show WS k1 xs[i]≤_; omega)) rfl ⟨rfl,rfl,rfl,rfl,CE _,AQ3,trivial⟩ ?_
  simp only[go_sem,q2,q3,hset,dh,bi,Jd,Ag,Int.reduceAdd,wz (n:=(i:Int)+1),qV,AFR]
  refine⟨(i+1,dn ++ [SS k1 xs[i]],KO k1 xs[i]),.inr ⟨i,(dn++xs.drop i).map DBuf.o, ?rowr,DBuf.o (SS k1 xs[i]), ?ob,⟨aa3, ?e1, ?e2,q3, ?e3⟩, ?own,⟨rfl, ?tr⟩, ?eq⟩,hP.step hi SV, ?mu⟩
  case e1=>exact rfl
  case e2=>exact rfl
  case e3=>exact rfl
  case own=>rw[AHT]; exact⟨rfl,rfl,rfl,rfl,rfl,rfl,rfl,rfl,rfl,rfl,Ha _,AQ3,rfl,rfl,rfl,rfl,CE _,AQ3,fun l hl=>AQ2⟩
  case eq=>unfold Am; rw[hst,WT]; rfl
  case tr=>unfold Am; rw[hst]; exact Dn (BK fZ)
  case mu=>simp only; omega
 ·obtain⟨y1,y2⟩:=hP.finL h
  simp only[go_sem]
  rw[y1,y2]
  exact⟨[.ref 0],[.ow 170 5 _],[.c (.v (.int .i64 _))],rfl,.inr rfl,⟨rfl,rfl,rfl,rfl,D5 _,AQ3,trivial⟩,by simp only[EP,Hr,ACN,aF],rfl,rfl,rfl,rfl⟩
theorem lT (xs:List DBuf) (k:Int) (hk:0≤k) (hx:fitS KL xs) (hb:Eh KO k xs≤4000000000000000000):HdE prog 73 DBuf.c SS KO xs (k):=by
 have hxl:=hx.1
 refine CM call73 func73 ntmps73 results73 fun hw=>?_
 simp only[go_sem]
 refine AAa 0 [0,1,5] (A:=Nat×Int) (lK 60 DBuf.c SS KO xs k) (HdX SS KO xs k) (fun x=>xs.length-x.1) (0,k) ⟨⟨rfl,rfl⟩,rfl,HdX.start⟩ ?_
 rintro⟨i,k1⟩ hP
 refine AQ0 (fun h=>?_) fun h=>?_
 ·have hi:i<xs.length:=by simpa using h
  obtain⟨q2,q4,q5⟩:=hP.room hi SV DBuf.c
  rw[WT] at q4
  have hle:=AAv k1 xs[i]
  have hfx:=hx.2 _ (aj hi)
  rw[AHS] at q2
  simp only[go_sem,q2,Jd,aB,ax,Ag,Int.reduceAdd,wz (n:=k1+1),wz (n:=k1+2),wz (n:=k1+3),wz (n:=(i:Int)+1)]
  refine AAN _ (gQ _ (k1+3) AQ2 hfx.1 (by show OW k1 xs[i]≤_; omega)) fun _=>?_
  have hg1:=Nb (x:=OW k1 xs[i]) AQ2
  simp only[go_sem,q2,Jd,aB,ax,Ag,Int.reduceAdd,wz (n:=(i:Int)+1),qV,hg1]
  refine AAN _ (f_ _ (OW k1 xs[i]) AQ2 hfx.2 (by show WS k1 xs[i]≤_; omega)) fun _=>?_
  have hg2:=Nb (x:=WS k1 xs[i]) AQ2
  simp only[go_sem,q2,Jd,aB,ax,Ag,Int.reduceAdd,wz (n:=(i:Int)+1),qV,AFR,hg1,hg2]
  refine⟨(i+1,WS k1 xs[i]),⟨rfl,rfl⟩,rfl,hP.step hi SV, ?mu⟩
  case mu=>simp only; omega
 ·have:=hP.finL h
  subst this
  exact AIu
def JV (k:Int) (x:DDead):Int:=k+3
def Qi (k:Int) (x:DDead):DDead:=⟨k,k+1,k+2⟩
theorem nN (k:Int) (x:DDead):JV k x=k+3:=rfl
theorem wP (k:Int) (x:DDead):(Qi k x).c = [.v (.int .i64 (k)),.v (.int .i64 (k+1)),.v (.int .i64 (k+2))]:=by rw[DDead.c_eq]; rfl
theorem P7 (k:Int) (x:DDead):k≤JV k x:=by unfold JV; omega
theorem nO (k:Int) (x:DDead):JV k x≤k+64:=by unfold JV; omega
theorem qW (xs:List DDead) (k:Int) (hk:0≤k) (hx:xs.length≤1048576) (hb:Eh JV k xs≤4000000000000000000):MkE prog 67 173 3 DDead.c Qi JV xs (k):=by
 have hxl:=hx
 refine ACf (fn:=f67) call67 func67 rfl mixed ntmps67 results67 ASh rfl (.inr rfl) fun us hw0 hw=>?_
 simp only[go_sem]
 refine AAa 1 [0,1,5] (A:=Nat×List DDead×Int) (mkS us 34 173 3 DDead.c xs) (MkX Qi JV xs k) (fun x=>xs.length-x.1) (0,[],k) ⟨⟨rfl,Dn (BK fun d=>rfl)⟩,rfl,MkX.start⟩ ?_
 rintro⟨i,dn,k1⟩ hP
 have hn:=hP.len
 refine AQz (fun h=>?_) fun h=>?_
 ·have hi:i<xs.length:=by simpa using h
  obtain⟨q2,q4,q5,q3⟩:=hP.room hi P7 DDead.c
  have hst:=hP.set hi DDead.c (Qi k1 xs[i])
  rw[wP] at hst
  have hset:=set_self (R:=(dn++xs.drop i).map DDead.c) (i:=i) q3
  rw[nN] at q4
  rw[DDead.c_eq] at q2
  try simp only[aT,aG] at q2
  simp only[go_sem,q2,q3,hset,dh,bi,Jd,Ag,Int.reduceAdd,wz (n:=k1+1),wz (n:=k1+2),wz (n:=k1+3),wz (n:=(i:Int)+1)]
  rw[hst]
  refine⟨(i+1,dn ++ [Qi k1 xs[i]],k1+3),⟨rfl,Dn (BK fun d=>rfl)⟩,rfl,hP.step hi P7, ?mu⟩
  case mu=>simp only; omega
 ·obtain⟨y1,y2⟩:=hP.finL h
  simp only[go_sem]
  rw[y1,y2]
  exact⟨[.ref 0],[.ow 173 3 _],[.c (.v (.int .i64 _))],rfl,.inr rfl,⟨rfl,rfl,rfl,rfl,Jo _,AQ3,trivial⟩,by simp only[EP,Hr,wH,aF],rfl,rfl,rfl,rfl⟩
theorem gU (xs:List DDead) (k:Int) (hk:0≤k) (hx:xs.length≤1048576) (hb:Eh JV k xs≤4000000000000000000):HdE prog 75 DDead.c Qi JV xs (k):=by
 have hxl:=hx
 refine CM call75 func75 ntmps75 results75 fun hw=>?_
 simp only[go_sem]
 refine AAa 0 [0,1,5] (A:=Nat×Int) (lK 40 DDead.c Qi JV xs k) (HdX Qi JV xs k) (fun x=>xs.length-x.1) (0,k) ⟨⟨rfl,rfl⟩,rfl,HdX.start⟩ ?_
 rintro⟨i,k1⟩ hP
 refine AQ0 (fun h=>?_) fun h=>?_
 ·have hi:i<xs.length:=by simpa using h
  obtain⟨q2,q4,q5⟩:=hP.room hi P7 DDead.c
  rw[nN] at q4
  rw[wP] at q2
  simp only[go_sem,q2,Jd,aB,ax,Ag,Int.reduceAdd,wz (n:=k1+1),wz (n:=k1+2),wz (n:=k1+3),wz (n:=(i:Int)+1)]
  refine⟨(i+1,k1+3),⟨rfl,rfl⟩,rfl,hP.step hi P7, ?mu⟩
  case mu=>simp only; omega
 ·have:=hP.finL h
  subst this
  exact AIu
def Jf (k:Int) (x:DRef):Int:=k+5
def mkRef (k:Int) (x:DRef):DRef:=⟨k,k+1,k+2,k+3,k+4⟩
theorem wQ (k:Int) (x:DRef):Jf k x=k+5:=rfl
theorem ACS (k:Int) (x:DRef):(mkRef k x).c = [.v (.int .i64 (k)),.v (.int .i64 (k+1)),.v (.int .i64 (k+2)),.v (.int .i64 (k+3)),.v (.int .i64 (k+4))]:=by rw[DRef.c_eq]; rfl
theorem P8 (k:Int) (x:DRef):k≤Jf k x:=by unfold Jf; omega
theorem gV (k:Int) (x:DRef):Jf k x≤k+64:=by unfold Jf; omega
theorem Y_ (xs:List DRef) (k:Int) (hk:0≤k) (hx:xs.length≤1048576) (hb:Eh Jf k xs≤4000000000000000000):MkE prog 149 204 5 DRef.c mkRef Jf xs (k):=by
 have hxl:=hx
 refine ACf (fn:=f149) call149 func149 rfl mixed ntmps149 results149 ASh rfl (.inr rfl) fun us hw0 hw=>?_
 simp only[go_sem]
 refine AAa 1 [0,1,5] (A:=Nat×List DRef×Int) (mkS us 48 204 5 DRef.c xs) (MkX mkRef Jf xs k) (fun x=>xs.length-x.1) (0,[],k) ⟨⟨rfl,Dn (BK fun d=>rfl)⟩,rfl,MkX.start⟩ ?_
 rintro⟨i,dn,k1⟩ hP
 have hn:=hP.len
 refine AQz (fun h=>?_) fun h=>?_
 ·have hi:i<xs.length:=by simpa using h
  obtain⟨q2,q4,q5,q3⟩:=hP.room hi P8 DRef.c
  have hst:=hP.set hi DRef.c (mkRef k1 xs[i])
  rw[ACS] at hst
  have hset:=set_self (R:=(dn++xs.drop i).map DRef.c) (i:=i) q3
  rw[wQ] at q4
  rw[DRef.c_eq] at q2
  try simp only[aT,aG] at q2
  simp only[go_sem,q2,q3,hset,dh,bi,Jd,Ag,Int.reduceAdd,wz (n:=k1+1),wz (n:=k1+2),wz (n:=k1+3),wz (n:=k1+4),wz (n:=k1+5),wz (n:=(i:Int)+1)]
  rw[hst]
  refine⟨(i+1,dn ++ [mkRef k1 xs[i]],k1+5),⟨rfl,Dn (BK fun d=>rfl)⟩,rfl,hP.step hi P8, ?mu⟩
  case mu=>simp only; omega
 ·obtain⟨y1,y2⟩:=hP.finL h
  simp only[go_sem]
  rw[y1,y2]
  exact⟨[.ref 0],[.ow 204 5 _],[.c (.v (.int .i64 _))],rfl,.inr rfl,⟨rfl,rfl,rfl,rfl,E_ _,AQ3,trivial⟩,by simp only[EP,Hr,dI,aF],rfl,rfl,rfl,rfl⟩
theorem Uy (xs:List DRef) (k:Int) (hk:0≤k) (hx:xs.length≤1048576) (hb:Eh Jf k xs≤4000000000000000000):HdE prog 154 DRef.c mkRef Jf xs (k):=by
 have hxl:=hx
 refine CM call154 func154 ntmps154 results154 fun hw=>?_
 simp only[go_sem]
 refine AAa 0 [0,1,5] (A:=Nat×Int) (lK 58 DRef.c mkRef Jf xs k) (HdX mkRef Jf xs k) (fun x=>xs.length-x.1) (0,k) ⟨⟨rfl,rfl⟩,rfl,HdX.start⟩ ?_
 rintro⟨i,k1⟩ hP
 refine AQ0 (fun h=>?_) fun h=>?_
 ·have hi:i<xs.length:=by simpa using h
  obtain⟨q2,q4,q5⟩:=hP.room hi P8 DRef.c
  rw[wQ] at q4
  rw[ACS] at q2
  simp only[go_sem,q2,Jd,aB,ax,Ag,Int.reduceAdd,wz (n:=k1+1),wz (n:=k1+2),wz (n:=k1+3),wz (n:=k1+4),wz (n:=k1+5),wz (n:=(i:Int)+1)]
  refine⟨(i+1,k1+5),⟨rfl,rfl⟩,rfl,hP.step hi P8, ?mu⟩
  case mu=>simp only; omega
 ·have:=hP.finL h
  subst this
  exact AIu
def Az (k:Int) (x:DTask):Int:=Eh FI (k+3) x.r
theorem JM (k:Int) (x:DTask):Eh FI (k+3) x.r=Az k x:=rfl
def Ho (k:Int) (x:DTask):Int:=Eh BN (Az k x+8) x.q.p.l
theorem PD (k:Int) (x:DTask):Eh BN (Az k x+8) x.q.p.l=Ho k x:=rfl
def FV (k:Int) (x:DTask):Int:=Eh NH (Ho k x+1) x.q.out
theorem UJ (k:Int) (x:DTask):Eh NH (Ho k x+1) x.q.out=FV k x:=rfl
def Bj (k:Int) (x:DTask):Int:=Eh Jf (FV k x+2) x.l
theorem dJ (k:Int) (x:DTask):Eh Jf (FV k x+2) x.l=Bj k x:=rfl
def Qj (k:Int) (x:DTask):Int:=Eh JU (Bj k x+6) x.got
theorem ACT (k:Int) (x:DTask):Eh JU (Bj k x+6) x.got=Qj k x:=rfl
def G5 (k:Int) (x:DTask):Int:=Qj k x
def LQ (k:Int) (x:DTask):DTask:=⟨k,k+1,k+2,IV J_ FI (k+3) x.r,Az k x,⟨Az k x+1,DPred.mk (Az k x+2) (Az k x+3) (Az k x+4) (⟨Az k x+5,Az k x+6,Ii (Az k x+7)⟩) (IV EM BN (Az k x+8) x.q.p.l),Ho k x,IV pX NH (Ho k x+1) x.q.out⟩,FV k x,FV k x+1,IV mkRef Jf (FV k x+2) x.l,Bj k x,Bj k x+1,Bj k x+2,Bj k x+3,Bj k x+4,IntKind.i64.wrap ((Bj k x+5).tmod 3)==0,IV mkRow JU (Bj k x+6) x.got⟩
theorem UK (k:Int) (x:DTask):G5 k x=Qj k x:=rfl
theorem AFS (k:Int) (x:DTask):(LQ k x).c = [.v (.int .i64 (k)),.v (.int .i64 (k+1)),.v (.int .i64 (k+2)),.sl ((IV J_ FI (k+3) x.r).map DVal.c),.v (.int .i64 (Az k x)),.v (.int .i64 (Az k x+1)),.v (.int .i64 (Az k x+2)),.v (.int .i64 (Az k x+3)),.v (.int .i64 (Az k x+4)),.v (.int .i64 (Az k x+5)),.v (.int .i64 (Az k x+6)),.v (.string (Ii (Az k x+7))),.sl ((IV EM BN (Az k x+8) x.q.p.l).map DPred.c),.v (.int .i64 (Ho k x)),.sl ((IV pX NH (Ho k x+1) x.q.out).map intC),.v (.int .i64 (FV k x)),.v (.int .i64 (FV k x+1)),.sl ((IV mkRef Jf (FV k x+2) x.l).map DRef.c),.v (.int .i64 (Bj k x)),.v (.int .i64 (Bj k x+1)),.v (.int .i64 (Bj k x+2)),.v (.int .i64 (Bj k x+3)),.v (.int .i64 (Bj k x+4)),.v (.bool (IntKind.i64.wrap ((Bj k x+5).tmod 3)==0)),.sl ((IV mkRow JU (Bj k x+6) x.got).map DRow.c)]:=by rw[DTask.c_eq]; simp only[LQ,DPred.o_eq,DPred.c_eq,DQuery.o_eq,DQuery.c_eq,DVal.c_eq,DPred.kind,DPred.col,DPred.op,DPred.v,DPred.l,aT,aG]
theorem AFT (k:Int) (x:DTask):(LQ k x).o = [.v (.int .i64 (k)),.v (.int .i64 (k+1)),.v (.int .i64 (k+2)),.ow 66 3 ((IV J_ FI (k+3) x.r).map DVal.c),.v (.int .i64 (Az k x)),.v (.int .i64 (Az k x+1)),.v (.int .i64 (Az k x+2)),.v (.int .i64 (Az k x+3)),.v (.int .i64 (Az k x+4)),.v (.int .i64 (Az k x+5)),.v (.int .i64 (Az k x+6)),.v (.string (Ii (Az k x+7))),.ow 69 7 ((IV EM BN (Az k x+8) x.q.p.l).map DPred.o),.v (.int .i64 (Ho k x)),.ow 3 1 ((IV pX NH (Ho k x+1) x.q.out).map intC),.v (.int .i64 (FV k x)),.v (.int .i64 (FV k x+1)),.ow 204 5 ((IV mkRef Jf (FV k x+2) x.l).map DRef.c),.v (.int .i64 (Bj k x)),.v (.int .i64 (Bj k x+1)),.v (.int .i64 (Bj k x+2)),.v (.int .i64 (Bj k x+3)),.v (.int .i64 (Bj k x+4)),.v (.bool (IntKind.i64.wrap ((Bj k x+5).tmod 3)==0)),.ow 201 2 ((IV mkRow JU (Bj k x+6) x.got).map DRow.o)]:=by rw[DTask.o_eq]; simp only[LQ,DPred.o_eq,DPred.c_eq,DQuery.o_eq,DQuery.c_eq,DVal.c_eq,DPred.kind,DPred.col,DPred.op,DPred.v,DPred.l,aT,aG]
theorem qX (k:Int) (x:DTask):k+3≤Az k x∧Az k x+8≤Ho k x∧Ho k x+1≤FV k x∧FV k x+2≤Bj k x∧Bj k x+6≤Qj k x:=⟨Ed KN _ _,Ed KA _ _,Ed Jt _ _,Ed P8 _ _,Ed P5 _ _⟩
theorem P9 (k:Int) (x:DTask):k≤G5 k x:=by have:=qX k x; unfold G5; omega
theorem UL (x:DTask) (k l:Int) (h0:0≤I4 x l) (hl:l≤1048576):G5 k x+64*I4 x l≤k+64*l+64:=by
 have d1:=h0
 rw[N9] at d1
 obtain⟨a1_0,b1_0,e1_0⟩:=Aa d1
 have w1_0:=(Dk x.r (fun x _=>DL x) a1_0 AQ2).2
 obtain⟨a1_1,b1_1,e1_1⟩:=Aa b1_0
 have w1_1:=(MJ x.q _ a1_1 AQ2).2
 have d2:=a1_1
 rw[Iw] at d2
 obtain⟨a2_0,b2_0,e2_0⟩:=Aa d2
 have w2_0:=(FU x.q.p _ a2_0 AQ2).2
 have d3:=a2_0
 rw[Ic] at d3
 obtain⟨a3_0,b3_0,e3_0⟩:=Aa d3
 have w3_0:=(DL x.q.p.v _ a3_0 AQ2).2
 have d4:=a3_0
 rw[F9] at d4
 obtain⟨a4_0,b4_0,e4_0⟩:=Aa d4
 have w4_0:=(C9 a4_0 AQ2).2
 have eq4:Aj x.q.p.v (DD Aj x.r l)=(FY x.q.p.v.s.size (DD Aj x.r l)):=(F9 x.q.p.v (DD Aj x.r l)).trans (e4_0)
 obtain⟨a3_1,b3_1,e3_1⟩:=Aa b3_0
 have w3_1:=(Dk x.q.p.l (fun x _=>FU x) a3_1 AQ2).2
 have eq3:BJ x.q.p (DD Aj x.r l)=(DD BJ x.q.p.l (Aj x.q.p.v (DD Aj x.r l))):=(Ic x.q.p (DD Aj x.r l)).trans ((e3_0).trans (e3_1))
 obtain⟨a2_1,b2_1,e2_1⟩:=Aa b2_0
 have w2_1:=(C9 a2_1 AQ2).2
 have eq2:BV x.q (DD Aj x.r l)=(FY x.q.out.length (BJ x.q.p (DD Aj x.r l))):=(Iw x.q (DD Aj x.r l)).trans ((e2_0).trans (e2_1))
 obtain⟨a1_2,b1_2,e1_2⟩:=Aa b1_1
 have w1_2:=(C9 a1_2 AQ2).2
 obtain⟨a1_3,b1_3,e1_3⟩:=Aa b1_2
 have w1_3:=(Dk x.got (fun x _=>OA x) a1_3 AQ2).2
 have G9:I4 x l=(DD KJ x.got (FY x.l.length (BV x.q (DD Aj x.r l)))):=(N9 x l).trans ((e1_0).trans ((e1_1).trans ((e1_2).trans (e1_3))))
 have:Az k x+64*(DD Aj x.r l)≤k+3+64*l:=Js _ (fun y _ k l a b=>⟨SN y k l a b,(DL y l a b).2⟩) _ a1_0 AQ2
 have:Ho k x+64*(DD BJ x.q.p.l (Aj x.q.p.v (DD Aj x.r l)))≤Az k x+8+64*(Aj x.q.p.v (DD Aj x.r l)):=Js _ (fun y _ k l a b=>⟨YG y k l a b,(FU y l a b).2⟩) _ a3_1 AQ2
 have:FV k x+64*(FY x.q.out.length (BJ x.q.p (DD Aj x.r l)))≤Ho k x+1+64*(BJ x.q.p (DD Aj x.r l)):=PY PZ _ _ _ a2_1
 have:Bj k x+64*(FY x.l.length (BV x.q (DD Aj x.r l)))≤FV k x+2+64*(BV x.q (DD Aj x.r l)):=PY gV _ _ _ a1_2
 have:Qj k x+64*(DD KJ x.got (FY x.l.length (BV x.q (DD Aj x.r l))))≤Bj k x+6+64*(FY x.l.length (BV x.q (DD Aj x.r l))):=Js _ (fun y _ k l a b=>⟨wK y k l a b,(OA y l a b).2⟩) _ a1_3 AQ2
 rw[UK,G9]; omega
theorem qY (xs:List DTask) (k:Int) (hk:0≤k) (hx:fitS Ff xs) (hb:Eh G5 k xs≤4000000000000000000):MkE prog 68 132 25 DTask.o LQ G5 xs (k):=by
 have hxl:=hx.1
 refine ACf (fn:=f68) call68 func68 rfl mixed ntmps68 results68 ASh rfl (.inr rfl) fun us hw0 hw=>?_
 simp only[go_sem]
 refine ACi 1 0 [0,1,5] (A:=Nat×List DTask×Int) (mkS us 211 132 25 DTask.o xs) (MkX LQ G5 xs k) (fun x=>xs.length-x.1) (0,[],k) ⟨⟨rfl,Dn (BK YE)⟩,rfl,MkX.start⟩ ?_
 rintro⟨i,dn,k1⟩ hP
 have hn:=hP.len
 refine AQz (fun h=>?_) fun h=>?_
 ·have hi:i<xs.length:=by simpa using h
  obtain⟨q2,q4,q5,q3⟩:=hP.room hi P9 DTask.o
  have hst:=hP.set hi DTask.o (LQ k1 xs[i])
  have hset:=set_self (R:=(dn++xs.drop i).map DTask.o) (i:=i) q3
  rw[UK] at q4
  have hle:=qX k1 xs[i]
  have hfx:=hx.2 _ (aj hi)
  rw[DTask.o_eq] at q2
  simp only[DPred.o_eq,DQuery.o_eq,DVal.c_eq,aT,aG] at q2
  simp only[go_sem,q2,q3,hset,dh,bi,Jd,Ag,Int.reduceAdd,wz (n:=k1+1),wz (n:=k1+2),wz (n:=k1+3),wz (n:=(i:Int)+1)]
  refine ABp (l:=1) (MM _ (k1+3) AQ2 hfx.1 (by show Az k1 xs[i]≤_; omega)) rfl ⟨rfl,rfl,rfl,rfl,BH _,AQ3,trivial⟩ ?_
  simp only[go_sem,q2,q3,hset,dh,bi,Jd,Ag,Int.reduceAdd,wz (n:=Az k1 xs[i]+1),wz (n:=Az k1 xs[i]+2),wz (n:=Az k1 xs[i]+3),wz (n:=Az k1 xs[i]+4),wz (n:=Az k1 xs[i]+5),wz (n:=Az k1 xs[i]+6),wz (n:=Az k1 xs[i]+7),wz (n:=(i:Int)+1),JM]
  refine AAN _ (EQ (Az k1 xs[i]+7) AQ2 AQ2) fun _=>?_
  simp only[go_sem,q2,q3,hset,dh,bi,Jd,Ag,Int.reduceAdd,wz (n:=Az k1 xs[i]+8),wz (n:=(i:Int)+1),JM]
  refine ABp (l:=2) (Qg _ (Az k1 xs[i]+8) AQ2 (Eq.mp (BG _) hfx.2.1.1).2 (by show Ho k1 xs[i]≤_; omega)) rfl ⟨rfl,rfl,rfl,rfl,BC _,AQ3,trivial⟩ ?_
  simp only[go_sem,q2,q3,hset,dh,bi,Jd,Ag,Int.reduceAdd,wz (n:=Ho k1 xs[i]+1),wz (n:=(i:Int)+1),JM,PD]
  refine ABp (l:=3) (J9 _ (Ho k1 xs[i]+1) AQ2 hfx.2.1.2 (by show FV k1 xs[i]≤_; omega)) rfl ⟨rfl,rfl,rfl,rfl,AX _,AQ3,trivial⟩ ?_
  simp only[go_sem,q2,q3,hset,dh,bi,Jd,Ag,Int.reduceAdd,wz (n:=FV k1 xs[i]+1),wz (n:=FV k1 xs[i]+2),wz (n:=(i:Int)+1),JM,PD,UJ]
  refine ABp (l:=4) (Y_ _ (FV k1 xs[i]+2) AQ2 hfx.2.2.1 (by show Bj k1 xs[i]≤_; omega)) rfl ⟨rfl,rfl,rfl,rfl,E_ _,AQ3,trivial⟩ ?_
  simp only[go_sem,q2,q3,hset,dh,bi,Jd,Ag,Int.reduceAdd,wz (n:=Bj k1 xs[i]+1),wz (n:=Bj k1 xs[i]+2),wz (n:=Bj k1 xs[i]+3),wz (n:=Bj k1 xs[i]+4),wz (n:=Bj k1 xs[i]+5),wz (n:=Bj k1 xs[i]+6),wz (n:=(i:Int)+1),JM,PD,UJ,dJ]
  refine ABp (l:=5) (Y7 _ (Bj k1 xs[i]+6) AQ2 hfx.2.2.2 (by show Qj k1 xs[i]≤_; omega)) rfl ⟨rfl,rfl,rfl,rfl,AO _,AQ3,trivial⟩ ?_
  simp only[go_sem,q2,q3,hset,dh,bi,Jd,Ag,Int.reduceAdd,wz (n:=(i:Int)+1),JM,PD,UJ,dJ,ACT]
  refine⟨(i+1,dn ++ [LQ k1 xs[i]],G5 k1 xs[i]),.inr ⟨i,(dn++xs.drop i).map DTask.o, ?rowr,DTask.o (LQ k1 xs[i]), ?ob,⟨aa3, ?e1, ?e2,q3, ?e3⟩, ?own,⟨rfl, ?tr⟩, ?eq⟩,hP.step hi P9, ?mu⟩
  case e1=>exact rfl
  case e2=>exact rfl
  case e3=>exact rfl
  case own=>rw[AFT]; exact⟨rfl,rfl,rfl,rfl,rfl,rfl,rfl,rfl,rfl,rfl,BH _,AQ3,rfl,rfl,rfl,rfl,rfl,rfl,rfl,rfl,rfl,rfl,rfl,rfl,rfl,rfl,rfl,rfl,rfl,rfl,rfl,rfl,BC _,AQ3,rfl,rfl,rfl,rfl,rfl,rfl,AX _,AQ3,rfl,rfl,rfl,rfl,rfl,rfl,rfl,rfl,E_ _,AQ3,rfl,rfl,rfl,rfl,rfl,rfl,rfl,rfl,rfl,rfl,rfl,rfl,rfl,rfl,rfl,rfl,AO _,AQ3,fun l hl=>AQ2⟩
  case eq=>unfold Am; rw[hst,UK]; rfl
  case tr=>unfold Am; rw[hst]; exact Dn (BK YE)
  case mu=>simp only; omega
 ·obtain⟨y1,y2⟩:=hP.finL h
  simp only[go_sem]
  rw[y1,y2]
  exact⟨[.ref 0],[.ow 132 25 _],[.c (.v (.int .i64 _))],rfl,.inr rfl,⟨rfl,rfl,rfl,rfl,GU _,AQ3,trivial⟩,by simp only[EP,Hr,wI,aF],rfl,rfl,rfl,rfl⟩
theorem gW (xs:List DTask) (k:Int) (hk:0≤k) (hx:fitS Ff xs) (hb:Eh G5 k xs≤4000000000000000000):HdE prog 76 DTask.c LQ G5 xs (k):=by
 have hxl:=hx.1
 refine CM call76 func76 ntmps76 results76 fun hw=>?_
 simp only[go_sem]
 refine AAa 0 [0,1,5] (A:=Nat×Int) (lK 261 DTask.c LQ G5 xs k) (HdX LQ G5 xs k) (fun x=>xs.length-x.1) (0,k) ⟨⟨rfl,rfl⟩,rfl,HdX.start⟩ ?_
 rintro⟨i,k1⟩ hP
 refine AQ0 (fun h=>?_) fun h=>?_
 ·have hi:i<xs.length:=by simpa using h
  obtain⟨q2,q4,q5⟩:=hP.room hi P9 DTask.c
  rw[UK] at q4
  have hle:=qX k1 xs[i]
  have hfx:=hx.2 _ (aj hi)
  rw[AFS] at q2
  simp only[go_sem,q2,Jd,aB,ax,Ag,Int.reduceAdd,wz (n:=k1+1),wz (n:=k1+2),wz (n:=k1+3),wz (n:=(i:Int)+1)]
  refine AAN _ (Lp _ (k1+3) AQ2 hfx.1 (by show Az k1 xs[i]≤_; omega)) fun _=>?_
  have hg1:=Nb (x:=Az k1 xs[i]) AQ2
  simp only[go_sem,q2,Jd,aB,ax,Ag,Int.reduceAdd,wz (n:=Az k1 xs[i]+1),wz (n:=Az k1 xs[i]+2),wz (n:=Az k1 xs[i]+3),wz (n:=Az k1 xs[i]+4),wz (n:=Az k1 xs[i]+5),wz (n:=Az k1 xs[i]+6),wz (n:=Az k1 xs[i]+7),wz (n:=(i:Int)+1),JM,hg1]
  refine AAO ?_
  simp only[go_sem,q2,Jd,aB,ax,Ag,Int.reduceAdd,wz (n:=Az k1 xs[i]+1),wz (n:=Az k1 xs[i]+2),wz (n:=Az k1 xs[i]+3),wz (n:=Az k1 xs[i]+4),wz (n:=Az k1 xs[i]+5),wz (n:=Az k1 xs[i]+6),wz (n:=Az k1 xs[i]+7),wz (n:=(i:Int)+1),JM,hg1]
  refine AAS _ (EQ (Az k1 xs[i]+7) AQ2 AQ2) ?_
  simp only[go_sem,q2,Jd,aB,ax,Ag,Int.reduceAdd,wz (n:=Az k1 xs[i]+8),wz (n:=(i:Int)+1),JM,hg1]
  refine AAN _ (SQ _ (Az k1 xs[i]+8) AQ2 (Eq.mp (BG _) hfx.2.1.1).2 (by show Ho k1 xs[i]≤_; omega)) fun _=>?_
  have hg2:=Nb (x:=Ho k1 xs[i]) AQ2
  simp only[go_sem,q2,Jd,aB,ax,Ag,Int.reduceAdd,wz (n:=Ho k1 xs[i]+1),wz (n:=(i:Int)+1),JM,PD,hg1,hg2]
  refine AAN _ (Je _ (Ho k1 xs[i]+1) AQ2 hfx.2.1.2 (by show FV k1 xs[i]≤_; omega)) fun _=>?_
  have hg3:=Nb (x:=FV k1 xs[i]) AQ2
  simp only[go_sem,q2,Jd,aB,ax,Ag,Int.reduceAdd,wz (n:=FV k1 xs[i]+1),wz (n:=FV k1 xs[i]+2),wz (n:=(i:Int)+1),JM,PD,UJ,hg1,hg2,hg3]
  refine AAN _ (Uy _ (FV k1 xs[i]+2) AQ2 hfx.2.2.1 (by show Bj k1 xs[i]≤_; omega)) fun _=>?_
  have hg4:=Nb (x:=Bj k1 xs[i]) AQ2
  simp only[go_sem,q2,Jd,aB,ax,Ag,Int.reduceAdd,wz (n:=Bj k1 xs[i]+1),wz (n:=Bj k1 xs[i]+2),wz (n:=Bj k1 xs[i]+3),wz (n:=Bj k1 xs[i]+4),wz (n:=Bj k1 xs[i]+5),wz (n:=Bj k1 xs[i]+6),wz (n:=(i:Int)+1),JM,PD,UJ,dJ,hg1,hg2,hg3,hg4]
  refine AAN _ (Ux _ (Bj k1 xs[i]+6) AQ2 hfx.2.2.2 (by show Qj k1 xs[i]≤_; omega)) fun _=>?_
  have hg5:=Nb (x:=Qj k1 xs[i]) AQ2
  simp only[go_sem,q2,Jd,aB,ax,Ag,Int.reduceAdd,wz (n:=(i:Int)+1),JM,PD,UJ,dJ,ACT,hg1,hg2,hg3,hg4,hg5]
  refine⟨(i+1,Qj k1 xs[i]),⟨rfl,rfl⟩,rfl,hP.step hi P9, ?mu⟩
  case mu=>simp only; omega
 ·have:=hP.finL h
  subst this
  exact AIu
end Go.Proofs.YthmifbbmgnhddaaGreat
