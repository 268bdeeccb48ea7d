/- A part. -/
import Derived.Test.YtnoldekcdlaahaaGreatPBg
set_option linter.unusedSimpArgs false
set_option linter.unusedVariables false
set_option maxHeartbeats 2000000
set_option maxRecDepth 10000
open Go.Proofs.Tryz
namespace Go.Proofs.YtnoldekcdlaahaaGreat
open Go.Vm
section
variable {p q r:Prop}
theorem AP5(h:p:=by kernel_rfl):p:=h
end
theorem Ug (l:List Int):JR (l.map intC)=true:=BL fun _=>rfl
theorem qA (l:List Int):JR (l.map byteC)=true:=BL fun _=>rfl
theorem Uh (l:List DVal):JR (l.map DVal.c)=true:=BL fun _=>rfl
theorem Y9 (d:DRow):Fj d.o=true:=by
 rw[DRow.o_eq]
 simp[Fj,Jo,Uh]
theorem lD (l:List DRow):JR (l.map DRow.o)=true:=BL Y9
theorem QZ:∀ (n:Nat) (d:DPred),SizeOf.sizeOf d≤n→Fj d.o=true
 | 0,d,h=>APf
 | n+1,d,h=>by
  have hm:JR (d.l.map DPred.o)=true:=Ym fun y hy=>by
   obtain⟨x,hx,rfl⟩:=sD.1 hy
   refine QZ n x ?_
   exact AMW
  rw[DPred.o_eq]
  simp[Fj,Jo,hm,DVal.c_eq]
theorem WH (d:DPred):Fj d.o=true:=QZ _ d (aT _)
theorem Y_ (l:List DPred):JR (l.map DPred.o)=true:=BL WH
theorem WI (d:DSlot):Fj d.o=true:=by
 rw[DSlot.o_eq]
 simp[Fj,Jo,Uh]
theorem ZA (l:List DSlot):JR (l.map DSlot.o)=true:=BL WI
theorem Es (d:DChunk):Fj d.o=true:=by
 rw[DChunk.o_eq]
 simp[Fj,Jo,ZA]
theorem ZB (d:DBuf):Fj d.o=true:=by
 rw[DBuf.o_eq]
 simp[Fj,Jo,DChunk.o_eq,ZA,qA]
theorem Jh (l:List DBuf):JR (l.map DBuf.o)=true:=BL ZB
theorem qB (l:List DDead):JR (l.map DDead.c)=true:=BL fun _=>rfl
theorem Yc (l:List DRef):JR (l.map DRef.c)=true:=BL fun _=>rfl
theorem ZC (d:DDir):Fj d.o=true:=by
 rw[DDir.o_eq]
 simp[Fj,Jo,Yc]
theorem WJ (d:DTask):Fj d.o=true:=by
 rw[DTask.o_eq]
 simp[Fj,Jo,DPred.o_eq,DQuery.o_eq,DVal.c_eq,Y_,Yc,lD,Uh,Ug]
theorem qC (l:List DTask):JR (l.map DTask.o)=true:=BL WJ
theorem WL (d:DDeed):Fj d.o=true:=by
 rw[DDeed.o_eq]
 simp[Fj,Jo,DPred.o_eq,DQuery.o_eq,DResult.o_eq,DVal.c_eq,Y_,lD,Uh,Ug]
theorem qE (l:List DDeed):JR (l.map DDeed.o)=true:=BL WL
theorem AAu (d:DConf):Fj d.o=true:=by
 rw[DConf.o_eq]
 simp[Fj,Jo,Ug]
theorem Ti (d:DWorld):Fj d.o=true:=by
 rw[DWorld.o_eq]
 simp[Fj,Jo,DConf.o_eq,DDir.o_eq,Jh,qB,qE,Yc,qC,Ug]
theorem LM (xs:List Int) (k:Int) (hk:0≤k) (hx:xs.length≤1048576) (hb:D5 J8 k xs≤4000000000000000000):wI prog 53 3 1 intC pW J8 xs (k):=by
 have hxl:=hx
 refine ACT (fn:=f53) call53 func53 rfl mixed ntmps53 results53 AP5 rfl (.inr rfl) fun us hw0 hw=>?_
 simp only[go_sem]
 refine ABf 1 [0,1,5] (A:=Nat×List Int×Int) (mkS us 19 3 1 intC xs) (MkX pW J8 xs k) (fun x=>xs.length-x.1) (0,[],k) ⟨⟨rfl,Dq (BL fun d=>rfl)⟩,rfl,MkX.start⟩ ?_
 rintro⟨i,dn,k1⟩ hP
 have hn:=hP.len
 refine AOL (fun h=>?_) fun h=>?_
 ·have hi:i<xs.length:=by simpa using h
  obtain⟨q2,q4,q5,q3⟩:=hP.room hi Jf intC
  have hst:=hP.set hi intC (pW k1 xs[i])
  rw[show intC (pW k1 xs[i]) = [.v (.int .i64 (k1))] from rfl] at hst
  have hset:=set_self (R:=(dn++xs.drop i).map intC) (i:=i) q3
  have q4:k1+1≤D5 J8 k xs:=q4
  rw[zH] at q2
  simp only[go_sem,q2,q3,hset,ai,ah,JB,Af,Int.reduceAdd,wz (n:=k1+1),wz (n:=(i:Int)+1)]
  rw[hst]
  refine⟨(i+1,dn ++ [pW k1 xs[i]],k1+1),⟨rfl,Dq (BL fun d=>rfl)⟩,rfl,hP.step hi Jf, ?mu⟩
  case mu=>simp only; omega
 ·obtain⟨y1,y2⟩:=hP.finL h
  simp only[go_sem]
  rw[y1,y2]
  exact⟨[.ref 0],[.ow 3 1 _],[.c (.v (.int .i64 _))],rfl,.inr rfl,⟨rfl,rfl,rfl,rfl,AX _,AOR,trivial⟩,by simp only[Fj,Jo,Ug,aN],rfl,rfl,rfl,rfl⟩
theorem JC (xs:List Int) (k:Int) (hk:0≤k) (hx:xs.length≤1048576) (hb:D5 J8 k xs≤4000000000000000000):zG prog 60 intC pW J8 xs (k):=by
 have hxl:=hx
 refine CM call60 func60 ntmps60 results60 fun hw=>?_
 simp only[go_sem]
 refine ABf 0 [0,1,5] (A:=Nat×Int) (iD 21 intC pW J8 xs k) (HdX pW J8 xs k) (fun x=>xs.length-x.1) (0,k) ⟨⟨rfl,rfl⟩,rfl,HdX.start⟩ ?_
 rintro⟨i,k1⟩ hP
 refine AOM (fun h=>?_) fun h=>?_
 ·have hi:i<xs.length:=by simpa using h
  obtain⟨q2,q4,q5⟩:=hP.room hi Jf intC
  have q4:k1+1≤D5 J8 k xs:=q4
  rw[show intC (pW k1 xs[i]) = [.v (.int .i64 (k1))] from rfl] at q2
  exact AL5
 ·have:=hP.finL h
  subst this
  exact AI5
theorem lF (xs:List Int) (k:Int) (hk:0≤k) (hx:xs.length≤1048576) (hb:D5 J8 k xs≤4000000000000000000):wI prog 135 5 1 byteC mkY J8 xs (k):=by
 have hxl:=hx
 refine ACT (fn:=f135) call135 func135 rfl mixed ntmps135 results135 AP5 rfl (.inr rfl) fun us hw0 hw=>?_
 simp only[go_sem]
 refine ABf 1 [0,1,5] (A:=Nat×List Int×Int) (mkS us 20 5 1 byteC xs) (MkX mkY J8 xs k) (fun x=>xs.length-x.1) (0,[],k) ⟨⟨rfl,Dq (BL fun d=>rfl)⟩,rfl,MkX.start⟩ ?_
 rintro⟨i,dn,k1⟩ hP
 have hn:=hP.len
 refine AOL (fun h=>?_) fun h=>?_
 ·have hi:i<xs.length:=by simpa using h
  obtain⟨q2,q4,q5,q3⟩:=hP.room hi Jf byteC
  have hst:=hP.set hi byteC (mkY k1 xs[i])
  rw[show byteC (mkY k1 xs[i]) = [.v (.int .u8 (IntKind.u8.wrap (k1)))] from rfl] at hst
  have hset:=set_self (R:=(dn++xs.drop i).map byteC) (i:=i) q3
  have q4:k1+1≤D5 J8 k xs:=q4
  rw[Oa] at q2
  simp only[go_sem,q2,q3,hset,ai,ah,JB,Af,Int.reduceAdd,wz (n:=k1+1),wz (n:=(i:Int)+1)]
  rw[hst]
  refine⟨(i+1,dn ++ [mkY k1 xs[i]],k1+1),⟨rfl,Dq (BL fun d=>rfl)⟩,rfl,hP.step hi Jf, ?mu⟩
  case mu=>simp only; omega
 ·obtain⟨y1,y2⟩:=hP.finL h
  simp only[go_sem]
  rw[y1,y2]
  exact⟨[.ref 0],[.ow 5 1 _],[.c (.v (.int .i64 _))],rfl,.inr rfl,⟨rfl,rfl,rfl,rfl,CQ _,AOR,trivial⟩,by simp only[Fj,Jo,qA,aN],rfl,rfl,rfl,rfl⟩
theorem ZE (xs:List Int) (k:Int) (hk:0≤k) (hx:xs.length≤1048576) (hb:D5 J8 k xs≤4000000000000000000):zG prog 142 byteC mkY J8 xs (k):=by
 have hxl:=hx
 refine CM call142 func142 ntmps142 results142 fun hw=>?_
 simp only[go_sem]
 refine ABf 0 [0,1,5] (A:=Nat×Int) (iD 22 byteC mkY J8 xs k) (HdX mkY J8 xs k) (fun x=>xs.length-x.1) (0,k) ⟨⟨rfl,rfl⟩,rfl,HdX.start⟩ ?_
 rintro⟨i,k1⟩ hP
 refine AOM (fun h=>?_) fun h=>?_
 ·have hi:i<xs.length:=by simpa using h
  obtain⟨q2,q4,q5⟩:=hP.room hi Jf byteC
  have q4:k1+1≤D5 J8 k xs:=q4
  rw[show byteC (mkY k1 xs[i]) = [.v (.int .u8 (IntKind.u8.wrap (k1)))] from rfl] at q2
  exact AL5
 ·have:=hP.finL h
  subst this
  exact AI5
def EF (k:Int) (x:DVal):Int:=k+3
def JX (k:Int) (x:DVal):DVal:=⟨k,k+1,IJ (k+2)⟩
theorem ZF (k:Int) (x:DVal):EF k x=k+3:=rfl
theorem zJ (k:Int) (x:DVal):(JX k x).c = [.v (.int .i64 (k)),.v (.int .i64 (k+1)),.v (.string (IJ (k+2)))]:=by rw[DVal.c_eq]; rfl
theorem LP (k:Int) (x:DVal):k≤EF k x:=by unfold EF; omega
theorem Ui (x:DVal) (k l:Int) (h0:0≤BA x l) (hl:l≤1048576):EF k x+64*BA x l≤k+64*l+64:=by
 have d1:=h0
 rw[H9] at d1
 obtain⟨a1_0,b1_0,e1_0⟩:=AZ d1
 have w1_0:=(CB a1_0 AOQ).2
 have IL:BA x l=(F6 x.s.size l):=(H9 x l).trans (e1_0)
 rw[ZF,IL]; omega
theorem Nl (xs:List DVal) (k:Int) (hk:0≤k) (hx:fitS Gj xs) (hb:D5 EF k xs≤4000000000000000000):wI prog 136 64 3 DVal.c JX EF xs (k):=by
 have hxl:=hx.1
 refine ACT (fn:=f136) call136 func136 rfl mixed ntmps136 results136 AP5 rfl (.inr rfl) fun us hw0 hw=>?_
 simp only[go_sem]
 refine ABf 1 [0,1,5] (A:=Nat×List DVal×Int) (mkS us 35 64 3 DVal.c xs) (MkX JX EF xs k) (fun x=>xs.length-x.1) (0,[],k) ⟨⟨rfl,Dq (BL fun d=>rfl)⟩,rfl,MkX.start⟩ ?_
 rintro⟨i,dn,k1⟩ hP
 have hn:=hP.len
 refine AOL (fun h=>?_) fun h=>?_
 ·have hi:i<xs.length:=by simpa using h
  obtain⟨q2,q4,q5,q3⟩:=hP.room hi LP DVal.c
  have hst:=hP.set hi DVal.c (JX k1 xs[i])
  rw[zJ] at hst
  have hset:=set_self (R:=(dn++xs.drop i).map DVal.c) (i:=i) q3
  rw[ZF] at q4
  have hfx:=hx.2 _ (ax hi)
  rw[DVal.c_eq] at q2
  try simp only[aU,aO] at q2
  simp only[go_sem,q2,q3,hset,ai,ah,JB,Af,Int.reduceAdd,wz (n:=k1+1),wz (n:=k1+2),wz (n:=(i:Int)+1)]
  refine AAM _ (ET (k1+2) AOQ AOQ) fun _=>?_
  simp only[go_sem,q2,q3,hset,ai,ah,JB,Af,Int.reduceAdd,wz (n:=k1+3),wz (n:=(i:Int)+1)]
  rw[hst]
  refine⟨(i+1,dn ++ [JX k1 xs[i]],k1+3),⟨rfl,Dq (BL fun d=>rfl)⟩,rfl,hP.step hi LP, ?mu⟩
  case mu=>simp only; omega
 ·obtain⟨y1,y2⟩:=hP.finL h
  simp only[go_sem]
  rw[y1,y2]
  exact⟨[.ref 0],[.ow 64 3 _],[.c (.v (.int .i64 _))],rfl,.inr rfl,⟨rfl,rfl,rfl,rfl,DD _,AOR,trivial⟩,by simp only[Fj,Jo,Uh,aN],rfl,rfl,rfl,rfl⟩
theorem Kw (xs:List DVal) (k:Int) (hk:0≤k) (hx:fitS Gj xs) (hb:D5 EF k xs≤4000000000000000000):zG prog 143 DVal.c JX EF xs (k):=by
 have hxl:=hx.1
 refine CM call143 func143 ntmps143 results143 fun hw=>?_
 simp only[go_sem]
 refine ABf 0 [0,1,5] (A:=Nat×Int) (iD 41 DVal.c JX EF xs k) (HdX JX EF xs k) (fun x=>xs.length-x.1) (0,k) ⟨⟨rfl,rfl⟩,rfl,HdX.start⟩ ?_
 rintro⟨i,k1⟩ hP
 refine AOM (fun h=>?_) fun h=>?_
 ·have hi:i<xs.length:=by simpa using h
  obtain⟨q2,q4,q5⟩:=hP.room hi LP DVal.c
  rw[ZF] at q4
  have hfx:=hx.2 _ (ax hi)
  rw[zJ] at q2
  simp only[go_sem,q2,JB,aC,az,Af,Int.reduceAdd,wz (n:=k1+1),wz (n:=k1+2),wz (n:=(i:Int)+1)]
  refine AAm ?_
  simp only[go_sem,q2,JB,aC,az,Af,Int.reduceAdd,wz (n:=k1+1),wz (n:=k1+2),wz (n:=(i:Int)+1)]
  refine ABL _ (ET (k1+2) AOQ AOQ) ?_
  simp only[go_sem,q2,JB,aC,az,Af,Int.reduceAdd,wz (n:=k1+3),wz (n:=(i:Int)+1)]
  refine⟨(i+1,k1+3),⟨rfl,rfl⟩,rfl,hP.step hi LP, ?mu⟩
  case mu=>simp only; omega
 ·have:=hP.finL h
  subst this
  exact AI5
def Uj (k:Int) (x:DRow):Int:=D5 EF (k+1) x.l
theorem ACZ (k:Int) (x:DRow):D5 EF (k+1) x.l=Uj k x:=rfl
def Gp (k:Int) (x:DRow):Int:=Uj k x
def mkRow (k:Int) (x:DRow):DRow:=⟨k,IE JX EF (k+1) x.l⟩
theorem Uk (k:Int) (x:DRow):Gp k x=Uj k x:=rfl
theorem AEc (k:Int) (x:DRow):(mkRow k x).c = [.v (.int .i64 (k)),.sl ((IE JX EF (k+1) x.l).map DVal.c)]:=by rw[DRow.c_eq]; rfl
theorem AEd (k:Int) (x:DRow):(mkRow k x).o = [.v (.int .i64 (k)),.ow 64 3 ((IE JX EF (k+1) x.l).map DVal.c)]:=by rw[DRow.o_eq]; rfl
theorem wJ (k:Int) (x:DRow):k+1≤Uj k x:=Ep LP _ _
theorem Oe (k:Int) (x:DRow):k≤Gp k x:=by have:=wJ k x; unfold Gp; omega
theorem qF (x:DRow) (k l:Int) (h0:0≤Jg x l) (hl:l≤1048576):Gp k x+64*Jg x l≤k+64*l+64:=by
 have d1:=h0
 rw[Ub] at d1
 obtain⟨a1_0,b1_0,e1_0⟩:=AZ d1
 have w1_0:=(Dp x.l (fun x _=>D7 x) a1_0 AOQ).2
 have IL:Jg x l=(DW BA x.l l):=(Ub x l).trans (e1_0)
 have:Uj k x+64*(DW BA x.l l)≤k+1+64*l:=KD _ (fun y _ k l a b=>⟨Ui y k l a b,(D7 y l a b).2⟩) _ a1_0 AOQ
 rw[Uk,IL]; omega
theorem XZ (xs:List DRow) (k:Int) (hk:0≤k) (hx:fitS Hf xs) (hb:D5 Gp k xs≤4000000000000000000):wI prog 139 204 2 DRow.o mkRow Gp xs (k):=by
 have hxl:=hx.1
 refine ACT (fn:=f139) call139 func139 rfl mixed ntmps139 results139 AP5 rfl (.inr rfl) fun us hw0 hw=>?_
 simp only[go_sem]
 refine ACS 1 0 [0,1,5] (A:=Nat×List DRow×Int) (mkS us 27 204 2 DRow.o xs) (MkX mkRow Gp xs k) (fun x=>xs.length-x.1) (0,[],k) ⟨⟨rfl,Dq (BL Y9)⟩,rfl,MkX.start⟩ ?_
 rintro⟨i,dn,k1⟩ hP
 have hn:=hP.len
 refine AOL (fun h=>?_) fun h=>?_
 ·have hi:i<xs.length:=by simpa using h
  obtain⟨q2,q4,q5,q3⟩:=hP.room hi Oe DRow.o
  have hst:=hP.set hi DRow.o (mkRow k1 xs[i])
  have hset:=set_self (R:=(dn++xs.drop i).map DRow.o) (i:=i) q3
  rw[Uk] at q4
  have hle:=wJ k1 xs[i]
  have hfx:=hx.2 _ (ax hi)
  rw[DRow.o_eq] at q2
  try simp only[aU,aO] at q2
  simp only[go_sem,q2,q3,hset,ai,ah,JB,Af,Int.reduceAdd,wz (n:=k1+1),wz (n:=(i:Int)+1)]
  refine ACN (l:=1) (Nl _ (k1+1) AOQ hfx (by show Uj k1 xs[i]≤_; omega)) rfl ⟨rfl,rfl,rfl,rfl,DD _,AOR,trivial⟩ ?_
  simp only[go_sem,q2,q3,hset,ai,ah,JB,Af,Int.reduceAdd,wz (n:=(i:Int)+1),ACZ]
  refine⟨(i+1,dn ++ [mkRow k1 xs[i]],Gp k1 xs[i]),.inr ⟨i,(dn++xs.drop i).map DRow.o, ?rowr,DRow.o (mkRow k1 xs[i]), ?ob,⟨aaR, ?e1, ?e2,q3, ?e3⟩, ?own,⟨rfl, ?tr⟩, ?eq⟩,hP.step hi Oe, ?mu⟩
  case e1=>exact rfl
  case e2=>exact rfl
  case e3=>exact rfl
  case own=>rw[AEd]; exact⟨rfl,rfl,rfl,rfl,rfl,rfl,DD _,AOR,fun l hl=>AOQ⟩
  case eq=>unfold BV; rw[hst,Uk]; rfl
  case tr=>unfold BV; rw[hst]; exact Dq (BL Y9)
  case mu=>simp only; omega
 ·obtain⟨y1,y2⟩:=hP.finL h
  simp only[go_sem]
  rw[y1,y2]
  exact⟨[.ref 0],[.ow 204 2 _],[.c (.v (.int .i64 _))],rfl,.inr rfl,⟨rfl,rfl,rfl,rfl,BF _,AOR,trivial⟩,by simp only[Fj,Jo,lD,aN],rfl,rfl,rfl,rfl⟩
theorem TI (xs:List DRow) (k:Int) (hk:0≤k) (hx:fitS Hf xs) (hb:D5 Gp k xs≤4000000000000000000):zG prog 145 DRow.c mkRow Gp xs (k):=by
 have hxl:=hx.1
 refine CM call145 func145 ntmps145 results145 fun hw=>?_
 simp only[go_sem]
 refine ABf 0 [0,1,5] (A:=Nat×Int) (iD 31 DRow.c mkRow Gp xs k) (HdX mkRow Gp xs k) (fun x=>xs.length-x.1) (0,k) ⟨⟨rfl,rfl⟩,rfl,HdX.start⟩ ?_
 rintro⟨i,k1⟩ hP
 refine AOM (fun h=>?_) fun h=>?_
 ·have hi:i<xs.length:=by simpa using h
  obtain⟨q2,q4,q5⟩:=hP.room hi Oe DRow.c
  rw[Uk] at q4
  have hle:=wJ k1 xs[i]
  have hfx:=hx.2 _ (ax hi)
  rw[AEc] at q2
  simp only[go_sem,q2,JB,aC,az,Af,Int.reduceAdd,wz (n:=k1+1),wz (n:=(i:Int)+1)]
  refine AAM _ (Kw _ (k1+1) AOQ hfx (by show Uj k1 xs[i]≤_; omega)) fun _=>?_
  have hg1:=MG (x:=Uj k1 xs[i]) AOQ
  simp only[go_sem,q2,JB,aC,az,Af,Int.reduceAdd,wz (n:=(i:Int)+1),ACZ,hg1]
  refine⟨(i+1,Uj k1 xs[i]),⟨rfl,rfl⟩,rfl,hP.step hi Oe, ?mu⟩
  case mu=>simp only; omega
 ·have:=hP.finL h
  subst this
  exact AI5
mutual
def BZ:Int→DPred→Int
 | k,.mk _ _ _ _ l=>Ul (k+6) l
def Ul:Int→List DPred→Int
 | k,[]=>k
 | k,x::xs=>Ul (BZ k x) xs
end
mutual
def EU:Int→DPred→DPred
 | k,.mk _ _ _ _ l=>DPred.mk (k) (k+1) (k+2) (⟨k+3,k+4,IJ (k+5)⟩) (Um (k+6) l)
def Um:Int→List DPred→List DPred
 | k,[]=>[]
 | k,x::xs=>EU k x::Um (BZ k x) xs
end
theorem ZG:∀ (xs:List DPred) (k:Int),Ul k xs=D5 BZ k xs
 | [],k=>by simp only[Ul,D5]
 | x::xs,k=>by simp only[Ul,D5,ZG xs]
theorem ZH:∀ (xs:List DPred) (k:Int),Um k xs=IE EU BZ k xs
 | [],k=>by simp only[Um,IE]
 | x::xs,k=>by simp only[Um,IE,ZH xs]
def PP (k:Int) (x:DPred):Int:=D5 BZ (k+6) x.l
theorem zK (k:Int) (x:DPred):D5 BZ (k+6) x.l=PP k x:=rfl
theorem MZ (k:Int) (x:DPred):BZ k x=PP k x:=by cases x; simp only[BZ,ZG]; rfl
theorem jM (k:Int) (x:DPred):EU k x=DPred.mk (k) (k+1) (k+2) (⟨k+3,k+4,IJ (k+5)⟩) (IE EU BZ (k+6) x.l):=by cases x; simp only[EU,ZH]; rfl
theorem ACa (k:Int) (x:DPred):(EU k x).c = [.v (.int .i64 (k)),.v (.int .i64 (k+1)),.v (.int .i64 (k+2)),.v (.int .i64 (k+3)),.v (.int .i64 (k+4)),.v (.string (IJ (k+5))),.sl ((IE EU BZ (k+6) x.l).map DPred.c)]:=by rw[jM,DPred.c_eq]; rfl
theorem ACb (k:Int) (x:DPred):(EU k x).o = [.v (.int .i64 (k)),.v (.int .i64 (k+1)),.v (.int .i64 (k+2)),.v (.int .i64 (k+3)),.v (.int .i64 (k+4)),.v (.string (IJ (k+5))),.ow 67 7 ((IE EU BZ (k+6) x.l).map DPred.o)]:=by rw[jM,DPred.o_eq]; rfl
theorem ZI:∀ (n:Nat) (x:DPred),SizeOf.sizeOf x≤n→∀ k,k≤BZ k x
 | 0,x,h,k=>by cases x; simp at h
 | n+1,x,h,k=>by
  have h1:=zF (c:=BZ) x.l (fun y hy=>ZI n y (by
   have h1:SizeOf.sizeOf y<SizeOf.sizeOf x.l:=zg hy
   have h2:SizeOf.sizeOf x.l<SizeOf.sizeOf x:=APY
   omega)) (k+6)
  rw[MZ,PP]; omega
theorem KL (k:Int) (x:DPred):k≤BZ k x:=ZI _ x (aT _) k
theorem zL (k:Int) (x:DPred):k+6≤PP k x:=Ep KL _ _
theorem qG (x:DPred) (hx:∀ y∈x.l,∀ k l,0≤CJ y l→l≤1048576→BZ k y+64*CJ y l≤k+64*l+64) (k l:Int) (h0:0≤CJ x l) (hl:l≤1048576):BZ k x+64*CJ x l≤k+64*l+64:=by
 have d1:=h0
 rw[JV] at d1
 obtain⟨a1_0,b1_0,e1_0⟩:=AZ d1
 have w1_0:=(D7 x.v _ a1_0 AOQ).2
 have d2:=a1_0
 rw[H9] at d2
 obtain⟨a2_0,b2_0,e2_0⟩:=AZ d2
 have w2_0:=(CB a2_0 AOQ).2
 have eq2:BA x.v l=(F6 x.v.s.size l):=(H9 x.v l).trans (e2_0)
 obtain⟨a1_1,b1_1,e1_1⟩:=AZ b1_0
 have w1_1:=(Dp x.l (fun x _=>Hg x) a1_1 AOQ).2
 have IL:CJ x l=(DW CJ x.l (BA x.v l)):=(JV x l).trans ((e1_0).trans (e1_1))
 have:PP k x+64*(DW CJ x.l (BA x.v l))≤k+6+64*(BA x.v l):=KD _ (fun y hy k l a b=>⟨hx y hy k l a b,(Hg y l a b).2⟩) _ a1_1 AOQ
 rw[MZ,IL]; omega
theorem ZJ:∀ (n:Nat) (x:DPred),SizeOf.sizeOf x≤n→∀ k l,0≤CJ x l→l≤1048576→BZ k x+64*CJ x l≤k+64*l+64
 | 0,x,h=>by cases x; simp at h
 | n+1,x,h=>qG x fun y hy=>ZJ n y (by
  have h1:SizeOf.sizeOf y<SizeOf.sizeOf x.l:=zg hy
  have h2:SizeOf.sizeOf x.l<SizeOf.sizeOf x:=APY
  omega)
theorem jO (x:DPred) (k l:Int) (h0:0≤CJ x l) (hl:l≤1048576):BZ k x+64*CJ x l≤k+64*l+64:=ZJ _ x (aT _) k l h0 hl
theorem Un (xs:List DPred) (hr:∀ x∈xs,∀ k,0≤k→fitS BD x.l→D5 BZ k x.l≤4000000000000000000→wI prog 138 67 7 DPred.o EU BZ x.l (k)) (k:Int) (hk:0≤k) (hx:fitS BD xs) (hb:D5 BZ k xs≤4000000000000000000):wI prog 138 67 7 DPred.o EU BZ xs (k):=by
 have hxl:=hx.1
 refine ACT (fn:=f138) call138 func138 rfl mixed ntmps138 results138 AP5 rfl (.inr rfl) fun us hw0 hw=>?_
 simp only[go_sem]
 refine ACS 1 0 [0,1,5] (A:=Nat×List DPred×Int) (mkS us 66 67 7 DPred.o xs) (MkX EU BZ xs k) (fun x=>xs.length-x.1) (0,[],k) ⟨⟨rfl,Dq (BL WH)⟩,rfl,MkX.start⟩ ?_
 rintro⟨i,dn,k1⟩ hP
 have hn:=hP.len
 refine AOL (fun h=>?_) fun h=>?_
 ·have hi:i<xs.length:=by simpa using h
  obtain⟨q2,q4,q5,q3⟩:=hP.room hi KL DPred.o
  have hst:=hP.set hi DPred.o (EU k1 xs[i])
  have hset:=set_self (R:=(dn++xs.drop i).map DPred.o) (i:=i) q3
  rw[MZ] at q4
  have hle:=zL k1 xs[i]
  have hfx:=hx.2 _ (ax hi)
  rw[DPred.o_eq] at q2
  simp only[DVal.c_eq,aU,aO] at q2
  simp only[go_sem,q2,q3,hset,ai,ah,JB,Af,Int.reduceAdd,wz (n:=k1+1),wz (n:=k1+2),wz (n:=k1+3),wz (n:=k1+4),wz (n:=k1+5),wz (n:=(i:Int)+1)]
  refine AAM _ (ET (k1+5) AOQ AOQ) fun _=>?_
  simp only[go_sem,q2,q3,hset,ai,ah,JB,Af,Int.reduceAdd,wz (n:=k1+6),wz (n:=(i:Int)+1)]
  refine ACN (l:=1) (hr xs[i] (ax hi) (k1+6) AOQ (Eq.mp (Bg _) hfx).2 (by show PP k1 xs[i]≤_; omega)) rfl ⟨rfl,rfl,rfl,rfl,BR _,AOR,trivial⟩ ?_
  simp only[go_sem,q2,q3,hset,ai,ah,JB,Af,Int.reduceAdd,wz (n:=(i:Int)+1),zK]
  refine⟨(i+1,dn ++ [EU k1 xs[i]],BZ k1 xs[i]),.inr ⟨i,(dn++xs.drop i).map DPred.o, ?rowr,DPred.o (EU k1 xs[i]), ?ob,⟨aaR, ?e1, ?e2,q3, ?e3⟩, ?own,⟨rfl, ?tr⟩, ?eq⟩,hP.step hi KL, ?mu⟩
  case e1=>exact rfl
  case e2=>exact rfl
  case e3=>exact rfl
  case own=>rw[ACb]; exact⟨rfl,rfl,rfl,rfl,rfl,rfl,rfl,rfl,rfl,rfl,rfl,rfl,rfl,rfl,rfl,rfl,BR _,AOR,fun l hl=>AOQ⟩
  case eq=>unfold BV; rw[hst,MZ]; rfl
  case tr=>unfold BV; rw[hst]; exact Dq (BL WH)
  case mu=>simp only; omega
 ·obtain⟨y1,y2⟩:=hP.finL h
  simp only[go_sem]
  rw[y1,y2]
  exact⟨[.ref 0],[.ow 67 7 _],[.c (.v (.int .i64 _))],rfl,.inr rfl,⟨rfl,rfl,rfl,rfl,BR _,AOR,trivial⟩,by simp only[Fj,Jo,Y_,aN],rfl,rfl,rfl,rfl⟩
theorem Xa:∀ (n:Nat) (xs:List DPred),(∀ x∈xs,SizeOf.sizeOf x≤n)→∀ (k:Int),0≤k→fitS BD xs→D5 BZ k xs≤4000000000000000000→wI prog 138 67 7 DPred.o EU BZ xs (k)
 | 0,xs,h,k,h1,h2,h3=>Un xs (fun x hx=>by have:=h x hx; cases x; simp at this) k h1 h2 h3
 | n+1,xs,h,k,h1,h2,h3=>Un xs (fun x hx k g1 g2 g3=>Xa n x.l (fun y hy=>by
   have h1:SizeOf.sizeOf y<SizeOf.sizeOf x.l:=zg hy
   have h2:SizeOf.sizeOf x.l<SizeOf.sizeOf x:=APY
   have:=h x hx
   omega) k g1 g2 g3) k h1 h2 h3
theorem Uo (xs:List DPred) (k:Int) (hk:0≤k) (hx:fitS BD xs) (hb:D5 BZ k xs≤4000000000000000000):wI prog 138 67 7 DPred.o EU BZ xs (k):=Xa (SizeOf.sizeOf xs) xs (fun x hx=>Nat.le_of_lt (zg hx)) k hk hx hb
theorem Ur (xs:List DPred) (hr:∀ x∈xs,∀ k,0≤k→fitS BD x.l→D5 BZ k x.l≤4000000000000000000→zG prog 144 DPred.c EU BZ x.l (k)) (k:Int) (hk:0≤k) (hx:fitS BD xs) (hb:D5 BZ k xs≤4000000000000000000):zG prog 144 DPred.c EU BZ xs (k):=by
 have hxl:=hx.1
 refine CM call144 func144 ntmps144 results144 fun hw=>?_
 simp only[go_sem]
 refine ABf 0 [0,1,5] (A:=Nat×Int) (iD 80 DPred.c EU BZ xs k) (HdX EU BZ xs k) (fun x=>xs.length-x.1) (0,k) ⟨⟨rfl,rfl⟩,rfl,HdX.start⟩ ?_
 rintro⟨i,k1⟩ hP
 refine AOM (fun h=>?_) fun h=>?_
 ·have hi:i<xs.length:=by simpa using h
  obtain⟨q2,q4,q5⟩:=hP.room hi KL DPred.c
  rw[MZ] at q4
  have hle:=zL k1 xs[i]
  have hfx:=hx.2 _ (ax hi)
  rw[ACa] at q2
  simp only[go_sem,q2,JB,aC,az,Af,Int.reduceAdd,wz (n:=k1+1),wz (n:=k1+2),wz (n:=k1+3),wz (n:=k1+4),wz (n:=k1+5),wz (n:=(i:Int)+1)]
  refine AAm ?_
  simp only[go_sem,q2,JB,aC,az,Af,Int.reduceAdd,wz (n:=k1+1),wz (n:=k1+2),wz (n:=k1+3),wz (n:=k1+4),wz (n:=k1+5),wz (n:=(i:Int)+1)]
  refine ABL _ (ET (k1+5) AOQ AOQ) ?_
  simp only[go_sem,q2,JB,aC,az,Af,Int.reduceAdd,wz (n:=k1+6),wz (n:=(i:Int)+1)]
  refine AAM _ (hr xs[i] (ax hi) (k1+6) AOQ (Eq.mp (Bg _) hfx).2 (by show PP k1 xs[i]≤_; omega)) fun _=>?_
  have hg1:=MG (x:=PP k1 xs[i]) AOQ
  simp only[go_sem,q2,JB,aC,az,Af,Int.reduceAdd,wz (n:=(i:Int)+1),zK,hg1]
  refine⟨(i+1,PP k1 xs[i]),⟨rfl,rfl⟩,rfl,MZ k1 xs[i]▸hP.step hi KL, ?mu⟩
  case mu=>simp only; omega
 ·have:=hP.finL h
  subst this
  exact AI5
theorem Xb:∀ (n:Nat) (xs:List DPred),(∀ x∈xs,SizeOf.sizeOf x≤n)→∀ (k:Int),0≤k→fitS BD xs→D5 BZ k xs≤4000000000000000000→zG prog 144 DPred.c EU BZ xs (k)
 | 0,xs,h,k,h1,h2,h3=>Ur xs (fun x hx=>by have:=h x hx; cases x; simp at this) k h1 h2 h3
 | n+1,xs,h,k,h1,h2,h3=>Ur xs (fun x hx k g1 g2 g3=>Xb n x.l (fun y hy=>by
   have h1:SizeOf.sizeOf y<SizeOf.sizeOf x.l:=zg hy
   have h2:SizeOf.sizeOf x.l<SizeOf.sizeOf x:=APY
   have:=h x hx
   omega) k g1 g2 g3) k h1 h2 h3
theorem Qa (xs:List DPred) (k:Int) (hk:0≤k) (hx:fitS BD xs) (hb:D5 BZ k xs≤4000000000000000000):zG prog 144 DPred.c EU BZ xs (k):=Xb (SizeOf.sizeOf xs) xs (fun x hx=>Nat.le_of_lt (zg hx)) k hk hx hb
def PQ (k:Int) (x:DSlot):Int:=D5 EF (k+1) x.l
theorem zM (k:Int) (x:DSlot):D5 EF (k+1) x.l=PQ k x:=rfl
def Et (k:Int) (x:DSlot):Int:=PQ k x
def KN (k:Int) (x:DSlot):DSlot:=⟨k,IE JX EF (k+1) x.l⟩
theorem R_ (k:Int) (x:DSlot):Et k x=PQ k x:=rfl
theorem ACc (k:Int) (x:DSlot):(KN k x).c = [.v (.int .i64 (k)),.sl ((IE JX EF (k+1) x.l).map DVal.c)]:=by rw[DSlot.c_eq]; rfl
theorem ACd (k:Int) (x:DSlot):(KN k x).o = [.v (.int .i64 (k)),.ow 64 3 ((IE JX EF (k+1) x.l).map DVal.c)]:=by rw[DSlot.o_eq]; rfl
theorem lG (k:Int) (x:DSlot):k+1≤PQ k x:=Ep LP _ _
theorem Mc (k:Int) (x:DSlot):k≤Et k x:=by have:=lG k x; unfold Et; omega
theorem AAv (x:DSlot) (k l:Int) (h0:0≤Ll x l) (hl:l≤1048576):Et k x+64*Ll x l≤k+64*l+64:=by
 have d1:=h0
 rw[Rw] at d1
 obtain⟨a1_0,b1_0,e1_0⟩:=AZ d1
 have w1_0:=(Dp x.l (fun x _=>D7 x) a1_0 AOQ).2
 have IL:Ll x l=(DW BA x.l l):=(Rw x l).trans (e1_0)
 have:PQ k x+64*(DW BA x.l l)≤k+1+64*l:=KD _ (fun y _ k l a b=>⟨Ui y k l a b,(D7 y l a b).2⟩) _ a1_0 AOQ
 rw[R_,IL]; omega
theorem lH (xs:List DSlot) (k:Int) (hk:0≤k) (hx:fitS Kv xs) (hb:D5 Et k xs≤4000000000000000000):wI prog 134 199 2 DSlot.o KN Et xs (k):=by
 have hxl:=hx.1
 refine ACT (fn:=f134) call134 func134 rfl mixed ntmps134 results134 AP5 rfl (.inr rfl) fun us hw0 hw=>?_
 simp only[go_sem]
 refine ACS 1 0 [0,1,5] (A:=Nat×List DSlot×Int) (mkS us 27 199 2 DSlot.o xs) (MkX KN Et xs k) (fun x=>xs.length-x.1) (0,[],k) ⟨⟨rfl,Dq (BL WI)⟩,rfl,MkX.start⟩ ?_
 rintro⟨i,dn,k1⟩ hP
 have hn:=hP.len
 refine AOL (fun h=>?_) fun h=>?_
 ·have hi:i<xs.length:=by simpa using h
  obtain⟨q2,q4,q5,q3⟩:=hP.room hi Mc DSlot.o
  have hst:=hP.set hi DSlot.o (KN k1 xs[i])
  have hset:=set_self (R:=(dn++xs.drop i).map DSlot.o) (i:=i) q3
  rw[R_] at q4
  have hle:=lG k1 xs[i]
  have hfx:=hx.2 _ (ax hi)
  rw[DSlot.o_eq] at q2
  try simp only[aU,aO] at q2
  simp only[go_sem,q2,q3,hset,ai,ah,JB,Af,Int.reduceAdd,wz (n:=k1+1),wz (n:=(i:Int)+1)]
  refine ACN (l:=1) (Nl _ (k1+1) AOQ hfx (by show PQ k1 xs[i]≤_; omega)) rfl ⟨rfl,rfl,rfl,rfl,DD _,AOR,trivial⟩ ?_
  simp only[go_sem,q2,q3,hset,ai,ah,JB,Af,Int.reduceAdd,wz (n:=(i:Int)+1),zM]
  refine⟨(i+1,dn ++ [KN k1 xs[i]],Et k1 xs[i]),.inr ⟨i,(dn++xs.drop i).map DSlot.o, ?rowr,DSlot.o (KN k1 xs[i]), ?ob,⟨aaR, ?e1, ?e2,q3, ?e3⟩, ?own,⟨rfl, ?tr⟩, ?eq⟩,hP.step hi Mc, ?mu⟩
  case e1=>exact rfl
  case e2=>exact rfl
  case e3=>exact rfl
  case own=>rw[ACd]; exact⟨rfl,rfl,rfl,rfl,rfl,rfl,DD _,AOR,fun l hl=>AOQ⟩
  case eq=>unfold BV; rw[hst,R_]; rfl
  case tr=>unfold BV; rw[hst]; exact Dq (BL WI)
  case mu=>simp only; omega
 ·obtain⟨y1,y2⟩:=hP.finL h
  simp only[go_sem]
  rw[y1,y2]
  exact⟨[.ref 0],[.ow 199 2 _],[.c (.v (.int .i64 _))],rfl,.inr rfl,⟨rfl,rfl,rfl,rfl,ED _,AOR,trivial⟩,by simp only[Fj,Jo,ZA,aN],rfl,rfl,rfl,rfl⟩
theorem ZK (xs:List DSlot) (k:Int) (hk:0≤k) (hx:fitS Kv xs) (hb:D5 Et k xs≤4000000000000000000):zG prog 141 DSlot.c KN Et xs (k):=by
 have hxl:=hx.1
 refine CM call141 func141 ntmps141 results141 fun hw=>?_
 simp only[go_sem]
 refine ABf 0 [0,1,5] (A:=Nat×Int) (iD 31 DSlot.c KN Et xs k) (HdX KN Et xs k) (fun x=>xs.length-x.1) (0,k) ⟨⟨rfl,rfl⟩,rfl,HdX.start⟩ ?_
 rintro⟨i,k1⟩ hP
 refine AOM (fun h=>?_) fun h=>?_
 ·have hi:i<xs.length:=by simpa using h
  obtain⟨q2,q4,q5⟩:=hP.room hi Mc DSlot.c
  rw[R_] at q4
  have hle:=lG k1 xs[i]
  have hfx:=hx.2 _ (ax hi)
  rw[ACc] at q2
  simp only[go_sem,q2,JB,aC,az,Af,Int.reduceAdd,wz (n:=k1+1),wz (n:=(i:Int)+1)]
  refine AAM _ (Kw _ (k1+1) AOQ hfx (by show PQ k1 xs[i]≤_; omega)) fun _=>?_
  have hg1:=MG (x:=PQ k1 xs[i]) AOQ
  simp only[go_sem,q2,JB,aC,az,Af,Int.reduceAdd,wz (n:=(i:Int)+1),zM,hg1]
  refine⟨(i+1,PQ k1 xs[i]),⟨rfl,rfl⟩,rfl,hP.step hi Mc, ?mu⟩
  case mu=>simp only; omega
 ·have:=hP.finL h
  subst this
  exact AI5
def F7 (k:Int) (x:DBuf):Int:=D5 Et (k+3) x.c0.l
theorem lI (k:Int) (x:DBuf):D5 Et (k+3) x.c0.l=F7 k x:=rfl
def Us (k:Int) (x:DBuf):Int:=D5 J8 (F7 k x) x.g
theorem ACe (k:Int) (x:DBuf):D5 J8 (F7 k x) x.g=Us k x:=rfl
def H_ (k:Int) (x:DBuf):Int:=Us k x
def Qb (k:Int) (x:DBuf):DBuf:=⟨k,k+1,⟨k+2,IE KN Et (k+3) x.c0.l⟩,IE mkY J8 (F7 k x) x.g⟩
theorem Ut (k:Int) (x:DBuf):H_ k x=Us k x:=rfl
theorem AEe (k:Int) (x:DBuf):(Qb k x).c = [.v (.int .i64 (k)),.v (.int .i64 (k+1)),.v (.int .i64 (k+2)),.sl ((IE KN Et (k+3) x.c0.l).map DSlot.c),.sl ((IE mkY J8 (F7 k x) x.g).map byteC)]:=by rw[DBuf.c_eq]; rfl
theorem AEf (k:Int) (x:DBuf):(Qb k x).o = [.v (.int .i64 (k)),.v (.int .i64 (k+1)),.v (.int .i64 (k+2)),.ow 199 2 ((IE KN Et (k+3) x.c0.l).map DSlot.o),.ow 5 1 ((IE mkY J8 (F7 k x) x.g).map byteC)]:=by rw[DBuf.o_eq]; rfl
theorem wK (k:Int) (x:DBuf):k+3≤F7 k x∧F7 k x≤Us k x:=⟨Ep Mc _ _,Ep Jf _ _⟩
theorem NI (k:Int) (x:DBuf):k≤H_ k x:=by have:=wK k x; unfold H_; omega
theorem qH (x:DBuf) (k l:Int) (h0:0≤HY x l) (hl:l≤1048576):H_ k x+64*HY x l≤k+64*l+64:=by
 have d1:=h0
 rw[Uc] at d1
 obtain⟨a1_0,b1_0,e1_0⟩:=AZ d1
 have w1_0:=(XY x.c0 _ a1_0 AOQ).2
 have d2:=a1_0
 rw[PN] at d2
 obtain⟨a2_0,b2_0,e2_0⟩:=AZ d2
 have w2_0:=(Dp x.c0.l (fun x _=>Td x) a2_0 AOQ).2
 have eq2:Ku x.c0 l=(DW Ll x.c0.l l):=(PN x.c0 l).trans (e2_0)
 obtain⟨a1_1,b1_1,e1_1⟩:=AZ b1_0
 have w1_1:=(CB a1_1 AOQ).2
 have IL:HY x l=(F6 x.g.length (Ku x.c0 l)):=(Uc x l).trans ((e1_0).trans (e1_1))
 have:F7 k x+64*(DW Ll x.c0.l l)≤k+3+64*l:=KD _ (fun y _ k l a b=>⟨AAv y k l a b,(Td y l a b).2⟩) _ a2_0 AOQ
 have:Us k x+64*(F6 x.g.length (Ku x.c0 l))≤F7 k x+64*(Ku x.c0 l):=PL PM _ _ _ a1_1
 rw[Ut,IL]; omega
theorem qI (xs:List DBuf) (k:Int) (hk:0≤k) (hx:fitS E8 xs) (hb:D5 H_ k xs≤4000000000000000000):wI prog 52 142 5 DBuf.o Qb H_ xs (k):=by
 have hxl:=hx.1
 refine ACT (fn:=f52) call52 func52 rfl mixed ntmps52 results52 AP5 rfl (.inr rfl) fun us hw0 hw=>?_
 simp only[go_sem]
 refine ACS 1 0 [0,1,5] (A:=Nat×List DBuf×Int) (mkS us 50 142 5 DBuf.o xs) (MkX Qb H_ xs k) (fun x=>xs.length-x.1) (0,[],k) ⟨⟨rfl,Dq (BL ZB)⟩,rfl,MkX.start⟩ ?_
 rintro⟨i,dn,k1⟩ hP
 have hn:=hP.len
 refine AOL (fun h=>?_) fun h=>?_
 ·have hi:i<xs.length:=by simpa using h
  obtain⟨q2,q4,q5,q3⟩:=hP.room hi NI DBuf.o
  have hst:=hP.set hi DBuf.o (Qb k1 xs[i])
  have hset:=set_self (R:=(dn++xs.drop i).map DBuf.o) (i:=i) q3
  rw[Ut] at q4
  have hle:=wK k1 xs[i]
  have hfx:=hx.2 _ (ax hi)
  rw[DBuf.o_eq] at q2
  simp only[DChunk.o_eq,aU,aO] at q2
  simp only[go_sem,q2,q3,hset,ai,ah,JB,Af,Int.reduceAdd,wz (n:=k1+1),wz (n:=k1+2),wz (n:=k1+3),wz (n:=(i:Int)+1)]
  refine ACN (l:=1) (lH _ (k1+3) AOQ hfx.1 (by show F7 k1 xs[i]≤_; omega)) rfl ⟨rfl,rfl,rfl,rfl,ED _,AOR,trivial⟩ ?_
  simp only[go_sem,q2,q3,hset,ai,ah,JB,Af,Int.reduceAdd,wz (n:=(i:Int)+1),lI]
  refine ACN (l:=2) (lF _ (F7 k1 xs[i]) AOQ hfx.2 (by show Us k1 xs[i]≤_; omega)) rfl ⟨rfl,rfl,rfl,rfl,CQ _,AOR,trivial⟩ ?_
  simp only[go_sem,q2,q3,hset,ai,ah,JB,Af,Int.reduceAdd,wz (n:=(i:Int)+1),lI,ACe]
  refine⟨(i+1,dn ++ [Qb k1 xs[i]],H_ k1 xs[i]),.inr ⟨i,(dn++xs.drop i).map DBuf.o, ?rowr,DBuf.o (Qb k1 xs[i]), ?ob,⟨aaR, ?e1, ?e2,q3, ?e3⟩, ?own,⟨rfl, ?tr⟩, ?eq⟩,hP.step hi NI, ?mu⟩
  case e1=>exact rfl
  case e2=>exact rfl
  case e3=>exact rfl
  case own=>rw[AEf]; exact⟨rfl,rfl,rfl,rfl,rfl,rfl,rfl,rfl,rfl,rfl,ED _,AOR,rfl,rfl,rfl,rfl,CQ _,AOR,fun l hl=>AOQ⟩
  case eq=>unfold BV; rw[hst,Ut]; rfl
  case tr=>unfold BV; rw[hst]; exact Dq (BL ZB)
  case mu=>simp only; omega
 ·obtain⟨y1,y2⟩:=hP.finL h
  simp only[go_sem]
  rw[y1,y2]
  exact⟨[.ref 0],[.ow 142 5 _],[.c (.v (.int .i64 _))],rfl,.inr rfl,⟨rfl,rfl,rfl,rfl,BK _,AOR,trivial⟩,by simp only[Fj,Jo,Jh,aN],rfl,rfl,rfl,rfl⟩
theorem iG (xs:List DBuf) (k:Int) (hk:0≤k) (hx:fitS E8 xs) (hb:D5 H_ k xs≤4000000000000000000):zG prog 59 DBuf.c Qb H_ xs (k):=by
 have hxl:=hx.1
 refine CM call59 func59 ntmps59 results59 fun hw=>?_
 simp only[go_sem]
 refine ABf 0 [0,1,5] (A:=Nat×Int) (iD 60 DBuf.c Qb H_ xs k) (HdX Qb H_ xs k) (fun x=>xs.length-x.1) (0,k) ⟨⟨rfl,rfl⟩,rfl,HdX.start⟩ ?_
 rintro⟨i,k1⟩ hP
 refine AOM (fun h=>?_) fun h=>?_
 ·have hi:i<xs.length:=by simpa using h
  obtain⟨q2,q4,q5⟩:=hP.room hi NI DBuf.c
  rw[Ut] at q4
  have hle:=wK k1 xs[i]
  have hfx:=hx.2 _ (ax hi)
  rw[AEe] at q2
  simp only[go_sem,q2,JB,aC,az,Af,Int.reduceAdd,wz (n:=k1+1),wz (n:=k1+2),wz (n:=k1+3),wz (n:=(i:Int)+1)]
  refine AAM _ (ZK _ (k1+3) AOQ hfx.1 (by show F7 k1 xs[i]≤_; omega)) fun _=>?_
  have hg1:=MG (x:=F7 k1 xs[i]) AOQ
  simp only[go_sem,q2,JB,aC,az,Af,Int.reduceAdd,wz (n:=(i:Int)+1),lI,hg1]
  refine AAM _ (ZE _ (F7 k1 xs[i]) AOQ hfx.2 (by show Us k1 xs[i]≤_; omega)) fun _=>?_
  have hg2:=MG (x:=Us k1 xs[i]) AOQ
  simp only[go_sem,q2,JB,aC,az,Af,Int.reduceAdd,wz (n:=(i:Int)+1),lI,ACe,hg1,hg2]
  refine⟨(i+1,Us k1 xs[i]),⟨rfl,rfl⟩,rfl,hP.step hi NI, ?mu⟩
  case mu=>simp only; omega
 ·have:=hP.finL h
  subst this
  exact AI5
def I5 (k:Int) (x:DDead):Int:=k+3
def PR (k:Int) (x:DDead):DDead:=⟨k,k+1,k+2⟩
theorem jP (k:Int) (x:DDead):I5 k x=k+3:=rfl
theorem qJ (k:Int) (x:DDead):(PR k x).c = [.v (.int .i64 (k)),.v (.int .i64 (k+1)),.v (.int .i64 (k+2))]:=by rw[DDead.c_eq]; rfl
theorem Og (k:Int) (x:DDead):k≤I5 k x:=by unfold I5; omega
theorem jQ (k:Int) (x:DDead):I5 k x≤k+64:=by unfold I5; omega
theorem lJ (xs:List DDead) (k:Int) (hk:0≤k) (hx:xs.length≤1048576) (hb:D5 I5 k xs≤4000000000000000000):wI prog 54 145 3 DDead.c PR I5 xs (k):=by
 have hxl:=hx
 refine ACT (fn:=f54) call54 func54 rfl mixed ntmps54 results54 AP5 rfl (.inr rfl) fun us hw0 hw=>?_
 simp only[go_sem]
 refine ABf 1 [0,1,5] (A:=Nat×List DDead×Int) (mkS us 34 145 3 DDead.c xs) (MkX PR I5 xs k) (fun x=>xs.length-x.1) (0,[],k) ⟨⟨rfl,Dq (BL fun d=>rfl)⟩,rfl,MkX.start⟩ ?_
 rintro⟨i,dn,k1⟩ hP
 have hn:=hP.len
 refine AOL (fun h=>?_) fun h=>?_
 ·have hi:i<xs.length:=by simpa using h
  obtain⟨q2,q4,q5,q3⟩:=hP.room hi Og DDead.c
  have hst:=hP.set hi DDead.c (PR k1 xs[i])
  rw[qJ] at hst
  have hset:=set_self (R:=(dn++xs.drop i).map DDead.c) (i:=i) q3
  rw[jP] at q4
  rw[DDead.c_eq] at q2
  try simp only[aU,aO] at q2
  simp only[go_sem,q2,q3,hset,ai,ah,JB,Af,Int.reduceAdd,wz (n:=k1+1),wz (n:=k1+2),wz (n:=k1+3),wz (n:=(i:Int)+1)]
  rw[hst]
  refine⟨(i+1,dn ++ [PR k1 xs[i]],k1+3),⟨rfl,Dq (BL fun d=>rfl)⟩,rfl,hP.step hi Og, ?mu⟩
  case mu=>simp only; omega
 ·obtain⟨y1,y2⟩:=hP.finL h
  simp only[go_sem]
  rw[y1,y2]
  exact⟨[.ref 0],[.ow 145 3 _],[.c (.v (.int .i64 _))],rfl,.inr rfl,⟨rfl,rfl,rfl,rfl,DY _,AOR,trivial⟩,by simp only[Fj,Jo,qB,aN],rfl,rfl,rfl,rfl⟩
theorem ZL (xs:List DDead) (k:Int) (hk:0≤k) (hx:xs.length≤1048576) (hb:D5 I5 k xs≤4000000000000000000):zG prog 61 DDead.c PR I5 xs (k):=by
 have hxl:=hx
 refine CM call61 func61 ntmps61 results61 fun hw=>?_
 simp only[go_sem]
 refine ABf 0 [0,1,5] (A:=Nat×Int) (iD 40 DDead.c PR I5 xs k) (HdX PR I5 xs k) (fun x=>xs.length-x.1) (0,k) ⟨⟨rfl,rfl⟩,rfl,HdX.start⟩ ?_
 rintro⟨i,k1⟩ hP
 refine AOM (fun h=>?_) fun h=>?_
 ·have hi:i<xs.length:=by simpa using h
  obtain⟨q2,q4,q5⟩:=hP.room hi Og DDead.c
  rw[jP] at q4
  rw[qJ] at q2
  simp only[go_sem,q2,JB,aC,az,Af,Int.reduceAdd,wz (n:=k1+1),wz (n:=k1+2),wz (n:=k1+3),wz (n:=(i:Int)+1)]
  refine⟨(i+1,k1+3),⟨rfl,rfl⟩,rfl,hP.step hi Og, ?mu⟩
  case mu=>simp only; omega
 ·have:=hP.finL h
  subst this
  exact AI5
def JD (k:Int) (x:DRef):Int:=k+5
def mkRef (k:Int) (x:DRef):DRef:=⟨k,k+1,k+2,k+3,k+4⟩
theorem qK (k:Int) (x:DRef):JD k x=k+5:=rfl
theorem zN (k:Int) (x:DRef):(mkRef k x).c = [.v (.int .i64 (k)),.v (.int .i64 (k+1)),.v (.int .i64 (k+2)),.v (.int .i64 (k+3)),.v (.int .i64 (k+4))]:=by rw[DRef.c_eq]; rfl
theorem LQ (k:Int) (x:DRef):k≤JD k x:=by unfold JD; omega
theorem ZM (k:Int) (x:DRef):JD k x≤k+64:=by unfold JD; omega
theorem Xc (xs:List DRef) (k:Int) (hk:0≤k) (hx:xs.length≤1048576) (hb:D5 JD k xs≤4000000000000000000):wI prog 133 133 5 DRef.c mkRef JD xs (k):=by
 have hxl:=hx
 refine ACT (fn:=f133) call133 func133 rfl mixed ntmps133 results133 AP5 rfl (.inr rfl) fun us hw0 hw=>?_
 simp only[go_sem]
 refine ABf 1 [0,1,5] (A:=Nat×List DRef×Int) (mkS us 48 133 5 DRef.c xs) (MkX mkRef JD xs k) (fun x=>xs.length-x.1) (0,[],k) ⟨⟨rfl,Dq (BL fun d=>rfl)⟩,rfl,MkX.start⟩ ?_
 rintro⟨i,dn,k1⟩ hP
 have hn:=hP.len
 refine AOL (fun h=>?_) fun h=>?_
 ·have hi:i<xs.length:=by simpa using h
  obtain⟨q2,q4,q5,q3⟩:=hP.room hi LQ DRef.c
  have hst:=hP.set hi DRef.c (mkRef k1 xs[i])
  rw[zN] at hst
  have hset:=set_self (R:=(dn++xs.drop i).map DRef.c) (i:=i) q3
  rw[qK] at q4
  rw[DRef.c_eq] at q2
  try simp only[aU,aO] at q2
  simp only[go_sem,q2,q3,hset,ai,ah,JB,Af,Int.reduceAdd,wz (n:=k1+1),wz (n:=k1+2),wz (n:=k1+3),wz (n:=k1+4),wz (n:=k1+5),wz (n:=(i:Int)+1)]
  rw[hst]
  refine⟨(i+1,dn ++ [mkRef k1 xs[i]],k1+5),⟨rfl,Dq (BL fun d=>rfl)⟩,rfl,hP.step hi LQ, ?mu⟩
  case mu=>simp only; omega
 ·obtain⟨y1,y2⟩:=hP.finL h
  simp only[go_sem]
  rw[y1,y2]
  exact⟨[.ref 0],[.ow 133 5 _],[.c (.v (.int .i64 _))],rfl,.inr rfl,⟨rfl,rfl,rfl,rfl,BO _,AOR,trivial⟩,by simp only[Fj,Jo,Yc,aN],rfl,rfl,rfl,rfl⟩
theorem TJ (xs:List DRef) (k:Int) (hk:0≤k) (hx:xs.length≤1048576) (hb:D5 JD k xs≤4000000000000000000):zG prog 140 DRef.c mkRef JD xs (k):=by
 have hxl:=hx
 refine CM call140 func140 ntmps140 results140 fun hw=>?_
 simp only[go_sem]
 refine ABf 0 [0,1,5] (A:=Nat×Int) (iD 58 DRef.c mkRef JD xs k) (HdX mkRef JD xs k) (fun x=>xs.length-x.1) (0,k) ⟨⟨rfl,rfl⟩,rfl,HdX.start⟩ ?_
 rintro⟨i,k1⟩ hP
 refine AOM (fun h=>?_) fun h=>?_
 ·have hi:i<xs.length:=by simpa using h
  obtain⟨q2,q4,q5⟩:=hP.room hi LQ DRef.c
  rw[qK] at q4
  rw[zN] at q2
  simp only[go_sem,q2,JB,aC,az,Af,Int.reduceAdd,wz (n:=k1+1),wz (n:=k1+2),wz (n:=k1+3),wz (n:=k1+4),wz (n:=k1+5),wz (n:=(i:Int)+1)]
  refine⟨(i+1,k1+5),⟨rfl,rfl⟩,rfl,hP.step hi LQ, ?mu⟩
  case mu=>simp only; omega
 ·have:=hP.finL h
  subst this
  exact AI5
def Am (k:Int) (x:DTask):Int:=D5 EF (k+3) x.r
theorem Iq (k:Int) (x:DTask):D5 EF (k+3) x.r=Am k x:=rfl
def F8 (k:Int) (x:DTask):Int:=D5 BZ (Am k x+8) x.q.p.l
theorem Np (k:Int) (x:DTask):D5 BZ (Am k x+8) x.q.p.l=F8 k x:=rfl
def Dc (k:Int) (x:DTask):Int:=D5 J8 (F8 k x+1) x.q.out
theorem SA (k:Int) (x:DTask):D5 J8 (F8 k x+1) x.q.out=Dc k x:=rfl
def Aj (k:Int) (x:DTask):Int:=D5 JD (Dc k x+2) x.l
theorem Yd (k:Int) (x:DTask):D5 JD (Dc k x+2) x.l=Aj k x:=rfl
def OI (k:Int) (x:DTask):Int:=D5 Gp (Aj k x+6) x.got
theorem zQ (k:Int) (x:DTask):D5 Gp (Aj k x+6) x.got=OI k x:=rfl
def Dw (k:Int) (x:DTask):Int:=OI k x
def KO (k:Int) (x:DTask):DTask:=⟨k,k+1,k+2,IE JX EF (k+3) x.r,Am k x,⟨Am k x+1,DPred.mk (Am k x+2) (Am k x+3) (Am k x+4) (⟨Am k x+5,Am k x+6,IJ (Am k x+7)⟩) (IE EU BZ (Am k x+8) x.q.p.l),F8 k x,IE pW J8 (F8 k x+1) x.q.out⟩,Dc k x,Dc k x+1,IE mkRef JD (Dc k x+2) x.l,Aj k x,Aj k x+1,Aj k x+2,Aj k x+3,Aj k x+4,IntKind.i64.wrap ((Aj k x+5).tmod 3)==0,IE mkRow Gp (Aj k x+6) x.got⟩
theorem SB (k:Int) (x:DTask):Dw k x=OI k x:=rfl
theorem ACf (k:Int) (x:DTask):(KO k x).c = [.v (.int .i64 (k)),.v (.int .i64 (k+1)),.v (.int .i64 (k+2)),.sl ((IE JX EF (k+3) x.r).map DVal.c),.v (.int .i64 (Am k x)),.v (.int .i64 (Am k x+1)),.v (.int .i64 (Am k x+2)),.v (.int .i64 (Am k x+3)),.v (.int .i64 (Am k x+4)),.v (.int .i64 (Am k x+5)),.v (.int .i64 (Am k x+6)),.v (.string (IJ (Am k x+7))),.sl ((IE EU BZ (Am k x+8) x.q.p.l).map DPred.c),.v (.int .i64 (F8 k x)),.sl ((IE pW J8 (F8 k x+1) x.q.out).map intC),.v (.int .i64 (Dc k x)),.v (.int .i64 (Dc k x+1)),.sl ((IE mkRef JD (Dc k x+2) x.l).map DRef.c),.v (.int .i64 (Aj k x)),.v (.int .i64 (Aj k x+1)),.v (.int .i64 (Aj k x+2)),.v (.int .i64 (Aj k x+3)),.v (.int .i64 (Aj k x+4)),.v (.bool (IntKind.i64.wrap ((Aj k x+5).tmod 3)==0)),.sl ((IE mkRow Gp (Aj k x+6) x.got).map DRow.c)]:=by rw[DTask.c_eq]; simp only[KO,DPred.o_eq,DPred.c_eq,DQuery.o_eq,DQuery.c_eq,DVal.c_eq,DPred.kind,DPred.col,DPred.op,DPred.v,DPred.l,aU,aO]
theorem ACg (k:Int) (x:DTask):(KO k x).o = [.v (.int .i64 (k)),.v (.int .i64 (k+1)),.v (.int .i64 (k+2)),.ow 64 3 ((IE JX EF (k+3) x.r).map DVal.c),.v (.int .i64 (Am k x)),.v (.int .i64 (Am k x+1)),.v (.int .i64 (Am k x+2)),.v (.int .i64 (Am k x+3)),.v (.int .i64 (Am k x+4)),.v (.int .i64 (Am k x+5)),.v (.int .i64 (Am k x+6)),.v (.string (IJ (Am k x+7))),.ow 67 7 ((IE EU BZ (Am k x+8) x.q.p.l).map DPred.o),.v (.int .i64 (F8 k x)),.ow 3 1 ((IE pW J8 (F8 k x+1) x.q.out).map intC),.v (.int .i64 (Dc k x)),.v (.int .i64 (Dc k x+1)),.ow 133 5 ((IE mkRef JD (Dc k x+2) x.l).map DRef.c),.v (.int .i64 (Aj k x)),.v (.int .i64 (Aj k x+1)),.v (.int .i64 (Aj k x+2)),.v (.int .i64 (Aj k x+3)),.v (.int .i64 (Aj k x+4)),.v (.bool (IntKind.i64.wrap ((Aj k x+5).tmod 3)==0)),.ow 204 2 ((IE mkRow Gp (Aj k x+6) x.got).map DRow.o)]:=by rw[DTask.o_eq]; simp only[KO,DPred.o_eq,DPred.c_eq,DQuery.o_eq,DQuery.c_eq,DVal.c_eq,DPred.kind,DPred.col,DPred.op,DPred.v,DPred.l,aU,aO]
theorem Ye (k:Int) (x:DTask):k+3≤Am k x∧Am k x+8≤F8 k x∧F8 k x+1≤Dc k x∧Dc k x+2≤Aj k x∧Aj k x+6≤OI k x:=⟨Ep LP _ _,Ep KL _ _,Ep Jf _ _,Ep LQ _ _,Ep Oe _ _⟩
theorem Oh (k:Int) (x:DTask):k≤Dw k x:=by have:=Ye k x; unfold Dw; omega
theorem WM (x:DTask) (k l:Int) (h0:0≤I4 x l) (hl:l≤1048576):Dw k x+64*I4 x l≤k+64*l+64:=by
 have d1:=h0
 rw[Rx] at d1
 obtain⟨a1_0,b1_0,e1_0⟩:=AZ d1
 have w1_0:=(Dp x.r (fun x _=>D7 x) a1_0 AOQ).2
 obtain⟨a1_1,b1_1,e1_1⟩:=AZ b1_0
 have w1_1:=(Nk x.q _ a1_1 AOQ).2
 have d2:=a1_1
 rw[KE] at d2
 obtain⟨a2_0,b2_0,e2_0⟩:=AZ d2
 have w2_0:=(Hg x.q.p _ a2_0 AOQ).2
 have d3:=a2_0
 rw[JV] at d3
 obtain⟨a3_0,b3_0,e3_0⟩:=AZ d3
 have w3_0:=(D7 x.q.p.v _ a3_0 AOQ).2
 have d4:=a3_0
 rw[H9] at d4
 obtain⟨a4_0,b4_0,e4_0⟩:=AZ d4
 have w4_0:=(CB a4_0 AOQ).2
 have eq4:BA x.q.p.v (DW BA x.r l)=(F6 x.q.p.v.s.size (DW BA x.r l)):=(H9 x.q.p.v (DW BA x.r l)).trans (e4_0)
 obtain⟨a3_1,b3_1,e3_1⟩:=AZ b3_0
 have w3_1:=(Dp x.q.p.l (fun x _=>Hg x) a3_1 AOQ).2
 have eq3:CJ x.q.p (DW BA x.r l)=(DW CJ x.q.p.l (BA x.q.p.v (DW BA x.r l))):=(JV x.q.p (DW BA x.r l)).trans ((e3_0).trans (e3_1))
 obtain⟨a2_1,b2_1,e2_1⟩:=AZ b2_0
 have w2_1:=(CB a2_1 AOQ).2
 have eq2:EP x.q (DW BA x.r l)=(F6 x.q.out.length (CJ x.q.p (DW BA x.r l))):=(KE x.q (DW BA x.r l)).trans ((e2_0).trans (e2_1))
 obtain⟨a1_2,b1_2,e1_2⟩:=AZ b1_1
 have w1_2:=(CB a1_2 AOQ).2
 obtain⟨a1_3,b1_3,e1_3⟩:=AZ b1_2
 have w1_3:=(Dp x.got (fun x _=>MX x) a1_3 AOQ).2
 have IL:I4 x l=(DW Jg x.got (F6 x.l.length (EP x.q (DW BA x.r l)))):=(Rx x l).trans ((e1_0).trans ((e1_1).trans ((e1_2).trans (e1_3))))
 have:Am k x+64*(DW BA x.r l)≤k+3+64*l:=KD _ (fun y _ k l a b=>⟨Ui y k l a b,(D7 y l a b).2⟩) _ a1_0 AOQ
 have:F8 k x+64*(DW CJ x.q.p.l (BA x.q.p.v (DW BA x.r l)))≤Am k x+8+64*(BA x.q.p.v (DW BA x.r l)):=KD _ (fun y _ k l a b=>⟨jO y k l a b,(Hg y l a b).2⟩) _ a3_1 AOQ
 have:Dc k x+64*(F6 x.q.out.length (CJ x.q.p (DW BA x.r l)))≤F8 k x+1+64*(CJ x.q.p (DW BA x.r l)):=PL PM _ _ _ a2_1
 have:Aj k x+64*(F6 x.l.length (EP x.q (DW BA x.r l)))≤Dc k x+2+64*(EP x.q (DW BA x.r l)):=PL ZM _ _ _ a1_2
 have:OI k x+64*(DW Jg x.got (F6 x.l.length (EP x.q (DW BA x.r l))))≤Aj k x+6+64*(F6 x.l.length (EP x.q (DW BA x.r l))):=KD _ (fun y _ k l a b=>⟨qF y k l a b,(MX y l a b).2⟩) _ a1_3 AOQ
 rw[SB,IL]; omega
theorem lK (xs:List DTask) (k:Int) (hk:0≤k) (hx:fitS Gu xs) (hb:D5 Dw k xs≤4000000000000000000):wI prog 55 72 25 DTask.o KO Dw xs (k):=by
 have hxl:=hx.1
 refine ACT (fn:=f55) call55 func55 rfl mixed ntmps55 results55 AP5 rfl (.inr rfl) fun us hw0 hw=>?_
 simp only[go_sem]
 refine ACS 1 0 [0,1,5] (A:=Nat×List DTask×Int) (mkS us 211 72 25 DTask.o xs) (MkX KO Dw xs k) (fun x=>xs.length-x.1) (0,[],k) ⟨⟨rfl,Dq (BL WJ)⟩,rfl,MkX.start⟩ ?_
 rintro⟨i,dn,k1⟩ hP
 have hn:=hP.len
 refine AOL (fun h=>?_) fun h=>?_
 ·have hi:i<xs.length:=by simpa using h
  obtain⟨q2,q4,q5,q3⟩:=hP.room hi Oh DTask.o
  have hst:=hP.set hi DTask.o (KO k1 xs[i])
  have hset:=set_self (R:=(dn++xs.drop i).map DTask.o) (i:=i) q3
  rw[SB] at q4
  have hle:=Ye k1 xs[i]
  have hfx:=hx.2 _ (ax hi)
  rw[DTask.o_eq] at q2
  simp only[DPred.o_eq,DQuery.o_eq,DVal.c_eq,aU,aO] at q2
  simp only[go_sem,q2,q3,hset,ai,ah,JB,Af,Int.reduceAdd,wz (n:=k1+1),wz (n:=k1+2),wz (n:=k1+3),wz (n:=(i:Int)+1)]
  refine ACN (l:=1) (Nl _ (k1+3) AOQ hfx.1 (by show Am k1 xs[i]≤_; omega)) rfl ⟨rfl,rfl,rfl,rfl,DD _,AOR,trivial⟩ ?_
  simp only[go_sem,q2,q3,hset,ai,ah,JB,Af,Int.reduceAdd,wz (n:=Am k1 xs[i]+1),wz (n:=Am k1 xs[i]+2),wz (n:=Am k1 xs[i]+3),wz (n:=Am k1 xs[i]+4),wz (n:=Am k1 xs[i]+5),wz (n:=Am k1 xs[i]+6),wz (n:=Am k1 xs[i]+7),wz (n:=(i:Int)+1),Iq]
  refine AAM _ (ET (Am k1 xs[i]+7) AOQ AOQ) fun _=>?_
  simp only[go_sem,q2,q3,hset,ai,ah,JB,Af,Int.reduceAdd,wz (n:=Am k1 xs[i]+8),wz (n:=(i:Int)+1),Iq]
  refine ACN (l:=2) (Uo _ (Am k1 xs[i]+8) AOQ (Eq.mp (Bg _) hfx.2.1.1).2 (by show F8 k1 xs[i]≤_; omega)) rfl ⟨rfl,rfl,rfl,rfl,BR _,AOR,trivial⟩ ?_
  simp only[go_sem,q2,q3,hset,ai,ah,JB,Af,Int.reduceAdd,wz (n:=F8 k1 xs[i]+1),wz (n:=(i:Int)+1),Iq,Np]
  refine ACN (l:=3) (LM _ (F8 k1 xs[i]+1) AOQ hfx.2.1.2 (by show Dc k1 xs[i]≤_; omega)) rfl ⟨rfl,rfl,rfl,rfl,AX _,AOR,trivial⟩ ?_
  simp only[go_sem,q2,q3,hset,ai,ah,JB,Af,Int.reduceAdd,wz (n:=Dc k1 xs[i]+1),wz (n:=Dc k1 xs[i]+2),wz (n:=(i:Int)+1),Iq,Np,SA]
  refine ACN (l:=4) (Xc _ (Dc k1 xs[i]+2) AOQ hfx.2.2.1 (by show Aj k1 xs[i]≤_; omega)) rfl ⟨rfl,rfl,rfl,rfl,BO _,AOR,trivial⟩ ?_
  simp only[go_sem,q2,q3,hset,ai,ah,JB,Af,Int.reduceAdd,wz (n:=Aj k1 xs[i]+1),wz (n:=Aj k1 xs[i]+2),wz (n:=Aj k1 xs[i]+3),wz (n:=Aj k1 xs[i]+4),wz (n:=Aj k1 xs[i]+5),wz (n:=Aj k1 xs[i]+6),wz (n:=(i:Int)+1),Iq,Np,SA,Yd]
  refine ACN (l:=5) (XZ _ (Aj k1 xs[i]+6) AOQ hfx.2.2.2 (by show OI k1 xs[i]≤_; omega)) rfl ⟨rfl,rfl,rfl,rfl,BF _,AOR,trivial⟩ ?_
  simp only[go_sem,q2,q3,hset,ai,ah,JB,Af,Int.reduceAdd,wz (n:=(i:Int)+1),Iq,Np,SA,Yd,zQ]
  refine⟨(i+1,dn ++ [KO k1 xs[i]],Dw k1 xs[i]),.inr ⟨i,(dn++xs.drop i).map DTask.o, ?rowr,DTask.o (KO k1 xs[i]), ?ob,⟨aaR, ?e1, ?e2,q3, ?e3⟩, ?own,⟨rfl, ?tr⟩, ?eq⟩,hP.step hi Oh, ?mu⟩
  case e1=>exact rfl
  case e2=>exact rfl
  case e3=>exact rfl
  case own=>rw[ACg]; exact⟨rfl,rfl,rfl,rfl,rfl,rfl,rfl,rfl,rfl,rfl,DD _,AOR,rfl,rfl,rfl,rfl,rfl,rfl,rfl,rfl,rfl,rfl,rfl,rfl,rfl,rfl,rfl,rfl,rfl,rfl,rfl,rfl,BR _,AOR,rfl,rfl,rfl,rfl,rfl,rfl,AX _,AOR,rfl,rfl,rfl,rfl,rfl,rfl,rfl,rfl,BO _,AOR,rfl,rfl,rfl,rfl,rfl,rfl,rfl,rfl,rfl,rfl,rfl,rfl,rfl,rfl,rfl,rfl,BF _,AOR,fun l hl=>AOQ⟩
  case eq=>unfold BV; rw[hst,SB]; rfl
  case tr=>unfold BV; rw[hst]; exact Dq (BL WJ)
  case mu=>simp only; omega
 ·obtain⟨y1,y2⟩:=hP.finL h
  simp only[go_sem]
  rw[y1,y2]
  exact⟨[.ref 0],[.ow 72 25 _],[.c (.v (.int .i64 _))],rfl,.inr rfl,⟨rfl,rfl,rfl,rfl,Gw _,AOR,trivial⟩,by simp only[Fj,Jo,qC,aN],rfl,rfl,rfl,rfl⟩
theorem ZN (xs:List DTask) (k:Int) (hk:0≤k) (hx:fitS Gu xs) (hb:D5 Dw k xs≤4000000000000000000):zG prog 62 DTask.c KO Dw xs (k):=by
 have hxl:=hx.1
 refine CM call62 func62 ntmps62 results62 fun hw=>?_
 simp only[go_sem]
 refine ABf 0 [0,1,5] (A:=Nat×Int) (iD 261 DTask.c KO Dw xs k) (HdX KO Dw xs k) (fun x=>xs.length-x.1) (0,k) ⟨⟨rfl,rfl⟩,rfl,HdX.start⟩ ?_
 rintro⟨i,k1⟩ hP
 refine AOM (fun h=>?_) fun h=>?_
 ·have hi:i<xs.length:=by simpa using h
  obtain⟨q2,q4,q5⟩:=hP.room hi Oh DTask.c
  rw[SB] at q4
  have hle:=Ye k1 xs[i]
  have hfx:=hx.2 _ (ax hi)
  rw[ACf] at q2
  simp only[go_sem,q2,JB,aC,az,Af,Int.reduceAdd,wz (n:=k1+1),wz (n:=k1+2),wz (n:=k1+3),wz (n:=(i:Int)+1)]
  refine AAM _ (Kw _ (k1+3) AOQ hfx.1 (by show Am k1 xs[i]≤_; omega)) fun _=>?_
  have hg1:=MG (x:=Am k1 xs[i]) AOQ
  simp only[go_sem,q2,JB,aC,az,Af,Int.reduceAdd,wz (n:=Am k1 xs[i]+1),wz (n:=Am k1 xs[i]+2),wz (n:=Am k1 xs[i]+3),wz (n:=Am k1 xs[i]+4),wz (n:=Am k1 xs[i]+5),wz (n:=Am k1 xs[i]+6),wz (n:=Am k1 xs[i]+7),wz (n:=(i:Int)+1),Iq,hg1]
  refine AAm ?_
  simp only[go_sem,q2,JB,aC,az,Af,Int.reduceAdd,wz (n:=Am k1 xs[i]+1),wz (n:=Am k1 xs[i]+2),wz (n:=Am k1 xs[i]+3),wz (n:=Am k1 xs[i]+4),wz (n:=Am k1 xs[i]+5),wz (n:=Am k1 xs[i]+6),wz (n:=Am k1 xs[i]+7),wz (n:=(i:Int)+1),Iq,hg1]
  refine ABL _ (ET (Am k1 xs[i]+7) AOQ AOQ) ?_
  simp only[go_sem,q2,JB,aC,az,Af,Int.reduceAdd,wz (n:=Am k1 xs[i]+8),wz (n:=(i:Int)+1),Iq,hg1]
  refine AAM _ (Qa _ (Am k1 xs[i]+8) AOQ (Eq.mp (Bg _) hfx.2.1.1).2 (by show F8 k1 xs[i]≤_; omega)) fun _=>?_
  have hg2:=MG (x:=F8 k1 xs[i]) AOQ
  simp only[go_sem,q2,JB,aC,az,Af,Int.reduceAdd,wz (n:=F8 k1 xs[i]+1),wz (n:=(i:Int)+1),Iq,Np,hg1,hg2]
  refine AAM _ (JC _ (F8 k1 xs[i]+1) AOQ hfx.2.1.2 (by show Dc k1 xs[i]≤_; omega)) fun _=>?_
  have hg3:=MG (x:=Dc k1 xs[i]) AOQ
  simp only[go_sem,q2,JB,aC,az,Af,Int.reduceAdd,wz (n:=Dc k1 xs[i]+1),wz (n:=Dc k1 xs[i]+2),wz (n:=(i:Int)+1),Iq,Np,SA,hg1,hg2,hg3]
  refine AAM _ (TJ _ (Dc k1 xs[i]+2) AOQ hfx.2.2.1 (by show Aj k1 xs[i]≤_; omega)) fun _=>?_
  have hg4:=MG (x:=Aj k1 xs[i]) AOQ
  simp only[go_sem,q2,JB,aC,az,Af,Int.reduceAdd,wz (n:=Aj k1 xs[i]+1),wz (n:=Aj k1 xs[i]+2),wz (n:=Aj k1 xs[i]+3),wz (n:=Aj k1 xs[i]+4),wz (n:=Aj k1 xs[i]+5),wz (n:=Aj k1 xs[i]+6),wz (n:=(i:Int)+1),Iq,Np,SA,Yd,hg1,hg2,hg3,hg4]
  refine AAM _ (TI _ (Aj k1 xs[i]+6) AOQ hfx.2.2.2 (by show OI k1 xs[i]≤_; omega)) fun _=>?_
  have hg5:=MG (x:=OI k1 xs[i]) AOQ
  simp only[go_sem,q2,JB,aC,az,Af,Int.reduceAdd,wz (n:=(i:Int)+1),Iq,Np,SA,Yd,zQ,hg1,hg2,hg3,hg4,hg5]
  refine⟨(i+1,OI k1 xs[i]),⟨rfl,rfl⟩,rfl,hP.step hi Oh, ?mu⟩
  case mu=>simp only; omega
 ·have:=hP.finL h
  subst this
  exact AI5
def Au (k:Int) (x:DDeed):Int:=D5 EF (k+2) x.r
theorem IP (k:Int) (x:DDeed):D5 EF (k+2) x.r=Au k x:=rfl
def Gy (k:Int) (x:DDeed):Int:=D5 BZ (Au k x+8) x.q.p.l
theorem MI (k:Int) (x:DDeed):D5 BZ (Au k x+8) x.q.p.l=Gy k x:=rfl
def JQ (k:Int) (x:DDeed):Int:=D5 J8 (Gy k x+1) x.q.out
theorem PS (k:Int) (x:DDeed):D5 J8 (Gy k x+1) x.q.out=JQ k x:=rfl
def Aq (k:Int) (x:DDeed):Int:=D5 Gp (JQ k x) x.res.rows
theorem Uu (k:Int) (x:DDeed):D5 Gp (JQ k x) x.res.rows=Aq k x:=rfl
def Gl (k:Int) (x:DDeed):Int:=Aq k x+10
def KP (k:Int) (x:DDeed):DDeed:=⟨k,k+1,IE JX EF (k+2) x.r,Au k x,⟨Au k x+1,DPred.mk (Au k x+2) (Au k x+3) (Au k x+4) (⟨Au k x+5,Au k x+6,IJ (Au k x+7)⟩) (IE EU BZ (Au k x+8) x.q.p.l),Gy k x,IE pW J8 (Gy k x+1) x.q.out⟩,⟨IE mkRow Gp (JQ k x) x.res.rows,Aq k x,IntKind.i64.wrap ((Aq k x+1).tmod 3)==0,⟨Aq k x+2,Aq k x+3,IJ (Aq k x+4)⟩⟩,Aq k x+5,Aq k x+6,Aq k x+7,Aq k x+8,Aq k x+9⟩
theorem SC (k:Int) (x:DDeed):Gl k x=Aq k x+10:=rfl
theorem ACh (k:Int) (x:DDeed):(KP k x).c = [.v (.int .i64 (k)),.v (.int .i64 (k+1)),.sl ((IE JX EF (k+2) x.r).map DVal.c),.v (.int .i64 (Au k x)),.v (.int .i64 (Au k x+1)),.v (.int .i64 (Au k x+2)),.v (.int .i64 (Au k x+3)),.v (.int .i64 (Au k x+4)),.v (.int .i64 (Au k x+5)),.v (.int .i64 (Au k x+6)),.v (.string (IJ (Au k x+7))),.sl ((IE EU BZ (Au k x+8) x.q.p.l).map DPred.c),.v (.int .i64 (Gy k x)),.sl ((IE pW J8 (Gy k x+1) x.q.out).map intC),.sl ((IE mkRow Gp (JQ k x) x.res.rows).map DRow.c),.v (.int .i64 (Aq k x)),.v (.bool (IntKind.i64.wrap ((Aq k x+1).tmod 3)==0)),.v (.int .i64 (Aq k x+2)),.v (.int .i64 (Aq k x+3)),.v (.string (IJ (Aq k x+4))),.v (.int .i64 (Aq k x+5)),.v (.int .i64 (Aq k x+6)),.v (.int .i64 (Aq k x+7)),.v (.int .i64 (Aq k x+8)),.v (.int .i64 (Aq k x+9))]:=by rw[DDeed.c_eq]; simp only[KP,DPred.o_eq,DPred.c_eq,DQuery.o_eq,DQuery.c_eq,DResult.o_eq,DResult.c_eq,DVal.c_eq,DPred.kind,DPred.col,DPred.op,DPred.v,DPred.l,aU,aO]
theorem ACi (k:Int) (x:DDeed):(KP k x).o = [.v (.int .i64 (k)),.v (.int .i64 (k+1)),.ow 64 3 ((IE JX EF (k+2) x.r).map DVal.c),.v (.int .i64 (Au k x)),.v (.int .i64 (Au k x+1)),.v (.int .i64 (Au k x+2)),.v (.int .i64 (Au k x+3)),.v (.int .i64 (Au k x+4)),.v (.int .i64 (Au k x+5)),.v (.int .i64 (Au k x+6)),.v (.string (IJ (Au k x+7))),.ow 67 7 ((IE EU BZ (Au k x+8) x.q.p.l).map DPred.o),.v (.int .i64 (Gy k x)),.ow 3 1 ((IE pW J8 (Gy k x+1) x.q.out).map intC),.ow 204 2 ((IE mkRow Gp (JQ k x) x.res.rows).map DRow.o),.v (.int .i64 (Aq k x)),.v (.bool (IntKind.i64.wrap ((Aq k x+1).tmod 3)==0)),.v (.int .i64 (Aq k x+2)),.v (.int .i64 (Aq k x+3)),.v (.string (IJ (Aq k x+4))),.v (.int .i64 (Aq k x+5)),.v (.int .i64 (Aq k x+6)),.v (.int .i64 (Aq k x+7)),.v (.int .i64 (Aq k x+8)),.v (.int .i64 (Aq k x+9))]:=by rw[DDeed.o_eq]; simp only[KP,DPred.o_eq,DPred.c_eq,DQuery.o_eq,DQuery.c_eq,DResult.o_eq,DResult.c_eq,DVal.c_eq,DPred.kind,DPred.col,DPred.op,DPred.v,DPred.l,aU,aO]
theorem lL (k:Int) (x:DDeed):k+2≤Au k x∧Au k x+8≤Gy k x∧Gy k x+1≤JQ k x∧JQ k x≤Aq k x:=⟨Ep LP _ _,Ep KL _ _,Ep Jf _ _,Ep Oe _ _⟩
theorem Oi (k:Int) (x:DDeed):k≤Gl k x:=by have:=lL k x; unfold Gl; omega
theorem jR (x:DDeed) (k l:Int) (h0:0≤KF x l) (hl:l≤1048576):Gl k x+64*KF x l≤k+64*l+64:=by
 have d1:=h0
 rw[Ry] at d1
 obtain⟨a1_0,b1_0,e1_0⟩:=AZ d1
 have w1_0:=(Dp x.r (fun x _=>D7 x) a1_0 AOQ).2
 obtain⟨a1_1,b1_1,e1_1⟩:=AZ b1_0
 have w1_1:=(Nk x.q _ a1_1 AOQ).2
 have d2:=a1_1
 rw[KE] at d2
 obtain⟨a2_0,b2_0,e2_0⟩:=AZ d2
 have w2_0:=(Hg x.q.p _ a2_0 AOQ).2
 have d3:=a2_0
 rw[JV] at d3
 obtain⟨a3_0,b3_0,e3_0⟩:=AZ d3
 have w3_0:=(D7 x.q.p.v _ a3_0 AOQ).2
 have d4:=a3_0
 rw[H9] at d4
 obtain⟨a4_0,b4_0,e4_0⟩:=AZ d4
 have w4_0:=(CB a4_0 AOQ).2
 have eq4:BA x.q.p.v (DW BA x.r l)=(F6 x.q.p.v.s.size (DW BA x.r l)):=(H9 x.q.p.v (DW BA x.r l)).trans (e4_0)
 obtain⟨a3_1,b3_1,e3_1⟩:=AZ b3_0
 have w3_1:=(Dp x.q.p.l (fun x _=>Hg x) a3_1 AOQ).2
 have eq3:CJ x.q.p (DW BA x.r l)=(DW CJ x.q.p.l (BA x.q.p.v (DW BA x.r l))):=(JV x.q.p (DW BA x.r l)).trans ((e3_0).trans (e3_1))
 obtain⟨a2_1,b2_1,e2_1⟩:=AZ b2_0
 have w2_1:=(CB a2_1 AOQ).2
 have eq2:EP x.q (DW BA x.r l)=(F6 x.q.out.length (CJ x.q.p (DW BA x.r l))):=(KE x.q (DW BA x.r l)).trans ((e2_0).trans (e2_1))
 obtain⟨a1_2,b1_2,e1_2⟩:=AZ b1_1
 have w1_2:=(Ud x.res _ a1_2 AOQ).2
 have d5:=a1_2
 rw[Nj] at d5
 obtain⟨a5_0,b5_0,e5_0⟩:=AZ d5
 have w5_0:=(Dp x.res.rows (fun x _=>MX x) a5_0 AOQ).2
 obtain⟨a5_1,b5_1,e5_1⟩:=AZ b5_0
 have w5_1:=(D7 x.res.v _ a5_1 AOQ).2
 have d6:=a5_1
 rw[H9] at d6
 obtain⟨a6_0,b6_0,e6_0⟩:=AZ d6
 have w6_0:=(CB a6_0 AOQ).2
 have eq6:BA x.res.v (DW Jg x.res.rows (EP x.q (DW BA x.r l)))=(F6 x.res.v.s.size (DW Jg x.res.rows (EP x.q (DW BA x.r l)))):=(H9 x.res.v (DW Jg x.res.rows (EP x.q (DW BA x.r l)))).trans (e6_0)
 have eq5:LK x.res (EP x.q (DW BA x.r l))=(BA x.res.v (DW Jg x.res.rows (EP x.q (DW BA x.r l)))):=(Nj x.res (EP x.q (DW BA x.r l))).trans ((e5_0).trans (e5_1))
 have IL:KF x l=(LK x.res (EP x.q (DW BA x.r l))):=(Ry x l).trans ((e1_0).trans ((e1_1).trans (e1_2)))
 have:Au k x+64*(DW BA x.r l)≤k+2+64*l:=KD _ (fun y _ k l a b=>⟨Ui y k l a b,(D7 y l a b).2⟩) _ a1_0 AOQ
 have:Gy k x+64*(DW CJ x.q.p.l (BA x.q.p.v (DW BA x.r l)))≤Au k x+8+64*(BA x.q.p.v (DW BA x.r l)):=KD _ (fun y _ k l a b=>⟨jO y k l a b,(Hg y l a b).2⟩) _ a3_1 AOQ
 have:JQ k x+64*(F6 x.q.out.length (CJ x.q.p (DW BA x.r l)))≤Gy k x+1+64*(CJ x.q.p (DW BA x.r l)):=PL PM _ _ _ a2_1
 have:Aq k x+64*(DW Jg x.res.rows (EP x.q (DW BA x.r l)))≤JQ k x+64*(EP x.q (DW BA x.r l)):=KD _ (fun y _ k l a b=>⟨qF y k l a b,(MX y l a b).2⟩) _ a5_0 AOQ
 rw[SC,IL]; omega
theorem lM (xs:List DDeed) (k:Int) (hk:0≤k) (hx:fitS GK xs) (hb:D5 Gl k xs≤4000000000000000000):wI prog 56 152 25 DDeed.o KP Gl xs (k):=by
 have hxl:=hx.1
 refine ACT (fn:=f56) call56 func56 rfl mixed ntmps56 results56 AP5 rfl (.inr rfl) fun us hw0 hw=>?_
 simp only[go_sem]
 refine ACS 1 0 [0,1,5] (A:=Nat×List DDeed×Int) (mkS us 221 152 25 DDeed.o xs) (MkX KP Gl xs k) (fun x=>xs.length-x.1) (0,[],k) ⟨⟨rfl,Dq (BL WL)⟩,rfl,MkX.start⟩ ?_
 rintro⟨i,dn,k1⟩ hP
 have hn:=hP.len
 refine AOL (fun h=>?_) fun h=>?_
 ·have hi:i<xs.length:=by simpa using h
  obtain⟨q2,q4,q5,q3⟩:=hP.room hi Oi DDeed.o
  have hst:=hP.set hi DDeed.o (KP k1 xs[i])
  have hset:=set_self (R:=(dn++xs.drop i).map DDeed.o) (i:=i) q3
  rw[SC] at q4
  have hle:=lL k1 xs[i]
  have hfx:=hx.2 _ (ax hi)
  rw[DDeed.o_eq] at q2
  simp only[DPred.o_eq,DQuery.o_eq,DResult.o_eq,DVal.c_eq,aU,aO] at q2
  simp only[go_sem,q2,q3,hset,ai,ah,JB,Af,Int.reduceAdd,wz (n:=k1+1),wz (n:=k1+2),wz (n:=(i:Int)+1)]
  refine ACN (l:=1) (Nl _ (k1+2) AOQ hfx.1 (by show Au k1 xs[i]≤_; omega)) rfl ⟨rfl,rfl,rfl,rfl,DD _,AOR,trivial⟩ ?_
  simp only[go_sem,q2,q3,hset,ai,ah,JB,Af,Int.reduceAdd,wz (n:=Au k1 xs[i]+1),wz (n:=Au k1 xs[i]+2),wz (n:=Au k1 xs[i]+3),wz (n:=Au k1 xs[i]+4),wz (n:=Au k1 xs[i]+5),wz (n:=Au k1 xs[i]+6),wz (n:=Au k1 xs[i]+7),wz (n:=(i:Int)+1),IP]
  refine AAM _ (ET (Au k1 xs[i]+7) AOQ AOQ) fun _=>?_
  simp only[go_sem,q2,q3,hset,ai,ah,JB,Af,Int.reduceAdd,wz (n:=Au k1 xs[i]+8),wz (n:=(i:Int)+1),IP]
  refine ACN (l:=2) (Uo _ (Au k1 xs[i]+8) AOQ (Eq.mp (Bg _) hfx.2.1.1).2 (by show Gy k1 xs[i]≤_; omega)) rfl ⟨rfl,rfl,rfl,rfl,BR _,AOR,trivial⟩ ?_
  simp only[go_sem,q2,q3,hset,ai,ah,JB,Af,Int.reduceAdd,wz (n:=Gy k1 xs[i]+1),wz (n:=(i:Int)+1),IP,MI]
  refine ACN (l:=3) (LM _ (Gy k1 xs[i]+1) AOQ hfx.2.1.2 (by show JQ k1 xs[i]≤_; omega)) rfl ⟨rfl,rfl,rfl,rfl,AX _,AOR,trivial⟩ ?_
  simp only[go_sem,q2,q3,hset,ai,ah,JB,Af,Int.reduceAdd,wz (n:=(i:Int)+1),IP,MI,PS]
  refine ACN (l:=4) (XZ _ (JQ k1 xs[i]) AOQ hfx.2.2.1 (by show Aq k1 xs[i]≤_; omega)) rfl ⟨rfl,rfl,rfl,rfl,BF _,AOR,trivial⟩ ?_
  simp only[go_sem,q2,q3,hset,ai,ah,JB,Af,Int.reduceAdd,wz (n:=Aq k1 xs[i]+1),wz (n:=Aq k1 xs[i]+2),wz (n:=Aq k1 xs[i]+3),wz (n:=Aq k1 xs[i]+4),wz (n:=(i:Int)+1),IP,MI,PS,Uu]
  refine AAM _ (ET (Aq k1 xs[i]+4) AOQ AOQ) fun _=>?_
  simp only[go_sem,q2,q3,hset,ai,ah,JB,Af,Int.reduceAdd,wz (n:=Aq k1 xs[i]+5),wz (n:=Aq k1 xs[i]+6),wz (n:=Aq k1 xs[i]+7),wz (n:=Aq k1 xs[i]+8),wz (n:=Aq k1 xs[i]+9),wz (n:=Aq k1 xs[i]+10),wz (n:=(i:Int)+1),IP,MI,PS,Uu]
  refine⟨(i+1,dn ++ [KP k1 xs[i]],Gl k1 xs[i]),.inr ⟨i,(dn++xs.drop i).map DDeed.o, ?rowr,DDeed.o (KP k1 xs[i]), ?ob,⟨aaR, ?e1, ?e2,q3, ?e3⟩, ?own,⟨rfl, ?tr⟩, ?eq⟩,hP.step hi Oi, ?mu⟩
  case e1=>exact rfl
  case e2=>exact rfl
  case e3=>exact rfl
  case own=>rw[ACi]; exact⟨rfl,rfl,rfl,rfl,rfl,rfl,rfl,rfl,DD _,AOR,rfl,rfl,rfl,rfl,rfl,rfl,rfl,rfl,rfl,rfl,rfl,rfl,rfl,rfl,rfl,rfl,rfl,rfl,rfl,rfl,BR _,AOR,rfl,rfl,rfl,rfl,rfl,rfl,AX _,AOR,rfl,rfl,rfl,rfl,BF _,AOR,rfl,rfl,rfl,rfl,rfl,rfl,rfl,rfl,rfl,rfl,rfl,rfl,rfl,rfl,rfl,rfl,rfl,rfl,rfl,rfl,fun l hl=>AOQ⟩
  case eq=>unfold BV; rw[hst,SC]; rfl
  case tr=>unfold BV; rw[hst]; exact Dq (BL WL)
  case mu=>simp only; omega
 ·obtain⟨y1,y2⟩:=hP.finL h
  simp only[go_sem]
  rw[y1,y2]
  exact⟨[.ref 0],[.ow 152 25 _],[.c (.v (.int .i64 _))],rfl,.inr rfl,⟨rfl,rfl,rfl,rfl,DU _,AOR,trivial⟩,by simp only[Fj,Jo,qE,aN],rfl,rfl,rfl,rfl⟩
theorem ZO (xs:List DDeed) (k:Int) (hk:0≤k) (hx:fitS GK xs) (hb:D5 Gl k xs≤4000000000000000000):zG prog 63 DDeed.c KP Gl xs (k):=by
 have hxl:=hx.1
 refine CM call63 func63 ntmps63 results63 fun hw=>?_
 simp only[go_sem]
 refine ABf 0 [0,1,5] (A:=Nat×Int) (iD 271 DDeed.c KP Gl xs k) (HdX KP Gl xs k) (fun x=>xs.length-x.1) (0,k) ⟨⟨rfl,rfl⟩,rfl,HdX.start⟩ ?_
 rintro⟨i,k1⟩ hP
 refine AOM (fun h=>?_) fun h=>?_
 ·have hi:i<xs.length:=by simpa using h
  obtain⟨q2,q4,q5⟩:=hP.room hi Oi DDeed.c
  rw[SC] at q4
  have hle:=lL k1 xs[i]
  have hfx:=hx.2 _ (ax hi)
  rw[ACh] at q2
  simp only[go_sem,q2,JB,aC,az,Af,Int.reduceAdd,wz (n:=k1+1),wz (n:=k1+2),wz (n:=(i:Int)+1)]
  refine AAM _ (Kw _ (k1+2) AOQ hfx.1 (by show Au k1 xs[i]≤_; omega)) fun _=>?_
  have hg1:=MG (x:=Au k1 xs[i]) AOQ
  simp only[go_sem,q2,JB,aC,az,Af,Int.reduceAdd,wz (n:=Au k1 xs[i]+1),wz (n:=Au k1 xs[i]+2),wz (n:=Au k1 xs[i]+3),wz (n:=Au k1 xs[i]+4),wz (n:=Au k1 xs[i]+5),wz (n:=Au k1 xs[i]+6),wz (n:=Au k1 xs[i]+7),wz (n:=(i:Int)+1),IP,hg1]
  refine AAm ?_
  simp only[go_sem,q2,JB,aC,az,Af,Int.reduceAdd,wz (n:=Au k1 xs[i]+1),wz (n:=Au k1 xs[i]+2),wz (n:=Au k1 xs[i]+3),wz (n:=Au k1 xs[i]+4),wz (n:=Au k1 xs[i]+5),wz (n:=Au k1 xs[i]+6),wz (n:=Au k1 xs[i]+7),wz (n:=(i:Int)+1),IP,hg1]
  refine ABL _ (ET (Au k1 xs[i]+7) AOQ AOQ) ?_
  simp only[go_sem,q2,JB,aC,az,Af,Int.reduceAdd,wz (n:=Au k1 xs[i]+8),wz (n:=(i:Int)+1),IP,hg1]
  refine AAM _ (Qa _ (Au k1 xs[i]+8) AOQ (Eq.mp (Bg _) hfx.2.1.1).2 (by show Gy k1 xs[i]≤_; omega)) fun _=>?_
  have hg2:=MG (x:=Gy k1 xs[i]) AOQ
  simp only[go_sem,q2,JB,aC,az,Af,Int.reduceAdd,wz (n:=Gy k1 xs[i]+1),wz (n:=(i:Int)+1),IP,MI,hg1,hg2]
  refine AAM _ (JC _ (Gy k1 xs[i]+1) AOQ hfx.2.1.2 (by show JQ k1 xs[i]≤_; omega)) fun _=>?_
  have hg3:=MG (x:=JQ k1 xs[i]) AOQ
  simp only[go_sem,q2,JB,aC,az,Af,Int.reduceAdd,wz (n:=(i:Int)+1),IP,MI,PS,hg1,hg2,hg3]
  refine AAM _ (TI _ (JQ k1 xs[i]) AOQ hfx.2.2.1 (by show Aq k1 xs[i]≤_; omega)) fun _=>?_
  have hg4:=MG (x:=Aq k1 xs[i]) AOQ
  simp only[go_sem,q2,JB,aC,az,Af,Int.reduceAdd,wz (n:=Aq k1 xs[i]+1),wz (n:=Aq k1 xs[i]+2),wz (n:=Aq k1 xs[i]+3),wz (n:=Aq k1 xs[i]+4),wz (n:=(i:Int)+1),IP,MI,PS,Uu,hg1,hg2,hg3,hg4]
  refine AAm ?_
  simp only[go_sem,q2,JB,aC,az,Af,Int.reduceAdd,wz (n:=Aq k1 xs[i]+1),wz (n:=Aq k1 xs[i]+2),wz (n:=Aq k1 xs[i]+3),wz (n:=Aq k1 xs[i]+4),wz (n:=(i:Int)+1),IP,MI,PS,Uu,hg1,hg2,hg3,hg4]
  refine ABL _ (ET (Aq k1 xs[i]+4) AOQ AOQ) ?_
  simp only[go_sem,q2,JB,aC,az,Af,Int.reduceAdd,wz (n:=Aq k1 xs[i]+5),wz (n:=Aq k1 xs[i]+6),wz (n:=Aq k1 xs[i]+7),wz (n:=Aq k1 xs[i]+8),wz (n:=Aq k1 xs[i]+9),wz (n:=Aq k1 xs[i]+10),wz (n:=(i:Int)+1),IP,MI,PS,Uu,hg1,hg2,hg3,hg4]
  refine⟨(i+1,Aq k1 xs[i]+10),⟨rfl,rfl⟩,rfl,hP.step hi Oi, ?mu⟩
  case mu=>simp only; omega
 ·have:=hP.finL h
  subst this
  exact AI5
def Tj (k:Int) (x:DConf):Int:=D5 J8 (k) x.cols
theorem zS (k:Int) (x:DConf):D5 J8 (k) x.cols=Tj k x:=rfl
def KQ (k:Int) (x:DConf):Int:=Tj k x
def ZP (k:Int) (x:DConf):DConf:=⟨IE pW J8 (k) x.cols,x.slots,x.bufs⟩
theorem ZQ (k:Int) (x:DConf):k≤Tj k x:=Ep Jf _ _
theorem AAw (k:Int) (x:DConf):k≤KQ k x:=by have:=ZQ k x; unfold KQ; omega
theorem AAx (x:DConf) (k l:Int) (h0:0≤Ee x l) (hl:l≤1048576):KQ k x+64*Ee x l≤k+64*l:=by
 have e0:=WG x l
 have h1:=h0
 rw[e0] at h1
 obtain⟨a0,b0,u0⟩:=AZ h1
 have w0:=(CB a0 AOQ).2
 have:Tj k x+64*(F6 x.cols.length (l))≤k+64*(l):=PL PM _ _ _ a0
 have IL:Ee x l=F6 x.cols.length (l):=(e0).trans (u0)
 rw[IL]; unfold KQ; omega
theorem qL (x:DConf) (k:Int) (hk:0≤k) (hf:PO x) (hb:KQ k x≤4000000000000000000):MCtr prog 50 true x.o [.c (.v (.int .i64 k))] (fun cl' rs=>cl'=(ZP k x).o∧rs = [.c (.v (.int .i64 (KQ k x)))]):=by
 unfold KQ at hb
 have hle:=ZQ k x
 refine ACT (fn:=f50) call50 func50 rfl mixed ntmps50 results50 AP5 rfl (.inl rfl) fun us hw0 hw=>?_
 simp only[go_sem]
 refine ACN (l:=0) (LM x.cols (k) AOQ hf (by show Tj k x≤_; omega)) rfl ⟨rfl,rfl,rfl,rfl,AX _,AOR,trivial⟩ ?_
 simp only[go_sem,zS]
 exact⟨[.ref 0,.v (.int .i64 x.slots),.v (.int .i64 x.bufs)],(ZP k x).o,[.c (.v (.int .i64 (KQ k x)))],rfl,.inl rfl,⟨rfl,rfl,rfl,rfl,AX _,AOR,rfl,rfl,rfl,rfl,trivial⟩,AAu _,rfl,rfl,rfl,rfl⟩
theorem iH (x:DConf) (k:Int) (hk:0≤k) (hf:PO x) (hb:KQ k x≤4000000000000000000):Ctr prog 57 [.agg (ZP k x).c,.c (.v (.int .i64 k))] [.val (.c (.v (.int .i64 (KQ k x))))]:=by
 unfold KQ at hb ⊢
 have hle:=ZQ k x
 refine CM call57 func57 ntmps57 results57 fun hw=>?_
 simp only[go_sem,ZP]
 refine AAM _ (JC x.cols (k) AOQ hf (by show Tj k x≤_; omega)) fun _=>?_
 have hg0:=MG (x:=Tj k x) AOQ
 simp only[go_sem,zS,hg0]
def ZR (k:Int) (x:DDir):Int:=D5 JD (k) x.l
theorem ACj (k:Int) (x:DDir):D5 JD (k) x.l=ZR k x:=rfl
def Oj (k:Int) (x:DDir):Int:=ZR k x
def qM (k:Int) (x:DDir):DDir:=⟨x.ver,IE mkRef JD (k) x.l⟩
theorem lN (k:Int) (x:DDir):k≤ZR k x:=Ep LQ _ _
theorem ACk (k:Int) (x:DDir):k≤Oj k x:=by have:=lN k x; unfold Oj; omega
theorem ACl (x:DDir) (k l:Int) (h0:0≤Ha x l) (hl:l≤1048576):Oj k x+64*Ha x l≤k+64*l:=by
 have e0:=Y8 x l
 have h1:=h0
 rw[e0] at h1
 obtain⟨a0,b0,u0⟩:=AZ h1
 have w0:=(CB a0 AOQ).2
 have:ZR k x+64*(F6 x.l.length (l))≤k+64*(l):=PL ZM _ _ _ a0
 have IL:Ha x l=F6 x.l.length (l):=(e0).trans (u0)
 rw[IL]; unfold Oj; omega
theorem wL (x:DDir) (k:Int) (hk:0≤k) (hf:Tf x) (hb:Oj k x≤4000000000000000000):MCtr prog 51 true x.o [.c (.v (.int .i64 k))] (fun cl' rs=>cl'=(qM k x).o∧rs = [.c (.v (.int .i64 (Oj k x)))]):=by
 unfold Oj at hb
 have hle:=lN k x
 refine ACT (fn:=f51) call51 func51 rfl mixed ntmps51 results51 AP5 rfl (.inl rfl) fun us hw0 hw=>?_
 simp only[go_sem]
 refine ACN (l:=0) (Xc x.l (k) AOQ hf (by show ZR k x≤_; omega)) rfl ⟨rfl,rfl,rfl,rfl,BO _,AOR,trivial⟩ ?_
 simp only[go_sem,ACj]
 exact⟨[.v (.int .i64 x.ver),.ref 0],(qM k x).o,[.c (.v (.int .i64 (Oj k x)))],rfl,.inl rfl,⟨rfl,rfl,rfl,rfl,rfl,rfl,BO _,AOR,trivial⟩,ZC _,rfl,rfl,rfl,rfl⟩
theorem lQ (x:DDir) (k:Int) (hk:0≤k) (hf:Tf x) (hb:Oj k x≤4000000000000000000):Ctr prog 58 [.agg (qM k x).c,.c (.v (.int .i64 k))] [.val (.c (.v (.int .i64 (Oj k x))))]:=by
 unfold Oj at hb ⊢
 have hle:=lN k x
 refine CM call58 func58 ntmps58 results58 fun hw=>?_
 simp only[go_sem,qM]
 refine AAM _ (TJ x.l (k) AOQ hf (by show ZR k x≤_; omega)) fun _=>?_
 have hg0:=MG (x:=ZR k x) AOQ
 simp only[go_sem,ACj,hg0]
def Hm (k:Int) (x:DWorld):Int:=KQ (k) x.c0
theorem FP (k:Int) (x:DWorld):KQ (k) x.c0=Hm k x:=rfl
def Ho (k:Int) (x:DWorld):Int:=Oj (Hm k x) x.d
theorem GL (k:Int) (x:DWorld):Oj (Hm k x) x.d=Ho k x:=rfl
def Hq (k:Int) (x:DWorld):Int:=D5 H_ (Ho k x) x.b
theorem IA (k:Int) (x:DWorld):D5 H_ (Ho k x) x.b=Hq k x:=rfl
def Hr (k:Int) (x:DWorld):Int:=D5 J8 (Hq k x) x.m
theorem JE (k:Int) (x:DWorld):D5 J8 (Hq k x) x.m=Hr k x:=rfl
def Ht (k:Int) (x:DWorld):Int:=D5 I5 (Hr k x) x.x
theorem LU (k:Int) (x:DWorld):D5 I5 (Hr k x) x.x=Ht k x:=rfl
def Hu (k:Int) (x:DWorld):Int:=D5 J8 (Ht k x) x.p
theorem Ol (k:Int) (x:DWorld):D5 J8 (Ht k x) x.p=Hu k x:=rfl
def Hw (k:Int) (x:DWorld):Int:=D5 Dw (Hu k x) x.tasks
theorem Uw (k:Int) (x:DWorld):D5 Dw (Hu k x) x.tasks=Hw k x:=rfl
def MJ (k:Int) (x:DWorld):Int:=D5 Gl (Hw k x) x.deeds
theorem qN (k:Int) (x:DWorld):D5 Gl (Hw k x) x.deeds=MJ k x:=rfl
def Gv (k:Int) (x:DWorld):Int:=MJ k x
def SE (k:Int) (x:DWorld):DWorld:=⟨ZP (k) x.c0,x.time,x.t,x.e,qM (Hm k x) x.d,IE Qb H_ (Ho k x) x.b,IE pW J8 (Hq k x) x.m,IE PR I5 (Hr k x) x.x,IE pW J8 (Ht k x) x.p,IE KO Dw (Hu k x) x.tasks,IE KP Gl (Hw k x) x.deeds⟩
theorem WN (k:Int) (x:DWorld):k≤Hm k x∧Hm k x≤Ho k x∧Ho k x≤Hq k x∧Hq k x≤Hr k x∧Hr k x≤Ht k x∧Ht k x≤Hu k x∧Hu k x≤Hw k x∧Hw k x≤MJ k x:=⟨AAw _ _,ACk _ _,Ep NI _ _,Ep Jf _ _,Ep Og _ _,Ep Jf _ _,Ep Oh _ _,Ep Oi _ _⟩
theorem ZT (k:Int) (x:DWorld):k≤Gv k x:=by have:=WN k x; unfold Gv; omega
theorem wM (x:DWorld) (k l:Int) (h0:0≤Ip x l) (hl:l≤1048576):Gv k x+64*Ip x l≤k+64*l:=by
 have e0:=KG x l
 have h1:=h0
 rw[e0] at h1
 obtain⟨a0,b0,u0⟩:=AZ h1
 have w0:=(NH x.c0 _ a0 AOQ).2
 have:Hm k x+64*(Ee x.c0 (l))≤k+64*(l):=AAx _ _ _ a0 AOQ
 obtain⟨a1,b1,u1⟩:=AZ b0
 have w1:=(Oc x.d _ a1 AOQ).2
 have:Ho k x+64*(Ha x.d (Ee x.c0 (l)))≤Hm k x+64*(Ee x.c0 (l)):=ACl _ _ _ a1 AOQ
 obtain⟨a2,b2,u2⟩:=AZ b1
 have w2:=(Dp x.b (fun x _=>KI x) a2 AOQ).2
 have:Hq k x+64*(DW HY x.b (Ha x.d (Ee x.c0 (l))))≤Ho k x+64*(Ha x.d (Ee x.c0 (l))):=KD _ (fun y _ k l a b=>⟨qH y k l a b,(KI y l a b).2⟩) _ a2 AOQ
 obtain⟨a3,b3,u3⟩:=AZ b2
 have w3:=(CB a3 AOQ).2
 have:Hr k x+64*(F6 x.m.length (DW HY x.b (Ha x.d (Ee x.c0 (l)))))≤Hq k x+64*(DW HY x.b (Ha x.d (Ee x.c0 (l)))):=PL PM _ _ _ a3
 obtain⟨a4,b4,u4⟩:=AZ b3
 have w4:=(CB a4 AOQ).2
 have:Ht k x+64*(F6 x.x.length (F6 x.m.length (DW HY x.b (Ha x.d (Ee x.c0 (l))))))≤Hr k x+64*(F6 x.m.length (DW HY x.b (Ha x.d (Ee x.c0 (l))))):=PL jQ _ _ _ a4
 obtain⟨a5,b5,u5⟩:=AZ b4
 have w5:=(CB a5 AOQ).2
 have:Hu k x+64*(F6 x.p.length (F6 x.x.length (F6 x.m.length (DW HY x.b (Ha x.d (Ee x.c0 (l)))))))≤Ht k x+64*(F6 x.x.length (F6 x.m.length (DW HY x.b (Ha x.d (Ee x.c0 (l)))))):=PL PM _ _ _ a5
 obtain⟨a6,b6,u6⟩:=AZ b5
 have w6:=(Dp x.tasks (fun x _=>JP x) a6 AOQ).2
 have:Hw k x+64*(DW I4 x.tasks (F6 x.p.length (F6 x.x.length (F6 x.m.length (DW HY x.b (Ha x.d (Ee x.c0 (l))))))))≤Hu k x+64*(F6 x.p.length (F6 x.x.length (F6 x.m.length (DW HY x.b (Ha x.d (Ee x.c0 (l))))))):=KD _ (fun y _ k l a b=>⟨WM y k l a b,(JP y l a b).2⟩) _ a6 AOQ
 obtain⟨a7,b7,u7⟩:=AZ b6
 have w7:=(Dp x.deeds (fun x _=>NG x) a7 AOQ).2
 have:MJ k x+64*(DW KF x.deeds (DW I4 x.tasks (F6 x.p.length (F6 x.x.length (F6 x.m.length (DW HY x.b (Ha x.d (Ee x.c0 (l)))))))))≤Hw k x+64*(DW I4 x.tasks (F6 x.p.length (F6 x.x.length (F6 x.m.length (DW HY x.b (Ha x.d (Ee x.c0 (l)))))))):=KD _ (fun y _ k l a b=>⟨jR y k l a b,(NG y l a b).2⟩) _ a7 AOQ
 have IL:Ip x l=DW KF x.deeds (DW I4 x.tasks (F6 x.p.length (F6 x.x.length (F6 x.m.length (DW HY x.b (Ha x.d (Ee x.c0 (l)))))))):=(e0).trans ((u0).trans ((u1).trans ((u2).trans ((u3).trans ((u4).trans ((u5).trans ((u6).trans (u7))))))))
 rw[IL]; unfold Gv; omega
theorem Ux (x:DWorld) (k:Int) (hk:0≤k) (hf:Aa x) (hb:Gv k x≤4000000000000000000):MCtr prog 12 true x.o [.c (.v (.int .i64 k))] (fun cl' rs=>cl'=(SE k x).o∧rs = [.c (.v (.int .i64 (Gv k x)))]):=by
 unfold Gv at hb
 have hle:=WN k x
 refine ACT (fn:=f12) call12 func12 rfl mixed ntmps12 results12 AP5 rfl (.inl rfl) fun us hw0 hw=>?_
 simp only[go_sem]
 refine AEP true (zs:=[.ref 0,.v (.int .i64 x.c0.slots),.v (.int .i64 x.c0.bufs)]) (cl:=[.ow 3 1 (x.c0.cols.map intC),.v (.int .i64 x.c0.slots),.v (.int .i64 x.c0.bufs)]) (by simpa only[go_sem] using qL x.c0 (k) AOQ hf.1 (by show Hm k x≤_; omega)) rfl ⟨rfl,rfl,rfl,rfl,AX _,AOR,rfl,rfl,rfl,rfl,trivial⟩ rfl (.inl rfl) fun cl' rs hM=>?_
 obtain⟨rfl,rfl⟩:=hM
 refine⟨⟨rfl,⟨rfl,rfl⟩,rfl,rfl,trivial⟩, ?_⟩
 simp only[go_sem,FP]
 refine AEP true (zs:=[.v (.int .i64 x.d.ver),.ref 1]) (cl:=[.v (.int .i64 x.d.ver),.ow 133 5 (x.d.l.map DRef.c)]) (by simpa only[go_sem] using wL x.d (Hm k x) AOQ hf.2.1 (by show Ho k x≤_; omega)) rfl ⟨rfl,rfl,rfl,rfl,rfl,rfl,BO _,AOR,trivial⟩ rfl (.inl rfl) fun cl' rs hM=>?_
 obtain⟨rfl,rfl⟩:=hM
 refine⟨⟨rfl,rfl,⟨rfl,rfl⟩,trivial⟩, ?_⟩
 simp only[go_sem,FP,GL]
 refine ACN (l:=2) (qI x.b (Ho k x) AOQ hf.2.2.1 (by show Hq k x≤_; omega)) rfl ⟨rfl,rfl,rfl,rfl,BK _,AOR,trivial⟩ ?_
 simp only[go_sem,FP,GL,IA]
 refine ACN (l:=3) (LM x.m (Hq k x) AOQ hf.2.2.2.1 (by show Hr k x≤_; omega)) rfl ⟨rfl,rfl,rfl,rfl,AX _,AOR,trivial⟩ ?_
 simp only[go_sem,FP,GL,IA,JE]
 refine ACN (l:=4) (lJ x.x (Hr k x) AOQ hf.2.2.2.2.1 (by show Ht k x≤_; omega)) rfl ⟨rfl,rfl,rfl,rfl,DY _,AOR,trivial⟩ ?_
 simp only[go_sem,FP,GL,IA,JE,LU]
 refine ACN (l:=5) (LM x.p (Ht k x) AOQ hf.2.2.2.2.2.1 (by show Hu k x≤_; omega)) rfl ⟨rfl,rfl,rfl,rfl,AX _,AOR,trivial⟩ ?_
 simp only[go_sem,FP,GL,IA,JE,LU,Ol]
 refine ACN (l:=6) (lK x.tasks (Hu k x) AOQ hf.2.2.2.2.2.2.1 (by show Hw k x≤_; omega)) rfl ⟨rfl,rfl,rfl,rfl,Gw _,AOR,trivial⟩ ?_
 simp only[go_sem,FP,GL,IA,JE,LU,Ol,Uw]
 refine ACN (l:=7) (lM x.deeds (Hw k x) AOQ hf.2.2.2.2.2.2.2 (by show MJ k x≤_; omega)) rfl ⟨rfl,rfl,rfl,rfl,DU _,AOR,trivial⟩ ?_
 simp only[go_sem,FP,GL,IA,JE,LU,Ol,Uw,qN]
 exact⟨[.ref 0,.v (.int .i64 x.c0.slots),.v (.int .i64 x.c0.bufs),.v (.int .i64 x.time),.v (.int .i64 x.t),.v (.int .i64 x.e),.v (.int .i64 x.d.ver),.ref 1,.ref 2,.ref 3,.ref 4,.ref 5,.ref 6,.ref 7],(SE k x).o,[.c (.v (.int .i64 (Gv k x)))],rfl,.inl rfl,⟨rfl,rfl,rfl,rfl,AX _,AOR,rfl,rfl,rfl,rfl,rfl,rfl,rfl,rfl,rfl,rfl,rfl,rfl,rfl,rfl,rfl,rfl,BO _,AOR,rfl,rfl,rfl,rfl,BK _,AOR,rfl,rfl,rfl,rfl,AX _,AOR,rfl,rfl,rfl,rfl,DY _,AOR,rfl,rfl,rfl,rfl,AX _,AOR,rfl,rfl,rfl,rfl,Gw _,AOR,rfl,rfl,rfl,rfl,DU _,AOR,trivial⟩,Ti _,rfl,rfl,rfl,rfl⟩
theorem Qc (x:DWorld) (k:Int) (hk:0≤k) (hf:Aa x) (hb:Gv k x≤4000000000000000000):Ctr prog 13 [.agg (SE k x).c,.c (.v (.int .i64 k))] [.val (.c (.v (.int .i64 (Gv k x))))]:=by
 unfold Gv at hb ⊢
 have hle:=WN k x
 refine CM call13 func13 ntmps13 results13 fun hw=>?_
 simp only[go_sem,SE]
 refine AAM _ (by simpa only[go_sem] using iH x.c0 (k) AOQ hf.1 (by show Hm k x≤_; omega)) fun _=>?_
 have hg0:=MG (x:=Hm k x) AOQ
 simp only[go_sem,FP,hg0]
 refine AAM _ (by simpa only[go_sem] using lQ x.d (Hm k x) AOQ hf.2.1 (by show Ho k x≤_; omega)) fun _=>?_
 have hg1:=MG (x:=Ho k x) AOQ
 simp only[go_sem,FP,GL,hg0,hg1]
 refine AAM _ (iG x.b (Ho k x) AOQ hf.2.2.1 (by show Hq k x≤_; omega)) fun _=>?_
 have hg2:=MG (x:=Hq k x) AOQ
 simp only[go_sem,FP,GL,IA,hg0,hg1,hg2]
 refine AAM _ (JC x.m (Hq k x) AOQ hf.2.2.2.1 (by show Hr k x≤_; omega)) fun _=>?_
 have hg3:=MG (x:=Hr k x) AOQ
 simp only[go_sem,FP,GL,IA,JE,hg0,hg1,hg2,hg3]
 refine AAM _ (ZL x.x (Hr k x) AOQ hf.2.2.2.2.1 (by show Ht k x≤_; omega)) fun _=>?_
 have hg4:=MG (x:=Ht k x) AOQ
 simp only[go_sem,FP,GL,IA,JE,LU,hg0,hg1,hg2,hg3,hg4]
 refine AAM _ (JC x.p (Ht k x) AOQ hf.2.2.2.2.2.1 (by show Hu k x≤_; omega)) fun _=>?_
 have hg5:=MG (x:=Hu k x) AOQ
 simp only[go_sem,FP,GL,IA,JE,LU,Ol,hg0,hg1,hg2,hg3,hg4,hg5]
 refine AAM _ (ZN x.tasks (Hu k x) AOQ hf.2.2.2.2.2.2.1 (by show Hw k x≤_; omega)) fun _=>?_
 have hg6:=MG (x:=Hw k x) AOQ
 simp only[go_sem,FP,GL,IA,JE,LU,Ol,Uw,hg0,hg1,hg2,hg3,hg4,hg5,hg6]
 refine AAM _ (ZO x.deeds (Hw k x) AOQ hf.2.2.2.2.2.2.2 (by show MJ k x≤_; omega)) fun _=>?_
 have hg7:=MG (x:=MJ k x) AOQ
 simp only[go_sem,FP,GL,IA,JE,LU,Ol,Uw,qN,hg0,hg1,hg2,hg3,hg4,hg5,hg6,hg7]
end Go.Proofs.YtnoldekcdlaahaaGreat
