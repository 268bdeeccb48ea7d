/- A part. -/
import Derived.Test.YtnchiiikacemmaaGreatBg
set_option linter.unusedSimpArgs false
set_option linter.unusedVariables false
set_option maxHeartbeats 2000000
set_option maxRecDepth 10000
open Go.Proofs.Tryz
namespace Go.Proofs.YtnchiiikacemmaaGreat
open Go.Vm
theorem SX (l:List Int):IV (l.map intC)=true:=BA fun _=>rfl
theorem lg (l:List Int):IV (l.map byteC)=true:=BA fun _=>rfl
theorem SY (l:List DVal):IV (l.map DVal.c)=true:=BA fun _=>rfl
theorem Xn (d:DRow):Eu d.o=true:=by
 rw[DRow.o_eq]
 simp[Eu,JG,SY]
theorem gq (l:List DRow):IV (l.map DRow.o)=true:=BA Xn
theorem O1:∀ (n:Nat) (d:DPred),SizeOf.sizeOf d≤n→Eu d.o=true
 | 0,d,h=>by cases d; simp at h
 | n+1,d,h=>by
  have hm:IV (d.l.map DPred.o)=true:=XR fun y hy=>by
   obtain⟨x,hx,rfl⟩:=RX.1 hy
   refine O1 n x ?_
   have h1:SizeOf.sizeOf x<SizeOf.sizeOf d.l:=uC hx
   have h2:SizeOf.sizeOf d.l<SizeOf.sizeOf d:=by cases d; simp[DPred.l]; omega
   omega
  rw[DPred.o_eq]
  simp[Eu,JG,hm,DVal.c_eq]
theorem Ur (d:DPred):Eu d.o=true:=O1 _ d (aK _)
theorem Xo (l:List DPred):IV (l.map DPred.o)=true:=BA Ur
theorem Us (d:DSlot):Eu d.o=true:=by
 rw[DSlot.o_eq]
 simp[Eu,JG,SY]
theorem lh (l:List DSlot):IV (l.map DSlot.o)=true:=BA Us
theorem Xp (d:DBuf):Eu d.o=true:=by
 rw[DBuf.o_eq]
 simp[Eu,JG,DChunk.o_eq,lh,lg]
theorem wI (l:List DBuf):IV (l.map DBuf.o)=true:=BA Xp
theorem lm (l:List DDead):IV (l.map DDead.c)=true:=BA fun _=>rfl
theorem XF (l:List DRef):IV (l.map DRef.c)=true:=BA fun _=>rfl
theorem AAj (d:DDir):Eu d.o=true:=by
 rw[DDir.o_eq]
 simp[Eu,JG,XF]
theorem Ut (d:DTask):Eu d.o=true:=by
 rw[DTask.o_eq]
 simp[Eu,JG,DPred.o_eq,DQuery.o_eq,DVal.c_eq,Xo,XF,gq,SY,SX]
theorem lq (l:List DTask):IV (l.map DTask.o)=true:=BA Ut
theorem Uu (d:DDeed):Eu d.o=true:=by
 rw[DDeed.o_eq]
 simp[Eu,JG,DPred.o_eq,DQuery.o_eq,DResult.o_eq,DVal.c_eq,Xo,gq,SY,SX]
theorem lu (l:List DDeed):IV (l.map DDeed.o)=true:=BA Uu
theorem yP (d:DConf):Eu d.o=true:=by
 rw[DConf.o_eq]
 simp[Eu,JG,SX]
theorem Xq (d:DWorld):Eu d.o=true:=by
 rw[DWorld.o_eq]
 simp[Eu,JG,DConf.o_eq,DDir.o_eq,wI,lm,lu,XF,lq,SX]
theorem Jj (xs:List Int) (k:Int) (hk:0≤k) (hx:xs.length≤1048576) (hb:Dw KG k xs≤4000000000000000000):rX prog 44 3 1 intC lN KG xs (k):=by
 have hxl:=hx
 refine MCtr.mk (fn:=f44) call44 func44 rfl mixed ntmps44 results44 (by kernel_rfl) rfl (.inr rfl) fun us hw0 hw=>?_
 simp only[go_sem]
 refine LoopK.mk 1 [0,1,5] (A:=Nat×List Int×Int) (mkS us 19 3 1 intC xs) (MkX lN KG xs k) (fun x=>xs.length-x.1) (0,[],k) ⟨⟨rfl,Cj (BA fun d=>rfl)⟩,rfl,MkX.start⟩ ?_
 rintro⟨i,dn,k1⟩ hP
 have hn:=hP.len
 simp only[go_sem,mkS,ae,hn]
 refine cndC.mk (fun h=>?_) (fun h=>?_)
 ·have hi:i<xs.length:=by simpa using h
  obtain⟨q2,q4,q5,q3⟩:=hP.room hi Iq intC
  have hst:=hP.set hi intC (lN k1 xs[i])
  rw[show intC (lN k1 xs[i]) = [.v (.int .i64 (k1))] from rfl] at hst
  have hset:=set_self (R:=(dn++xs.drop i).map intC) (i:=i) q3
  have q4:k1+1≤Dw KG k xs:=q4
  rw[wF] at q2
  simp only[go_sem,q2,q3,hset,cO,bG,IC,Ad,Int.reduceAdd,wz (n:=k1+1),wz (n:=(i:Int)+1)]
  rw[hst]
  refine⟨(i+1,dn ++ [lN k1 xs[i]],k1+1),⟨rfl,Cj (BA fun d=>rfl)⟩,rfl,hP.step hi Iq, ?mu⟩
  case mu=>simp only; omega
 ·obtain⟨y1,y2⟩:=hP.finL h
  simp only[go_sem]
  rw[y1,y2]
  exact⟨[.ref 0],[.ow 3 1 _],[.c (.v (.int .i64 _))],rfl,.inr rfl,⟨rfl,rfl,rfl,rfl,Aq _,by simp,trivial⟩,by simp only[Eu,JG,SX,aU],rfl,rfl,rfl,rfl⟩
theorem IG (xs:List Int) (k:Int) (hk:0≤k) (hx:xs.length≤1048576) (hb:Dw KG k xs≤4000000000000000000):wE prog 51 intC lN KG xs (k):=by
 have hxl:=hx
 refine CM call51 func51 ntmps51 results51 fun hw=>?_
 simp only[go_sem]
 refine LoopK.mk 0 [0,1,5] (A:=Nat×Int) (Zh 21 intC lN KG xs k) (HdX lN KG xs k) (fun x=>xs.length-x.1) (0,k) ⟨⟨rfl,rfl⟩,rfl,HdX.start⟩ ?_
 rintro⟨i,k1⟩ hP
 simp only[go_sem,Zh,ae,IM]
 refine cndC.mk (fun h=>?_) (fun h=>?_)
 ·have hi:i<xs.length:=by simpa using h
  obtain⟨q2,q4,q5⟩:=hP.room hi Iq intC
  have q4:k1+1≤Dw KG k xs:=q4
  rw[show intC (lN k1 xs[i]) = [.v (.int .i64 (k1))] from rfl] at q2
  simp only[go_sem,q2,IC,bD,aH,Ad,Int.reduceAdd,wz (n:=k1+1),wz (n:=(i:Int)+1)]
  refine⟨(i+1,k1+1),⟨rfl,rfl⟩,rfl,hP.step hi Iq, ?mu⟩
  case mu=>simp only; omega
 ·have:=hP.finL h
  subst this
  simp only[go_sem]
theorem gu (xs:List Int) (k:Int) (hk:0≤k) (hx:xs.length≤1048576) (hb:Dw KG k xs≤4000000000000000000):rX prog 110 5 1 byteC mkY KG xs (k):=by
 have hxl:=hx
 refine MCtr.mk (fn:=f110) call110 func110 rfl mixed ntmps110 results110 (by kernel_rfl) rfl (.inr rfl) fun us hw0 hw=>?_
 simp only[go_sem]
 refine LoopK.mk 1 [0,1,5] (A:=Nat×List Int×Int) (mkS us 20 5 1 byteC xs) (MkX mkY KG xs k) (fun x=>xs.length-x.1) (0,[],k) ⟨⟨rfl,Cj (BA fun d=>rfl)⟩,rfl,MkX.start⟩ ?_
 rintro⟨i,dn,k1⟩ hP
 have hn:=hP.len
 simp only[go_sem,mkS,ae,hn]
 refine cndC.mk (fun h=>?_) (fun h=>?_)
 ·have hi:i<xs.length:=by simpa using h
  obtain⟨q2,q4,q5,q3⟩:=hP.room hi Iq byteC
  have hst:=hP.set hi byteC (mkY k1 xs[i])
  rw[show byteC (mkY k1 xs[i]) = [.v (.int .u8 (IntKind.u8.wrap (k1)))] from rfl] at hst
  have hset:=set_self (R:=(dn++xs.drop i).map byteC) (i:=i) q3
  have q4:k1+1≤Dw KG k xs:=q4
  rw[MR] at q2
  simp only[go_sem,q2,q3,hset,cO,bG,IC,Ad,Int.reduceAdd,wz (n:=k1+1),wz (n:=(i:Int)+1)]
  rw[hst]
  refine⟨(i+1,dn ++ [mkY k1 xs[i]],k1+1),⟨rfl,Cj (BA fun d=>rfl)⟩,rfl,hP.step hi Iq, ?mu⟩
  case mu=>simp only; omega
 ·obtain⟨y1,y2⟩:=hP.finL h
  simp only[go_sem]
  rw[y1,y2]
  exact⟨[.ref 0],[.ow 5 1 _],[.c (.v (.int .i64 _))],rfl,.inr rfl,⟨rfl,rfl,rfl,rfl,B_ _,by simp,trivial⟩,by simp only[Eu,JG,lg,aU],rfl,rfl,rfl,rfl⟩
theorem Xr (xs:List Int) (k:Int) (hk:0≤k) (hx:xs.length≤1048576) (hb:Dw KG k xs≤4000000000000000000):wE prog 117 byteC mkY KG xs (k):=by
 have hxl:=hx
 refine CM call117 func117 ntmps117 results117 fun hw=>?_
 simp only[go_sem]
 refine LoopK.mk 0 [0,1,5] (A:=Nat×Int) (Zh 22 byteC mkY KG xs k) (HdX mkY KG xs k) (fun x=>xs.length-x.1) (0,k) ⟨⟨rfl,rfl⟩,rfl,HdX.start⟩ ?_
 rintro⟨i,k1⟩ hP
 simp only[go_sem,Zh,ae,IM]
 refine cndC.mk (fun h=>?_) (fun h=>?_)
 ·have hi:i<xs.length:=by simpa using h
  obtain⟨q2,q4,q5⟩:=hP.room hi Iq byteC
  have q4:k1+1≤Dw KG k xs:=q4
  rw[show byteC (mkY k1 xs[i]) = [.v (.int .u8 (IntKind.u8.wrap (k1)))] from rfl] at q2
  simp only[go_sem,q2,IC,bD,aH,Ad,Int.reduceAdd,wz (n:=k1+1),wz (n:=(i:Int)+1)]
  refine⟨(i+1,k1+1),⟨rfl,rfl⟩,rfl,hP.step hi Iq, ?mu⟩
  case mu=>simp only; omega
 ·have:=hP.finL h
  subst this
  simp only[go_sem]
def Ed (k:Int) (x:DVal):Int:=k+3
def Ih (k:Int) (x:DVal):DVal:=⟨k,k+1,Gt (k+2)⟩
theorem Xt (k:Int) (x:DVal):Ed k x=k+3:=rfl
theorem wJ (k:Int) (x:DVal):(Ih k x).c = [.v (.int .i64 (k)),.v (.int .i64 (k+1)),.v (.string (Gt (k+2)))]:=by rw[DVal.c_eq]; rfl
theorem Jk (k:Int) (x:DVal):k≤Ed k x:=by unfold Ed; omega
theorem Si (x:DVal) (k l:Int) (h0:0≤Aa x l) (hl:l≤1048576):Ed k x+64*Aa x l≤k+64*l+64:=by
 have d1:=h0
 rw[Gh] at d1
 obtain⟨a1_0,b1_0,e1_0⟩:=AZ d1
 have w1_0:=(Cb a1_0 (by omega)).2
 have Iu:Aa x l=(DC x.s.size l):=(Gh x l).trans (e1_0)
 rw[Xt,Iu]; omega
theorem Ld (xs:List DVal) (k:Int) (hk:0≤k) (hx:fitS Fz xs) (hb:Dw Ed k xs≤4000000000000000000):rX prog 111 119 3 DVal.c Ih Ed xs (k):=by
 have hxl:=hx.1
 refine MCtr.mk (fn:=f111) call111 func111 rfl mixed ntmps111 results111 (by kernel_rfl) rfl (.inr rfl) fun us hw0 hw=>?_
 simp only[go_sem]
 refine LoopK.mk 1 [0,1,5] (A:=Nat×List DVal×Int) (mkS us 35 119 3 DVal.c xs) (MkX Ih Ed xs k) (fun x=>xs.length-x.1) (0,[],k) ⟨⟨rfl,Cj (BA fun d=>rfl)⟩,rfl,MkX.start⟩ ?_
 rintro⟨i,dn,k1⟩ hP
 have hn:=hP.len
 simp only[go_sem,mkS,ae,hn]
 refine cndC.mk (fun h=>?_) (fun h=>?_)
 ·have hi:i<xs.length:=by simpa using h
  obtain⟨q2,q4,q5,q3⟩:=hP.room hi Jk DVal.c
  have hst:=hP.set hi DVal.c (Ih k1 xs[i])
  rw[wJ] at hst
  have hset:=set_self (R:=(dn++xs.drop i).map DVal.c) (i:=i) q3
  rw[Xt] at q4
  have hfx:=hx.2 _ (aj hi)
  rw[DVal.c_eq] at q2
  try simp only[bH,bi] at q2
  simp only[go_sem,q2,q3,hset,cO,bG,IC,Ad,Int.reduceAdd,wz (n:=k1+1),wz (n:=k1+2),wz (n:=(i:Int)+1)]
  refine CallK.mk _ (Dk (k1+2) (by omega) (by omega)) fun _=>?_
  simp only[go_sem,q2,q3,hset,cO,bG,IC,Ad,Int.reduceAdd,wz (n:=k1+3),wz (n:=(i:Int)+1)]
  rw[hst]
  refine⟨(i+1,dn ++ [Ih k1 xs[i]],k1+3),⟨rfl,Cj (BA fun d=>rfl)⟩,rfl,hP.step hi Jk, ?mu⟩
  case mu=>simp only; omega
 ·obtain⟨y1,y2⟩:=hP.finL h
  simp only[go_sem]
  rw[y1,y2]
  exact⟨[.ref 0],[.ow 119 3 _],[.c (.v (.int .i64 _))],rfl,.inr rfl,⟨rfl,rfl,rfl,rfl,CX _,by simp,trivial⟩,by simp only[Eu,JG,SY,aU],rfl,rfl,rfl,rfl⟩
theorem Ja (xs:List DVal) (k:Int) (hk:0≤k) (hx:fitS Fz xs) (hb:Dw Ed k xs≤4000000000000000000):wE prog 118 DVal.c Ih Ed xs (k):=by
 have hxl:=hx.1
 refine CM call118 func118 ntmps118 results118 fun hw=>?_
 simp only[go_sem]
 refine LoopK.mk 0 [0,1,5] (A:=Nat×Int) (Zh 41 DVal.c Ih Ed xs k) (HdX Ih Ed xs k) (fun x=>xs.length-x.1) (0,k) ⟨⟨rfl,rfl⟩,rfl,HdX.start⟩ ?_
 rintro⟨i,k1⟩ hP
 simp only[go_sem,Zh,ae,IM]
 refine cndC.mk (fun h=>?_) (fun h=>?_)
 ·have hi:i<xs.length:=by simpa using h
  obtain⟨q2,q4,q5⟩:=hP.room hi Jk DVal.c
  rw[Xt] at q4
  have hfx:=hx.2 _ (aj hi)
  rw[wJ] at q2
  simp only[go_sem,q2,IC,bD,aH,Ad,Int.reduceAdd,wz (n:=k1+1),wz (n:=k1+2),wz (n:=(i:Int)+1)]
  refine DrawK.mk ?_
  simp only[go_sem,q2,IC,bD,aH,Ad,Int.reduceAdd,wz (n:=k1+1),wz (n:=k1+2),wz (n:=(i:Int)+1)]
  refine CallF.mk _ (Dk (k1+2) (by omega) (by omega)) ?_
  simp only[go_sem,q2,IC,bD,aH,Ad,Int.reduceAdd,wz (n:=k1+3),wz (n:=(i:Int)+1)]
  refine⟨(i+1,k1+3),⟨rfl,rfl⟩,rfl,hP.step hi Jk, ?mu⟩
  case mu=>simp only; omega
 ·have:=hP.finL h
  subst this
  simp only[go_sem]
def Sj (k:Int) (x:DRow):Int:=Dw Ed (k+1) x.l
theorem AAk (k:Int) (x:DRow):Dw Ed (k+1) x.l=Sj k x:=rfl
def H6 (k:Int) (x:DRow):Int:=Sj k x
def mkRow (k:Int) (x:DRow):DRow:=⟨k,Gn Ih Ed (k+1) x.l⟩
theorem Sl (k:Int) (x:DRow):H6 k x=Sj k x:=rfl
theorem ACS (k:Int) (x:DRow):(mkRow k x).c = [.v (.int .i64 (k)),.sl ((Gn Ih Ed (k+1) x.l).map DVal.c)]:=by rw[DRow.c_eq]; rfl
theorem ACT (k:Int) (x:DRow):(mkRow k x).o = [.v (.int .i64 (k)),.ow 119 3 ((Gn Ih Ed (k+1) x.l).map DVal.c)]:=by rw[DRow.o_eq]; rfl
theorem rY (k:Int) (x:DRow):k+1≤Sj k x:=EM Jk _ _
theorem Mc (k:Int) (x:DRow):k≤H6 k x:=by have:=rY k x; unfold H6; omega
theorem lw (x:DRow) (k l:Int) (h0:0≤EQ x l) (hl:l≤1048576):H6 k x+64*EQ x l≤k+64*l+64:=by
 have d1:=h0
 rw[SN] at d1
 obtain⟨a1_0,b1_0,e1_0⟩:=AZ d1
 have w1_0:=(DF x.l (fun x _=>DL x) a1_0 (by omega)).2
 have Iu:EQ x l=(BN Aa x.l l):=(SN x l).trans (e1_0)
 have:Sj k x+64*(BN Aa x.l l)≤k+1+64*l:=IQ _ (fun y _ k l a b=>⟨Si y k l a b,(DL y l a b).2⟩) _ a1_0 (by omega)
 rw[Sl,Iu]; omega
theorem Vb (xs:List DRow) (k:Int) (hk:0≤k) (hx:fitS G_ xs) (hb:Dw H6 k xs≤4000000000000000000):rX prog 114 193 2 DRow.o mkRow H6 xs (k):=by
 have hxl:=hx.1
 refine MCtr.mk (fn:=f114) call114 func114 rfl mixed ntmps114 results114 (by kernel_rfl) rfl (.inr rfl) fun us hw0 hw=>?_
 simp only[go_sem]
 refine LoopA.mk 1 0 [0,1,5] (A:=Nat×List DRow×Int) (mkS us 27 193 2 DRow.o xs) (MkX mkRow H6 xs k) (fun x=>xs.length-x.1) (0,[],k) ⟨⟨rfl,Cj (BA Xn)⟩,rfl,MkX.start⟩ ?_
 rintro⟨i,dn,k1⟩ hP
 have hn:=hP.len
 simp only[go_sem,mkS,ae,hn]
 refine cndC.mk (fun h=>?_) (fun h=>?_)
 ·have hi:i<xs.length:=by simpa using h
  obtain⟨q2,q4,q5,q3⟩:=hP.room hi Mc DRow.o
  have hst:=hP.set hi DRow.o (mkRow k1 xs[i])
  have hset:=set_self (R:=(dn++xs.drop i).map DRow.o) (i:=i) q3
  rw[Sl] at q4
  have hle:=rY k1 xs[i]
  have hfx:=hx.2 _ (aj hi)
  rw[DRow.o_eq] at q2
  try simp only[bH,bi] at q2
  simp only[go_sem,q2,q3,hset,cO,bG,IC,Ad,Int.reduceAdd,wz (n:=k1+1),wz (n:=(i:Int)+1)]
  refine MutX.mk (l:=1) (Ld _ (k1+1) (by omega) hfx (by show Sj k1 xs[i]≤_; omega)) rfl ⟨rfl,rfl,rfl,rfl,CX _,by simp,trivial⟩ ?_
  simp only[go_sem,q2,q3,hset,cO,bG,IC,Ad,Int.reduceAdd,wz (n:=(i:Int)+1),AAk]
  refine⟨(i+1,dn ++ [mkRow k1 xs[i]],H6 k1 xs[i]),.inr ⟨i,(dn++xs.drop i).map DRow.o, ?rowr,DRow.o (mkRow k1 xs[i]), ?ob,⟨aaT, ?e1, ?e2,q3, ?e3⟩, ?own,⟨rfl, ?tr⟩, ?eq⟩,hP.step hi Mc, ?mu⟩
  case e1=>exact rfl
  case e2=>exact rfl
  case e3=>exact rfl
  case own=>rw[ACT]; exact⟨rfl,rfl,rfl,rfl,rfl,rfl,CX _,by simp,fun l hl=>by omega⟩
  case eq=>unfold Az; rw[hst,Sl]; rfl
  case tr=>unfold Az; rw[hst]; exact Cj (BA Xn)
  case mu=>simp only; omega
 ·obtain⟨y1,y2⟩:=hP.finL h
  simp only[go_sem]
  rw[y1,y2]
  exact⟨[.ref 0],[.ow 193 2 _],[.c (.v (.int .i64 _))],rfl,.inr rfl,⟨rfl,rfl,rfl,rfl,A8 _,by simp,trivial⟩,by simp only[Eu,JG,gq,aU],rfl,rfl,rfl,rfl⟩
theorem Qn (xs:List DRow) (k:Int) (hk:0≤k) (hx:fitS G_ xs) (hb:Dw H6 k xs≤4000000000000000000):wE prog 120 DRow.c mkRow H6 xs (k):=by
 have hxl:=hx.1
 refine CM call120 func120 ntmps120 results120 fun hw=>?_
 simp only[go_sem]
 refine LoopK.mk 0 [0,1,5] (A:=Nat×Int) (Zh 31 DRow.c mkRow H6 xs k) (HdX mkRow H6 xs k) (fun x=>xs.length-x.1) (0,k) ⟨⟨rfl,rfl⟩,rfl,HdX.start⟩ ?_
 rintro⟨i,k1⟩ hP
 simp only[go_sem,Zh,ae,IM]
 refine cndC.mk (fun h=>?_) (fun h=>?_)
 ·have hi:i<xs.length:=by simpa using h
  obtain⟨q2,q4,q5⟩:=hP.room hi Mc DRow.c
  rw[Sl] at q4
  have hle:=rY k1 xs[i]
  have hfx:=hx.2 _ (aj hi)
  rw[ACS] at q2
  simp only[go_sem,q2,IC,bD,aH,Ad,Int.reduceAdd,wz (n:=k1+1),wz (n:=(i:Int)+1)]
  refine CallK.mk _ (Ja _ (k1+1) (by omega) hfx (by show Sj k1 xs[i]≤_; omega)) fun _=>?_
  have hg1:=KH (x:=Sj k1 xs[i]) (by omega)
  simp only[go_sem,q2,IC,bD,aH,Ad,Int.reduceAdd,wz (n:=(i:Int)+1),AAk,hg1]
  refine⟨(i+1,Sj k1 xs[i]),⟨rfl,rfl⟩,rfl,hP.step hi Mc, ?mu⟩
  case mu=>simp only; omega
 ·have:=hP.finL h
  subst this
  simp only[go_sem]
mutual
def BJ:Int→DPred→Int
 | k,.mk _ _ _ _ l=>Sm (k+6) l
def Sm:Int→List DPred→Int
 | k,[]=>k
 | k,x::xs=>Sm (BJ k x) xs
end
mutual
def Dn:Int→DPred→DPred
 | k,.mk _ _ _ _ l=>DPred.mk (k) (k+1) (k+2) (⟨k+3,k+4,Gt (k+5)⟩) (Sr (k+6) l)
def Sr:Int→List DPred→List DPred
 | k,[]=>[]
 | k,x::xs=>Dn k x::Sr (BJ k x) xs
end
theorem Xu:∀ (xs:List DPred) (k:Int),Sm k xs=Dw BJ k xs
 | [],k=>by simp only[Sm,Dw]
 | x::xs,k=>by simp only[Sm,Dw,Xu xs]
theorem Xv:∀ (xs:List DPred) (k:Int),Sr k xs=Gn Dn BJ k xs
 | [],k=>by simp only[Sr,Gn]
 | x::xs,k=>by simp only[Sr,Gn,Xv xs]
def Nj (k:Int) (x:DPred):Int:=Dw BJ (k+6) x.l
theorem wK (k:Int) (x:DPred):Dw BJ (k+6) x.l=Nj k x:=rfl
theorem Ko (k:Int) (x:DPred):BJ k x=Nj k x:=by cases x; simp only[BJ,Xu]; rfl
theorem dP (k:Int) (x:DPred):Dn k x=DPred.mk (k) (k+1) (k+2) (⟨k+3,k+4,Gt (k+5)⟩) (Gn Dn BJ (k+6) x.l):=by cases x; simp only[Dn,Xv]; rfl
theorem AAl (k:Int) (x:DPred):(Dn k x).c = [.v (.int .i64 (k)),.v (.int .i64 (k+1)),.v (.int .i64 (k+2)),.v (.int .i64 (k+3)),.v (.int .i64 (k+4)),.v (.string (Gt (k+5))),.sl ((Gn Dn BJ (k+6) x.l).map DPred.c)]:=by rw[dP,DPred.c_eq]; rfl
theorem AAm (k:Int) (x:DPred):(Dn k x).o = [.v (.int .i64 (k)),.v (.int .i64 (k+1)),.v (.int .i64 (k+2)),.v (.int .i64 (k+3)),.v (.int .i64 (k+4)),.v (.string (Gt (k+5))),.ow 122 7 ((Gn Dn BJ (k+6) x.l).map DPred.o)]:=by rw[dP,DPred.o_eq]; rfl
theorem Xw:∀ (n:Nat) (x:DPred),SizeOf.sizeOf x≤n→∀ k,k≤BJ k x
 | 0,x,h,k=>by cases x; simp at h
 | n+1,x,h,k=>by
  have h1:=wC (c:=BJ) x.l (fun y hy=>Xw n y (by
   have h1:SizeOf.sizeOf y<SizeOf.sizeOf x.l:=uC hy
   have h2:SizeOf.sizeOf x.l<SizeOf.sizeOf x:=by cases x; simp[DPred.l]; omega
   omega)) (k+6)
  rw[Ko,Nj]; omega
theorem JP (k:Int) (x:DPred):k≤BJ k x:=Xw _ x (aK _) k
theorem wL (k:Int) (x:DPred):k+6≤Nj k x:=EM JP _ _
theorem l7 (x:DPred) (hx:∀ y∈x.l,∀ k l,0≤Au y l→l≤1048576→BJ k y+64*Au y l≤k+64*l+64) (k l:Int) (h0:0≤Au x l) (hl:l≤1048576):BJ k x+64*Au x l≤k+64*l+64:=by
 have d1:=h0
 rw[Ie] at d1
 obtain⟨a1_0,b1_0,e1_0⟩:=AZ d1
 have w1_0:=(DL x.v _ a1_0 (by omega)).2
 have d2:=a1_0
 rw[Gh] at d2
 obtain⟨a2_0,b2_0,e2_0⟩:=AZ d2
 have w2_0:=(Cb a2_0 (by omega)).2
 have eq2:Aa x.v l=(DC x.v.s.size l):=(Gh x.v l).trans (e2_0)
 obtain⟨a1_1,b1_1,e1_1⟩:=AZ b1_0
 have w1_1:=(DF x.l (fun x _=>F5 x) a1_1 (by omega)).2
 have Iu:Au x l=(BN Au x.l (Aa x.v l)):=(Ie x l).trans ((e1_0).trans (e1_1))
 have:Nj k x+64*(BN Au x.l (Aa x.v l))≤k+6+64*(Aa x.v l):=IQ _ (fun y hy k l a b=>⟨hx y hy k l a b,(F5 y l a b).2⟩) _ a1_1 (by omega)
 rw[Ko,Iu]; omega
theorem Xx:∀ (n:Nat) (x:DPred),SizeOf.sizeOf x≤n→∀ k l,0≤Au x l→l≤1048576→BJ k x+64*Au x l≤k+64*l+64
 | 0,x,h=>by cases x; simp at h
 | n+1,x,h=>l7 x fun y hy=>Xx n y (by
  have h1:SizeOf.sizeOf y<SizeOf.sizeOf x.l:=uC hy
  have h2:SizeOf.sizeOf x.l<SizeOf.sizeOf x:=by cases x; simp[DPred.l]; omega
  omega)
theorem dQ (x:DPred) (k l:Int) (h0:0≤Au x l) (hl:l≤1048576):BJ k x+64*Au x l≤k+64*l+64:=Xx _ x (aK _) k l h0 hl
theorem Su (xs:List DPred) (hr:∀ x∈xs,∀ k,0≤k→fitS Ak x.l→Dw BJ k x.l≤4000000000000000000→rX prog 113 122 7 DPred.o Dn BJ x.l (k)) (k:Int) (hk:0≤k) (hx:fitS Ak xs) (hb:Dw BJ k xs≤4000000000000000000):rX prog 113 122 7 DPred.o Dn BJ xs (k):=by
 have hxl:=hx.1
 refine MCtr.mk (fn:=f113) call113 func113 rfl mixed ntmps113 results113 (by kernel_rfl) rfl (.inr rfl) fun us hw0 hw=>?_
 simp only[go_sem]
 refine LoopA.mk 1 0 [0,1,5] (A:=Nat×List DPred×Int) (mkS us 66 122 7 DPred.o xs) (MkX Dn BJ xs k) (fun x=>xs.length-x.1) (0,[],k) ⟨⟨rfl,Cj (BA Ur)⟩,rfl,MkX.start⟩ ?_
 rintro⟨i,dn,k1⟩ hP
 have hn:=hP.len
 simp only[go_sem,mkS,ae,hn]
 refine cndC.mk (fun h=>?_) (fun h=>?_)
 ·have hi:i<xs.length:=by simpa using h
  obtain⟨q2,q4,q5,q3⟩:=hP.room hi JP DPred.o
  have hst:=hP.set hi DPred.o (Dn k1 xs[i])
  have hset:=set_self (R:=(dn++xs.drop i).map DPred.o) (i:=i) q3
  rw[Ko] at q4
  have hle:=wL k1 xs[i]
  have hfx:=hx.2 _ (aj hi)
  rw[DPred.o_eq] at q2
  simp only[DVal.c_eq,bH,bi] at q2
  simp only[go_sem,q2,q3,hset,cO,bG,IC,Ad,Int.reduceAdd,wz (n:=k1+1),wz (n:=k1+2),wz (n:=k1+3),wz (n:=k1+4),wz (n:=k1+5),wz (n:=(i:Int)+1)]
  refine CallK.mk _ (Dk (k1+5) (by omega) (by omega)) fun _=>?_
  simp only[go_sem,q2,q3,hset,cO,bG,IC,Ad,Int.reduceAdd,wz (n:=k1+6),wz (n:=(i:Int)+1)]
  refine MutX.mk (l:=1) (hr xs[i] (aj hi) (k1+6) (by omega) (Eq.mp (BG _) hfx).2 (by show Nj k1 xs[i]≤_; omega)) rfl ⟨rfl,rfl,rfl,rfl,BL _,by simp,trivial⟩ ?_
  simp only[go_sem,q2,q3,hset,cO,bG,IC,Ad,Int.reduceAdd,wz (n:=(i:Int)+1),wK]
  refine⟨(i+1,dn ++ [Dn k1 xs[i]],BJ k1 xs[i]),.inr ⟨i,(dn++xs.drop i).map DPred.o, ?rowr,DPred.o (Dn k1 xs[i]), ?ob,⟨aaT, ?e1, ?e2,q3, ?e3⟩, ?own,⟨rfl, ?tr⟩, ?eq⟩,hP.step hi JP, ?mu⟩
  case e1=>exact rfl
  case e2=>exact rfl
  case e3=>exact rfl
  case own=>rw[AAm]; exact⟨rfl,rfl,rfl,rfl,rfl,rfl,rfl,rfl,rfl,rfl,rfl,rfl,rfl,rfl,rfl,rfl,BL _,by simp,fun l hl=>by omega⟩
  case eq=>unfold Az; rw[hst,Ko]; rfl
  case tr=>unfold Az; rw[hst]; exact Cj (BA Ur)
  case mu=>simp only; omega
 ·obtain⟨y1,y2⟩:=hP.finL h
  simp only[go_sem]
  rw[y1,y2]
  exact⟨[.ref 0],[.ow 122 7 _],[.c (.v (.int .i64 _))],rfl,.inr rfl,⟨rfl,rfl,rfl,rfl,BL _,by simp,trivial⟩,by simp only[Eu,JG,Xo,aU],rfl,rfl,rfl,rfl⟩
theorem Vd:∀ (n:Nat) (xs:List DPred),(∀ x∈xs,SizeOf.sizeOf x≤n)→∀ (k:Int),0≤k→fitS Ak xs→Dw BJ k xs≤4000000000000000000→rX prog 113 122 7 DPred.o Dn BJ xs (k)
 | 0,xs,h,k,h1,h2,h3=>Su xs (fun x hx=>by have:=h x hx; cases x; simp at this) k h1 h2 h3
 | n+1,xs,h,k,h1,h2,h3=>Su xs (fun x hx k g1 g2 g3=>Vd n x.l (fun y hy=>by
   have h1:SizeOf.sizeOf y<SizeOf.sizeOf x.l:=uC hy
   have h2:SizeOf.sizeOf x.l<SizeOf.sizeOf x:=by cases x; simp[DPred.l]; omega
   have:=h x hx
   omega) k g1 g2 g3) k h1 h2 h3
theorem Sv (xs:List DPred) (k:Int) (hk:0≤k) (hx:fitS Ak xs) (hb:Dw BJ k xs≤4000000000000000000):rX prog 113 122 7 DPred.o Dn BJ xs (k):=Vd (SizeOf.sizeOf xs) xs (fun x hx=>Nat.le_of_lt (uC hx)) k hk hx hb
theorem Sz (xs:List DPred) (hr:∀ x∈xs,∀ k,0≤k→fitS Ak x.l→Dw BJ k x.l≤4000000000000000000→wE prog 119 DPred.c Dn BJ x.l (k)) (k:Int) (hk:0≤k) (hx:fitS Ak xs) (hb:Dw BJ k xs≤4000000000000000000):wE prog 119 DPred.c Dn BJ xs (k):=by
 have hxl:=hx.1
 refine CM call119 func119 ntmps119 results119 fun hw=>?_
 simp only[go_sem]
 refine LoopK.mk 0 [0,1,5] (A:=Nat×Int) (Zh 80 DPred.c Dn BJ xs k) (HdX Dn BJ xs k) (fun x=>xs.length-x.1) (0,k) ⟨⟨rfl,rfl⟩,rfl,HdX.start⟩ ?_
 rintro⟨i,k1⟩ hP
 simp only[go_sem,Zh,ae,IM]
 refine cndC.mk (fun h=>?_) (fun h=>?_)
 ·have hi:i<xs.length:=by simpa using h
  obtain⟨q2,q4,q5⟩:=hP.room hi JP DPred.c
  rw[Ko] at q4
  have hle:=wL k1 xs[i]
  have hfx:=hx.2 _ (aj hi)
  rw[AAl] at q2
  simp only[go_sem,q2,IC,bD,aH,Ad,Int.reduceAdd,wz (n:=k1+1),wz (n:=k1+2),wz (n:=k1+3),wz (n:=k1+4),wz (n:=k1+5),wz (n:=(i:Int)+1)]
  refine DrawK.mk ?_
  simp only[go_sem,q2,IC,bD,aH,Ad,Int.reduceAdd,wz (n:=k1+1),wz (n:=k1+2),wz (n:=k1+3),wz (n:=k1+4),wz (n:=k1+5),wz (n:=(i:Int)+1)]
  refine CallF.mk _ (Dk (k1+5) (by omega) (by omega)) ?_
  simp only[go_sem,q2,IC,bD,aH,Ad,Int.reduceAdd,wz (n:=k1+6),wz (n:=(i:Int)+1)]
  refine CallK.mk _ (hr xs[i] (aj hi) (k1+6) (by omega) (Eq.mp (BG _) hfx).2 (by show Nj k1 xs[i]≤_; omega)) fun _=>?_
  have hg1:=KH (x:=Nj k1 xs[i]) (by omega)
  simp only[go_sem,q2,IC,bD,aH,Ad,Int.reduceAdd,wz (n:=(i:Int)+1),wK,hg1]
  refine⟨(i+1,Nj k1 xs[i]),⟨rfl,rfl⟩,rfl,Ko k1 xs[i]▸hP.step hi JP, ?mu⟩
  case mu=>simp only; omega
 ·have:=hP.finL h
  subst this
  simp only[go_sem]
theorem Ve:∀ (n:Nat) (xs:List DPred),(∀ x∈xs,SizeOf.sizeOf x≤n)→∀ (k:Int),0≤k→fitS Ak xs→Dw BJ k xs≤4000000000000000000→wE prog 119 DPred.c Dn BJ xs (k)
 | 0,xs,h,k,h1,h2,h3=>Sz xs (fun x hx=>by have:=h x hx; cases x; simp at this) k h1 h2 h3
 | n+1,xs,h,k,h1,h2,h3=>Sz xs (fun x hx k g1 g2 g3=>Ve n x.l (fun y hy=>by
   have h1:SizeOf.sizeOf y<SizeOf.sizeOf x.l:=uC hy
   have h2:SizeOf.sizeOf x.l<SizeOf.sizeOf x:=by cases x; simp[DPred.l]; omega
   have:=h x hx
   omega) k g1 g2 g3) k h1 h2 h3
theorem O3 (xs:List DPred) (k:Int) (hk:0≤k) (hx:fitS Ak xs) (hb:Dw BJ k xs≤4000000000000000000):wE prog 119 DPred.c Dn BJ xs (k):=Ve (SizeOf.sizeOf xs) xs (fun x hx=>Nat.le_of_lt (uC hx)) k hk hx hb
def Nk (k:Int) (x:DSlot):Int:=Dw Ed (k+1) x.l
theorem wM (k:Int) (x:DSlot):Dw Ed (k+1) x.l=Nk k x:=rfl
def HY (k:Int) (x:DSlot):Int:=Nk k x
def JQ (k:Int) (x:DSlot):DSlot:=⟨k,Gn Ih Ed (k+1) x.l⟩
theorem QJ (k:Int) (x:DSlot):HY k x=Nk k x:=rfl
theorem AAn (k:Int) (x:DSlot):(JQ k x).c = [.v (.int .i64 (k)),.sl ((Gn Ih Ed (k+1) x.l).map DVal.c)]:=by rw[DSlot.c_eq]; rfl
theorem AAo (k:Int) (x:DSlot):(JQ k x).o = [.v (.int .i64 (k)),.ow 119 3 ((Gn Ih Ed (k+1) x.l).map DVal.c)]:=by rw[DSlot.o_eq]; rfl
theorem gy (k:Int) (x:DSlot):k+1≤Nk k x:=EM Jk _ _
theorem Md (k:Int) (x:DSlot):k≤HY k x:=by have:=gy k x; unfold HY; omega
theorem yQ (x:DSlot) (k l:Int) (h0:0≤Ep x l) (hl:l≤1048576):HY k x+64*Ep x l≤k+64*l+64:=by
 have d1:=h0
 rw[QD] at d1
 obtain⟨a1_0,b1_0,e1_0⟩:=AZ d1
 have w1_0:=(DF x.l (fun x _=>DL x) a1_0 (by omega)).2
 have Iu:Ep x l=(BN Aa x.l l):=(QD x l).trans (e1_0)
 have:Nk k x+64*(BN Aa x.l l)≤k+1+64*l:=IQ _ (fun y _ k l a b=>⟨Si y k l a b,(DL y l a b).2⟩) _ a1_0 (by omega)
 rw[QJ,Iu]; omega
theorem gz (xs:List DSlot) (k:Int) (hk:0≤k) (hx:fitS JZ xs) (hb:Dw HY k xs≤4000000000000000000):rX prog 109 188 2 DSlot.o JQ HY xs (k):=by
 have hxl:=hx.1
 refine MCtr.mk (fn:=f109) call109 func109 rfl mixed ntmps109 results109 (by kernel_rfl) rfl (.inr rfl) fun us hw0 hw=>?_
 simp only[go_sem]
 refine LoopA.mk 1 0 [0,1,5] (A:=Nat×List DSlot×Int) (mkS us 27 188 2 DSlot.o xs) (MkX JQ HY xs k) (fun x=>xs.length-x.1) (0,[],k) ⟨⟨rfl,Cj (BA Us)⟩,rfl,MkX.start⟩ ?_
 rintro⟨i,dn,k1⟩ hP
 have hn:=hP.len
 simp only[go_sem,mkS,ae,hn]
 refine cndC.mk (fun h=>?_) (fun h=>?_)
 ·have hi:i<xs.length:=by simpa using h
  obtain⟨q2,q4,q5,q3⟩:=hP.room hi Md DSlot.o
  have hst:=hP.set hi DSlot.o (JQ k1 xs[i])
  have hset:=set_self (R:=(dn++xs.drop i).map DSlot.o) (i:=i) q3
  rw[QJ] at q4
  have hle:=gy k1 xs[i]
  have hfx:=hx.2 _ (aj hi)
  rw[DSlot.o_eq] at q2
  try simp only[bH,bi] at q2
  simp only[go_sem,q2,q3,hset,cO,bG,IC,Ad,Int.reduceAdd,wz (n:=k1+1),wz (n:=(i:Int)+1)]
  refine MutX.mk (l:=1) (Ld _ (k1+1) (by omega) hfx (by show Nk k1 xs[i]≤_; omega)) rfl ⟨rfl,rfl,rfl,rfl,CX _,by simp,trivial⟩ ?_
  simp only[go_sem,q2,q3,hset,cO,bG,IC,Ad,Int.reduceAdd,wz (n:=(i:Int)+1),wM]
  refine⟨(i+1,dn ++ [JQ k1 xs[i]],HY k1 xs[i]),.inr ⟨i,(dn++xs.drop i).map DSlot.o, ?rowr,DSlot.o (JQ k1 xs[i]), ?ob,⟨aaT, ?e1, ?e2,q3, ?e3⟩, ?own,⟨rfl, ?tr⟩, ?eq⟩,hP.step hi Md, ?mu⟩
  case e1=>exact rfl
  case e2=>exact rfl
  case e3=>exact rfl
  case own=>rw[AAo]; exact⟨rfl,rfl,rfl,rfl,rfl,rfl,CX _,by simp,fun l hl=>by omega⟩
  case eq=>unfold Az; rw[hst,QJ]; rfl
  case tr=>unfold Az; rw[hst]; exact Cj (BA Us)
  case mu=>simp only; omega
 ·obtain⟨y1,y2⟩:=hP.finL h
  simp only[go_sem]
  rw[y1,y2]
  exact⟨[.ref 0],[.ow 188 2 _],[.c (.v (.int .i64 _))],rfl,.inr rfl,⟨rfl,rfl,rfl,rfl,GG _,by simp,trivial⟩,by simp only[Eu,JG,lh,aU],rfl,rfl,rfl,rfl⟩
theorem Xy (xs:List DSlot) (k:Int) (hk:0≤k) (hx:fitS JZ xs) (hb:Dw HY k xs≤4000000000000000000):wE prog 116 DSlot.c JQ HY xs (k):=by
 have hxl:=hx.1
 refine CM call116 func116 ntmps116 results116 fun hw=>?_
 simp only[go_sem]
 refine LoopK.mk 0 [0,1,5] (A:=Nat×Int) (Zh 31 DSlot.c JQ HY xs k) (HdX JQ HY xs k) (fun x=>xs.length-x.1) (0,k) ⟨⟨rfl,rfl⟩,rfl,HdX.start⟩ ?_
 rintro⟨i,k1⟩ hP
 simp only[go_sem,Zh,ae,IM]
 refine cndC.mk (fun h=>?_) (fun h=>?_)
 ·have hi:i<xs.length:=by simpa using h
  obtain⟨q2,q4,q5⟩:=hP.room hi Md DSlot.c
  rw[QJ] at q4
  have hle:=gy k1 xs[i]
  have hfx:=hx.2 _ (aj hi)
  rw[AAn] at q2
  simp only[go_sem,q2,IC,bD,aH,Ad,Int.reduceAdd,wz (n:=k1+1),wz (n:=(i:Int)+1)]
  refine CallK.mk _ (Ja _ (k1+1) (by omega) hfx (by show Nk k1 xs[i]≤_; omega)) fun _=>?_
  have hg1:=KH (x:=Nk k1 xs[i]) (by omega)
  simp only[go_sem,q2,IC,bD,aH,Ad,Int.reduceAdd,wz (n:=(i:Int)+1),wM,hg1]
  refine⟨(i+1,Nk k1 xs[i]),⟨rfl,rfl⟩,rfl,hP.step hi Md, ?mu⟩
  case mu=>simp only; omega
 ·have:=hP.finL h
  subst this
  simp only[go_sem]
def KC (k:Int) (x:DBuf):Int:=Dw HY (k+3) x.c0.l
theorem g_ (k:Int) (x:DBuf):Dw HY (k+3) x.c0.l=KC k x:=rfl
def Qo (k:Int) (x:DBuf):Int:=Dw KG (KC k x) x.g
theorem AAp (k:Int) (x:DBuf):Dw KG (KC k x) x.g=Qo k x:=rfl
def JH (k:Int) (x:DBuf):Int:=Qo k x
def O4 (k:Int) (x:DBuf):DBuf:=⟨k,k+1,⟨k+2,Gn JQ HY (k+3) x.c0.l⟩,Gn mkY KG (KC k x) x.g⟩
theorem O5 (k:Int) (x:DBuf):JH k x=Qo k x:=rfl
theorem ACU (k:Int) (x:DBuf):(O4 k x).c = [.v (.int .i64 (k)),.v (.int .i64 (k+1)),.v (.int .i64 (k+2)),.sl ((Gn JQ HY (k+3) x.c0.l).map DSlot.c),.sl ((Gn mkY KG (KC k x) x.g).map byteC)]:=by rw[DBuf.c_eq]; rfl
theorem ACV (k:Int) (x:DBuf):(O4 k x).o = [.v (.int .i64 (k)),.v (.int .i64 (k+1)),.v (.int .i64 (k+2)),.ow 188 2 ((Gn JQ HY (k+3) x.c0.l).map DSlot.o),.ow 5 1 ((Gn mkY KG (KC k x) x.g).map byteC)]:=by rw[DBuf.o_eq]; rfl
theorem rZ (k:Int) (x:DBuf):k+3≤KC k x∧KC k x≤Qo k x:=⟨EM Md _ _,EM Iq _ _⟩
theorem O6 (k:Int) (x:DBuf):k≤JH k x:=by have:=rZ k x; unfold JH; omega
theorem l9 (x:DBuf) (k l:Int) (h0:0≤DU x l) (hl:l≤1048576):JH k x+64*DU x l≤k+64*l+64:=by
 have d1:=h0
 rw[SQ] at d1
 obtain⟨a1_0,b1_0,e1_0⟩:=AZ d1
 have w1_0:=(Va x.c0 _ a1_0 (by omega)).2
 have d2:=a1_0
 rw[NZ] at d2
 obtain⟨a2_0,b2_0,e2_0⟩:=AZ d2
 have w2_0:=(DF x.c0.l (fun x _=>RI x) a2_0 (by omega)).2
 have eq2:Gz x.c0 l=(BN Ep x.c0.l l):=(NZ x.c0 l).trans (e2_0)
 obtain⟨a1_1,b1_1,e1_1⟩:=AZ b1_0
 have w1_1:=(Cb a1_1 (by omega)).2
 have Iu:DU x l=(DC x.g.length (Gz x.c0 l)):=(SQ x l).trans ((e1_0).trans (e1_1))
 have:KC k x+64*(BN Ep x.c0.l l)≤k+3+64*l:=IQ _ (fun y _ k l a b=>⟨yQ y k l a b,(RI y l a b).2⟩) _ a2_0 (by omega)
 have:Qo k x+64*(DC x.g.length (Gz x.c0 l))≤KC k x+64*(Gz x.c0 l):=NW NY _ _ _ a1_1
 rw[O5,Iu]; omega
theorem l_ (xs:List DBuf) (k:Int) (hk:0≤k) (hx:fitS F6 xs) (hb:Dw JH k xs≤4000000000000000000):rX prog 43 112 5 DBuf.o O4 JH xs (k):=by
 have hxl:=hx.1
 refine MCtr.mk (fn:=f43) call43 func43 rfl mixed ntmps43 results43 (by kernel_rfl) rfl (.inr rfl) fun us hw0 hw=>?_
 simp only[go_sem]
 refine LoopA.mk 1 0 [0,1,5] (A:=Nat×List DBuf×Int) (mkS us 50 112 5 DBuf.o xs) (MkX O4 JH xs k) (fun x=>xs.length-x.1) (0,[],k) ⟨⟨rfl,Cj (BA Xp)⟩,rfl,MkX.start⟩ ?_
 rintro⟨i,dn,k1⟩ hP
 have hn:=hP.len
 simp only[go_sem,mkS,ae,hn]
 refine cndC.mk (fun h=>?_) (fun h=>?_)
 ·have hi:i<xs.length:=by simpa using h
  obtain⟨q2,q4,q5,q3⟩:=hP.room hi O6 DBuf.o
  have hst:=hP.set hi DBuf.o (O4 k1 xs[i])
  have hset:=set_self (R:=(dn++xs.drop i).map DBuf.o) (i:=i) q3
  rw[O5] at q4
  have hle:=rZ k1 xs[i]
  have hfx:=hx.2 _ (aj hi)
  rw[DBuf.o_eq] at q2
  simp only[DChunk.o_eq,bH,bi] at q2
  simp only[go_sem,q2,q3,hset,cO,bG,IC,Ad,Int.reduceAdd,wz (n:=k1+1),wz (n:=k1+2),wz (n:=k1+3),wz (n:=(i:Int)+1)]
  refine MutX.mk (l:=1) (gz _ (k1+3) (by omega) hfx.1 (by show KC k1 xs[i]≤_; omega)) rfl ⟨rfl,rfl,rfl,rfl,GG _,by simp,trivial⟩ ?_
  simp only[go_sem,q2,q3,hset,cO,bG,IC,Ad,Int.reduceAdd,wz (n:=(i:Int)+1),g_]
  refine MutX.mk (l:=2) (gu _ (KC k1 xs[i]) (by omega) hfx.2 (by show Qo k1 xs[i]≤_; omega)) rfl ⟨rfl,rfl,rfl,rfl,B_ _,by simp,trivial⟩ ?_
  simp only[go_sem,q2,q3,hset,cO,bG,IC,Ad,Int.reduceAdd,wz (n:=(i:Int)+1),g_,AAp]
  refine⟨(i+1,dn ++ [O4 k1 xs[i]],JH k1 xs[i]),.inr ⟨i,(dn++xs.drop i).map DBuf.o, ?rowr,DBuf.o (O4 k1 xs[i]), ?ob,⟨aaT, ?e1, ?e2,q3, ?e3⟩, ?own,⟨rfl, ?tr⟩, ?eq⟩,hP.step hi O6, ?mu⟩
  case e1=>exact rfl
  case e2=>exact rfl
  case e3=>exact rfl
  case own=>rw[ACV]; exact⟨rfl,rfl,rfl,rfl,rfl,rfl,rfl,rfl,rfl,rfl,GG _,by simp,rfl,rfl,rfl,rfl,B_ _,by simp,fun l hl=>by omega⟩
  case eq=>unfold Az; rw[hst,O5]; rfl
  case tr=>unfold Az; rw[hst]; exact Cj (BA Xp)
  case mu=>simp only; omega
 ·obtain⟨y1,y2⟩:=hP.finL h
  simp only[go_sem]
  rw[y1,y2]
  exact⟨[.ref 0],[.ow 112 5 _],[.c (.v (.int .i64 _))],rfl,.inr rfl,⟨rfl,rfl,rfl,rfl,CE _,by simp,trivial⟩,by simp only[Eu,JG,wI,aU],rfl,rfl,rfl,rfl⟩
theorem Zk (xs:List DBuf) (k:Int) (hk:0≤k) (hx:fitS F6 xs) (hb:Dw JH k xs≤4000000000000000000):wE prog 50 DBuf.c O4 JH xs (k):=by
 have hxl:=hx.1
 refine CM call50 func50 ntmps50 results50 fun hw=>?_
 simp only[go_sem]
 refine LoopK.mk 0 [0,1,5] (A:=Nat×Int) (Zh 60 DBuf.c O4 JH xs k) (HdX O4 JH xs k) (fun x=>xs.length-x.1) (0,k) ⟨⟨rfl,rfl⟩,rfl,HdX.start⟩ ?_
 rintro⟨i,k1⟩ hP
 simp only[go_sem,Zh,ae,IM]
 refine cndC.mk (fun h=>?_) (fun h=>?_)
 ·have hi:i<xs.length:=by simpa using h
  obtain⟨q2,q4,q5⟩:=hP.room hi O6 DBuf.c
  rw[O5] at q4
  have hle:=rZ k1 xs[i]
  have hfx:=hx.2 _ (aj hi)
  rw[ACU] at q2
  simp only[go_sem,q2,IC,bD,aH,Ad,Int.reduceAdd,wz (n:=k1+1),wz (n:=k1+2),wz (n:=k1+3),wz (n:=(i:Int)+1)]
  refine CallK.mk _ (Xy _ (k1+3) (by omega) hfx.1 (by show KC k1 xs[i]≤_; omega)) fun _=>?_
  have hg1:=KH (x:=KC k1 xs[i]) (by omega)
  simp only[go_sem,q2,IC,bD,aH,Ad,Int.reduceAdd,wz (n:=(i:Int)+1),g_,hg1]
  refine CallK.mk _ (Xr _ (KC k1 xs[i]) (by omega) hfx.2 (by show Qo k1 xs[i]≤_; omega)) fun _=>?_
  have hg2:=KH (x:=Qo k1 xs[i]) (by omega)
  simp only[go_sem,q2,IC,bD,aH,Ad,Int.reduceAdd,wz (n:=(i:Int)+1),g_,AAp,hg1,hg2]
  refine⟨(i+1,Qo k1 xs[i]),⟨rfl,rfl⟩,rfl,hP.step hi O6, ?mu⟩
  case mu=>simp only; omega
 ·have:=hP.finL h
  subst this
  simp only[go_sem]
def H8 (k:Int) (x:DDead):Int:=k+3
def Nl (k:Int) (x:DDead):DDead:=⟨k,k+1,k+2⟩
theorem dR (k:Int) (x:DDead):H8 k x=k+3:=rfl
theorem mD (k:Int) (x:DDead):(Nl k x).c = [.v (.int .i64 (k)),.v (.int .i64 (k+1)),.v (.int .i64 (k+2))]:=by rw[DDead.c_eq]; rfl
theorem Me (k:Int) (x:DDead):k≤H8 k x:=by unfold H8; omega
theorem dS (k:Int) (x:DDead):H8 k x≤k+64:=by unfold H8; omega
theorem h_ (xs:List DDead) (k:Int) (hk:0≤k) (hx:xs.length≤1048576) (hb:Dw H8 k xs≤4000000000000000000):rX prog 45 115 3 DDead.c Nl H8 xs (k):=by
 have hxl:=hx
 refine MCtr.mk (fn:=f45) call45 func45 rfl mixed ntmps45 results45 (by kernel_rfl) rfl (.inr rfl) fun us hw0 hw=>?_
 simp only[go_sem]
 refine LoopK.mk 1 [0,1,5] (A:=Nat×List DDead×Int) (mkS us 34 115 3 DDead.c xs) (MkX Nl H8 xs k) (fun x=>xs.length-x.1) (0,[],k) ⟨⟨rfl,Cj (BA fun d=>rfl)⟩,rfl,MkX.start⟩ ?_
 rintro⟨i,dn,k1⟩ hP
 have hn:=hP.len
 simp only[go_sem,mkS,ae,hn]
 refine cndC.mk (fun h=>?_) (fun h=>?_)
 ·have hi:i<xs.length:=by simpa using h
  obtain⟨q2,q4,q5,q3⟩:=hP.room hi Me DDead.c
  have hst:=hP.set hi DDead.c (Nl k1 xs[i])
  rw[mD] at hst
  have hset:=set_self (R:=(dn++xs.drop i).map DDead.c) (i:=i) q3
  rw[dR] at q4
  rw[DDead.c_eq] at q2
  try simp only[bH,bi] at q2
  simp only[go_sem,q2,q3,hset,cO,bG,IC,Ad,Int.reduceAdd,wz (n:=k1+1),wz (n:=k1+2),wz (n:=k1+3),wz (n:=(i:Int)+1)]
  rw[hst]
  refine⟨(i+1,dn ++ [Nl k1 xs[i]],k1+3),⟨rfl,Cj (BA fun d=>rfl)⟩,rfl,hP.step hi Me, ?mu⟩
  case mu=>simp only; omega
 ·obtain⟨y1,y2⟩:=hP.finL h
  simp only[go_sem]
  rw[y1,y2]
  exact⟨[.ref 0],[.ow 115 3 _],[.c (.v (.int .i64 _))],rfl,.inr rfl,⟨rfl,rfl,rfl,rfl,G6 _,by simp,trivial⟩,by simp only[Eu,JG,lm,aU],rfl,rfl,rfl,rfl⟩
theorem Xz (xs:List DDead) (k:Int) (hk:0≤k) (hx:xs.length≤1048576) (hb:Dw H8 k xs≤4000000000000000000):wE prog 52 DDead.c Nl H8 xs (k):=by
 have hxl:=hx
 refine CM call52 func52 ntmps52 results52 fun hw=>?_
 simp only[go_sem]
 refine LoopK.mk 0 [0,1,5] (A:=Nat×Int) (Zh 40 DDead.c Nl H8 xs k) (HdX Nl H8 xs k) (fun x=>xs.length-x.1) (0,k) ⟨⟨rfl,rfl⟩,rfl,HdX.start⟩ ?_
 rintro⟨i,k1⟩ hP
 simp only[go_sem,Zh,ae,IM]
 refine cndC.mk (fun h=>?_) (fun h=>?_)
 ·have hi:i<xs.length:=by simpa using h
  obtain⟨q2,q4,q5⟩:=hP.room hi Me DDead.c
  rw[dR] at q4
  rw[mD] at q2
  simp only[go_sem,q2,IC,bD,aH,Ad,Int.reduceAdd,wz (n:=k1+1),wz (n:=k1+2),wz (n:=k1+3),wz (n:=(i:Int)+1)]
  refine⟨(i+1,k1+3),⟨rfl,rfl⟩,rfl,hP.step hi Me, ?mu⟩
  case mu=>simp only; omega
 ·have:=hP.finL h
  subst this
  simp only[go_sem]
def II (k:Int) (x:DRef):Int:=k+5
def mkRef (k:Int) (x:DRef):DRef:=⟨k,k+1,k+2,k+3,k+4⟩
theorem mF (k:Int) (x:DRef):II k x=k+5:=rfl
theorem wO (k:Int) (x:DRef):(mkRef k x).c = [.v (.int .i64 (k)),.v (.int .i64 (k+1)),.v (.int .i64 (k+2)),.v (.int .i64 (k+3)),.v (.int .i64 (k+4))]:=by rw[DRef.c_eq]; rfl
theorem M_ (k:Int) (x:DRef):k≤II k x:=by unfold II; omega
theorem X0 (k:Int) (x:DRef):II k x≤k+64:=by unfold II; omega
theorem Vf (xs:List DRef) (k:Int) (hk:0≤k) (hx:xs.length≤1048576) (hb:Dw II k xs≤4000000000000000000):rX prog 108 165 5 DRef.c mkRef II xs (k):=by
 have hxl:=hx
 refine MCtr.mk (fn:=f108) call108 func108 rfl mixed ntmps108 results108 (by kernel_rfl) rfl (.inr rfl) fun us hw0 hw=>?_
 simp only[go_sem]
 refine LoopK.mk 1 [0,1,5] (A:=Nat×List DRef×Int) (mkS us 48 165 5 DRef.c xs) (MkX mkRef II xs k) (fun x=>xs.length-x.1) (0,[],k) ⟨⟨rfl,Cj (BA fun d=>rfl)⟩,rfl,MkX.start⟩ ?_
 rintro⟨i,dn,k1⟩ hP
 have hn:=hP.len
 simp only[go_sem,mkS,ae,hn]
 refine cndC.mk (fun h=>?_) (fun h=>?_)
 ·have hi:i<xs.length:=by simpa using h
  obtain⟨q2,q4,q5,q3⟩:=hP.room hi M_ DRef.c
  have hst:=hP.set hi DRef.c (mkRef k1 xs[i])
  rw[wO] at hst
  have hset:=set_self (R:=(dn++xs.drop i).map DRef.c) (i:=i) q3
  rw[mF] at q4
  rw[DRef.c_eq] at q2
  try simp only[bH,bi] at q2
  simp only[go_sem,q2,q3,hset,cO,bG,IC,Ad,Int.reduceAdd,wz (n:=k1+1),wz (n:=k1+2),wz (n:=k1+3),wz (n:=k1+4),wz (n:=k1+5),wz (n:=(i:Int)+1)]
  rw[hst]
  refine⟨(i+1,dn ++ [mkRef k1 xs[i]],k1+5),⟨rfl,Cj (BA fun d=>rfl)⟩,rfl,hP.step hi M_, ?mu⟩
  case mu=>simp only; omega
 ·obtain⟨y1,y2⟩:=hP.finL h
  simp only[go_sem]
  rw[y1,y2]
  exact⟨[.ref 0],[.ow 165 5 _],[.c (.v (.int .i64 _))],rfl,.inr rfl,⟨rfl,rfl,rfl,rfl,Et _,by simp,trivial⟩,by simp only[Eu,JG,XF,aU],rfl,rfl,rfl,rfl⟩
theorem Qp (xs:List DRef) (k:Int) (hk:0≤k) (hx:xs.length≤1048576) (hb:Dw II k xs≤4000000000000000000):wE prog 115 DRef.c mkRef II xs (k):=by
 have hxl:=hx
 refine CM call115 func115 ntmps115 results115 fun hw=>?_
 simp only[go_sem]
 refine LoopK.mk 0 [0,1,5] (A:=Nat×Int) (Zh 58 DRef.c mkRef II xs k) (HdX mkRef II xs k) (fun x=>xs.length-x.1) (0,k) ⟨⟨rfl,rfl⟩,rfl,HdX.start⟩ ?_
 rintro⟨i,k1⟩ hP
 simp only[go_sem,Zh,ae,IM]
 refine cndC.mk (fun h=>?_) (fun h=>?_)
 ·have hi:i<xs.length:=by simpa using h
  obtain⟨q2,q4,q5⟩:=hP.room hi M_ DRef.c
  rw[mF] at q4
  rw[wO] at q2
  simp only[go_sem,q2,IC,bD,aH,Ad,Int.reduceAdd,wz (n:=k1+1),wz (n:=k1+2),wz (n:=k1+3),wz (n:=k1+4),wz (n:=k1+5),wz (n:=(i:Int)+1)]
  refine⟨(i+1,k1+5),⟨rfl,rfl⟩,rfl,hP.step hi M_, ?mu⟩
  case mu=>simp only; omega
 ·have:=hP.finL h
  subst this
  simp only[go_sem]
end Go.Proofs.YtnchiiikacemmaaGreat
