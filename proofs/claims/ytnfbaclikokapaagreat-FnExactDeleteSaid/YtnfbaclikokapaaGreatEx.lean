/- A part. -/
import Derived.Test.YtnfbaclikokapaaGreatBg
set_option linter.unusedSimpArgs false
set_option linter.unusedVariables false
set_option maxHeartbeats 2000000
set_option maxRecDepth 10000
open Go.Proofs.Tryz
namespace Go.Proofs.YtnfbaclikokapaaGreat
open Go.Vm
theorem Sv (l:List Int):IU (l.map intC)=true:=BA fun _=>rfl
theorem lQ (l:List Int):IU (l.map byteC)=true:=BA fun _=>rfl
theorem Sz (l:List DVal):IU (l.map DVal.c)=true:=BA fun _=>rfl
theorem Xd (d:DRow):En d.o=true:=by
 rw[DRow.o_eq]
 simp[En,JI,Sz]
theorem gp (l:List DRow):IU (l.map DRow.o)=true:=BA Xd
theorem PN:∀ (n:Nat) (d:DPred),SizeOf.sizeOf d≤n→En d.o=true
 | 0,d,h=>by cases d; simp at h
 | n+1,d,h=>by
  have hm:IU (d.l.map DPred.o)=true:=XF fun y hy=>by
   obtain⟨x,hx,rfl⟩:=WY.1 hy
   refine PN n x ?_
   have h1:SizeOf.sizeOf x<SizeOf.sizeOf d.l:=v_ hx
   have h2:SizeOf.sizeOf d.l<SizeOf.sizeOf d:=by cases d; simp[DPred.l]; omega
   omega
  rw[DPred.o_eq]
  simp[En,JI,hm,DVal.c_eq]
theorem Us (d:DPred):En d.o=true:=PN _ d (aN _)
theorem Xe (l:List DPred):IU (l.map DPred.o)=true:=BA Us
theorem Ut (d:DSlot):En d.o=true:=by
 rw[DSlot.o_eq]
 simp[En,JI,Sz]
theorem lS (l:List DSlot):IU (l.map DSlot.o)=true:=BA Ut
theorem Xf (d:DBuf):En d.o=true:=by
 rw[DBuf.o_eq]
 simp[En,JI,DChunk.o_eq,lS,lQ]
theorem vU (l:List DBuf):IU (l.map DBuf.o)=true:=BA Xf
theorem lT (l:List DDead):IU (l.map DDead.c)=true:=BA fun _=>rfl
theorem Wx (l:List DRef):IU (l.map DRef.c)=true:=BA fun _=>rfl
theorem AAT (d:DDir):En d.o=true:=by
 rw[DDir.o_eq]
 simp[En,JI,Wx]
theorem Uu (d:DTask):En d.o=true:=by
 rw[DTask.o_eq]
 simp[En,JI,DPred.o_eq,DQuery.o_eq,DVal.c_eq,Xe,Wx,gp,Sz,Sv]
theorem lU (l:List DTask):IU (l.map DTask.o)=true:=BA Uu
theorem Uw (d:DDeed):En d.o=true:=by
 rw[DDeed.o_eq]
 simp[En,JI,DPred.o_eq,DQuery.o_eq,DResult.o_eq,DVal.c_eq,Xe,gp,Sz,Sv]
theorem lV (l:List DDeed):IU (l.map DDeed.o)=true:=BA Uw
theorem xm (d:DConf):En d.o=true:=by
 rw[DConf.o_eq]
 simp[En,JI,Sv]
theorem Rf (d:DWorld):En d.o=true:=by
 rw[DWorld.o_eq]
 simp[En,JI,DConf.o_eq,DDir.o_eq,vU,lT,lV,Wx,lU,Sv]
theorem Jr (xs:List Int) (k:Int) (hk:0≤k) (hx:xs.length≤1048576) (hb:Dz KO k xs≤4000000000000000000):rD prog 57 3 1 intC lC KO xs (k):=by
 have hxl:=hx
 refine MCtr.mk (fn:=f57) call57 func57 rfl mixed ntmps57 results57 (by kernel_rfl) rfl (.inr rfl) fun us hw0 hw=>?_
 simp only[go_sem]
 refine LoopK.mk 1 [0,1,5] (A:=Nat×List Int×Int) (mkS us 19 3 1 intC xs) (MkX lC KO xs k) (fun x=>xs.length-x.1) (0,[],k) ⟨⟨rfl,Cf (BA fun d=>rfl)⟩,rfl,MkX.start⟩ ?_
 rintro⟨i,dn,k1⟩ hP
 have hn:=hP.len
 simp only[go_sem,mkS,ae,hn]
 refine cndC.mk (fun h=>?_) (fun h=>?_)
 ·have hi:i<xs.length:=by simpa using h
  obtain⟨q2,q4,q5,q3⟩:=hP.room hi Ik intC
  have hst:=hP.set hi intC (lC k1 xs[i])
  rw[show intC (lC k1 xs[i]) = [.v (.int .i64 (k1))] from rfl] at hst
  have hset:=set_self (R:=(dn++xs.drop i).map intC) (i:=i) q3
  have q4:k1+1≤Dz KO k xs:=q4
  rw[vP] at q2
  simp only[go_sem,q2,q3,hset,cu,bu,IB,Ad,Int.reduceAdd,wz (n:=k1+1),wz (n:=(i:Int)+1)]
  rw[hst]
  refine⟨(i+1,dn ++ [lC k1 xs[i]],k1+1),⟨rfl,Cf (BA fun d=>rfl)⟩,rfl,hP.step hi Ik, ?mu⟩
  case mu=>simp only; omega
 ·obtain⟨y1,y2⟩:=hP.finL h
  simp only[go_sem]
  rw[y1,y2]
  exact⟨[.ref 0],[.ow 3 1 _],[.c (.v (.int .i64 _))],rfl,.inr rfl,⟨rfl,rfl,rfl,rfl,Am _,by simp,trivial⟩,by simp only[En,JI,Sv,aS],rfl,rfl,rfl,rfl⟩
theorem IC (xs:List Int) (k:Int) (hk:0≤k) (hx:xs.length≤1048576) (hb:Dz KO k xs≤4000000000000000000):vM prog 64 intC lC KO xs (k):=by
 have hxl:=hx
 refine CM call64 func64 ntmps64 results64 fun hw=>?_
 simp only[go_sem]
 refine LoopK.mk 0 [0,1,5] (A:=Nat×Int) (ZY 21 intC lC KO xs k) (HdX lC KO xs k) (fun x=>xs.length-x.1) (0,k) ⟨⟨rfl,rfl⟩,rfl,HdX.start⟩ ?_
 rintro⟨i,k1⟩ hP
 simp only[go_sem,ZY,ae,IM]
 refine cndC.mk (fun h=>?_) (fun h=>?_)
 ·have hi:i<xs.length:=by simpa using h
  obtain⟨q2,q4,q5⟩:=hP.room hi Ik intC
  have q4:k1+1≤Dz KO k xs:=q4
  rw[show intC (lC k1 xs[i]) = [.v (.int .i64 (k1))] from rfl] at q2
  simp only[go_sem,q2,IB,ay,au,Ad,Int.reduceAdd,wz (n:=k1+1),wz (n:=(i:Int)+1)]
  refine⟨(i+1,k1+1),⟨rfl,rfl⟩,rfl,hP.step hi Ik, ?mu⟩
  case mu=>simp only; omega
 ·have:=hP.finL h
  subst this
  simp only[go_sem]
theorem gq (xs:List Int) (k:Int) (hk:0≤k) (hx:xs.length≤1048576) (hb:Dz KO k xs≤4000000000000000000):rD prog 130 5 1 byteC zq KO xs (k):=by
 have hxl:=hx
 refine MCtr.mk (fn:=f130) call130 func130 rfl mixed ntmps130 results130 (by kernel_rfl) rfl (.inr rfl) fun us hw0 hw=>?_
 simp only[go_sem]
 refine LoopK.mk 1 [0,1,5] (A:=Nat×List Int×Int) (mkS us 20 5 1 byteC xs) (MkX zq KO xs k) (fun x=>xs.length-x.1) (0,[],k) ⟨⟨rfl,Cf (BA fun d=>rfl)⟩,rfl,MkX.start⟩ ?_
 rintro⟨i,dn,k1⟩ hP
 have hn:=hP.len
 simp only[go_sem,mkS,ae,hn]
 refine cndC.mk (fun h=>?_) (fun h=>?_)
 ·have hi:i<xs.length:=by simpa using h
  obtain⟨q2,q4,q5,q3⟩:=hP.room hi Ik byteC
  have hst:=hP.set hi byteC (zq k1 xs[i])
  rw[show byteC (zq k1 xs[i]) = [.v (.int .u8 (IntKind.u8.wrap (k1)))] from rfl] at hst
  have hset:=set_self (R:=(dn++xs.drop i).map byteC) (i:=i) q3
  have q4:k1+1≤Dz KO k xs:=q4
  rw[NM] at q2
  simp only[go_sem,q2,q3,hset,cu,bu,IB,Ad,Int.reduceAdd,wz (n:=k1+1),wz (n:=(i:Int)+1)]
  rw[hst]
  refine⟨(i+1,dn ++ [zq k1 xs[i]],k1+1),⟨rfl,Cf (BA fun d=>rfl)⟩,rfl,hP.step hi Ik, ?mu⟩
  case mu=>simp only; omega
 ·obtain⟨y1,y2⟩:=hP.finL h
  simp only[go_sem]
  rw[y1,y2]
  exact⟨[.ref 0],[.ow 5 1 _],[.c (.v (.int .i64 _))],rfl,.inr rfl,⟨rfl,rfl,rfl,rfl,Bg _,by simp,trivial⟩,by simp only[En,JI,lQ,aS],rfl,rfl,rfl,rfl⟩
theorem Xg (xs:List Int) (k:Int) (hk:0≤k) (hx:xs.length≤1048576) (hb:Dz KO k xs≤4000000000000000000):vM prog 135 byteC zq KO xs (k):=by
 have hxl:=hx
 refine CM call135 func135 ntmps135 results135 fun hw=>?_
 simp only[go_sem]
 refine LoopK.mk 0 [0,1,5] (A:=Nat×Int) (ZY 22 byteC zq KO xs k) (HdX zq KO xs k) (fun x=>xs.length-x.1) (0,k) ⟨⟨rfl,rfl⟩,rfl,HdX.start⟩ ?_
 rintro⟨i,k1⟩ hP
 simp only[go_sem,ZY,ae,IM]
 refine cndC.mk (fun h=>?_) (fun h=>?_)
 ·have hi:i<xs.length:=by simpa using h
  obtain⟨q2,q4,q5⟩:=hP.room hi Ik byteC
  have q4:k1+1≤Dz KO k xs:=q4
  rw[show byteC (zq k1 xs[i]) = [.v (.int .u8 (IntKind.u8.wrap (k1)))] from rfl] at q2
  simp only[go_sem,q2,IB,ay,au,Ad,Int.reduceAdd,wz (n:=k1+1),wz (n:=(i:Int)+1)]
  refine⟨(i+1,k1+1),⟨rfl,rfl⟩,rfl,hP.step hi Ik, ?mu⟩
  case mu=>simp only; omega
 ·have:=hP.finL h
  subst this
  simp only[go_sem]
def Ea (k:Int) (x:DVal):Int:=k+3
def Ib (k:Int) (x:DVal):DVal:=⟨k,k+1,Gp (k+2)⟩
theorem Xh (k:Int) (x:DVal):Ea k x=k+3:=rfl
theorem vV (k:Int) (x:DVal):(Ib k x).c = [.v (.int .i64 (k)),.v (.int .i64 (k+1)),.v (.string (Gp (k+2)))]:=by rw[DVal.c_eq]; rfl
theorem Js (k:Int) (x:DVal):k≤Ea k x:=by unfold Ea; omega
theorem S9 (x:DVal) (k l:Int) (h0:0≤Ai x l) (hl:l≤1048576):Ea k x+64*Ai x l≤k+64*l+64:=by
 have d1:=h0
 rw[Gf] at d1
 obtain⟨a1_0,b1_0,e1_0⟩:=AX d1
 have w1_0:=(CJ a1_0 (by omega)).2
 have Gs:Ai x l=(Ew x.s.size l):=(Gf x l).trans (e1_0)
 rw[Xh,Gs]; omega
theorem MJ (xs:List DVal) (k:Int) (hk:0≤k) (hx:fitS Ff xs) (hb:Dz Ea k xs≤4000000000000000000):rD prog 18 68 3 DVal.c Ib Ea xs (k):=by
 have hxl:=hx.1
 refine MCtr.mk (fn:=f18) call18 func18 rfl mixed ntmps18 results18 (by kernel_rfl) rfl (.inr rfl) fun us hw0 hw=>?_
 simp only[go_sem]
 refine LoopK.mk 1 [0,1,5] (A:=Nat×List DVal×Int) (mkS us 35 68 3 DVal.c xs) (MkX Ib Ea xs k) (fun x=>xs.length-x.1) (0,[],k) ⟨⟨rfl,Cf (BA fun d=>rfl)⟩,rfl,MkX.start⟩ ?_
 rintro⟨i,dn,k1⟩ hP
 have hn:=hP.len
 simp only[go_sem,mkS,ae,hn]
 refine cndC.mk (fun h=>?_) (fun h=>?_)
 ·have hi:i<xs.length:=by simpa using h
  obtain⟨q2,q4,q5,q3⟩:=hP.room hi Js DVal.c
  have hst:=hP.set hi DVal.c (Ib k1 xs[i])
  rw[vV] at hst
  have hset:=set_self (R:=(dn++xs.drop i).map DVal.c) (i:=i) q3
  rw[Xh] at q4
  have hfx:=hx.2 _ (aj hi)
  rw[DVal.c_eq] at q2
  try simp only[aK,aI] at q2
  simp only[go_sem,q2,q3,hset,cu,bu,IB,Ad,Int.reduceAdd,wz (n:=k1+1),wz (n:=k1+2),wz (n:=(i:Int)+1)]
  refine CallK.mk _ (Dh (k1+2) (by omega) (by omega)) fun _=>?_
  simp only[go_sem,q2,q3,hset,cu,bu,IB,Ad,Int.reduceAdd,wz (n:=k1+3),wz (n:=(i:Int)+1)]
  rw[hst]
  refine⟨(i+1,dn ++ [Ib k1 xs[i]],k1+3),⟨rfl,Cf (BA fun d=>rfl)⟩,rfl,hP.step hi Js, ?mu⟩
  case mu=>simp only; omega
 ·obtain⟨y1,y2⟩:=hP.finL h
  simp only[go_sem]
  rw[y1,y2]
  exact⟨[.ref 0],[.ow 68 3 _],[.c (.v (.int .i64 _))],rfl,.inr rfl,⟨rfl,rfl,rfl,rfl,CV _,by simp,trivial⟩,by simp only[En,JI,Sz,aS],rfl,rfl,rfl,rfl⟩
theorem Jg (xs:List DVal) (k:Int) (hk:0≤k) (hx:fitS Ff xs) (hb:Dz Ea k xs≤4000000000000000000):vM prog 136 DVal.c Ib Ea xs (k):=by
 have hxl:=hx.1
 refine CM call136 func136 ntmps136 results136 fun hw=>?_
 simp only[go_sem]
 refine LoopK.mk 0 [0,1,5] (A:=Nat×Int) (ZY 41 DVal.c Ib Ea xs k) (HdX Ib Ea xs k) (fun x=>xs.length-x.1) (0,k) ⟨⟨rfl,rfl⟩,rfl,HdX.start⟩ ?_
 rintro⟨i,k1⟩ hP
 simp only[go_sem,ZY,ae,IM]
 refine cndC.mk (fun h=>?_) (fun h=>?_)
 ·have hi:i<xs.length:=by simpa using h
  obtain⟨q2,q4,q5⟩:=hP.room hi Js DVal.c
  rw[Xh] at q4
  have hfx:=hx.2 _ (aj hi)
  rw[vV] at q2
  simp only[go_sem,q2,IB,ay,au,Ad,Int.reduceAdd,wz (n:=k1+1),wz (n:=k1+2),wz (n:=(i:Int)+1)]
  refine DrawK.mk ?_
  simp only[go_sem,q2,IB,ay,au,Ad,Int.reduceAdd,wz (n:=k1+1),wz (n:=k1+2),wz (n:=(i:Int)+1)]
  refine CallF.mk _ (Dh (k1+2) (by omega) (by omega)) ?_
  simp only[go_sem,q2,IB,ay,au,Ad,Int.reduceAdd,wz (n:=k1+3),wz (n:=(i:Int)+1)]
  refine⟨(i+1,k1+3),⟨rfl,rfl⟩,rfl,hP.step hi Js, ?mu⟩
  case mu=>simp only; omega
 ·have:=hP.finL h
  subst this
  simp only[go_sem]
def S_ (k:Int) (x:DRow):Int:=Dz Ea (k+1) x.l
theorem AAU (k:Int) (x:DRow):Dz Ea (k+1) x.l=S_ k x:=rfl
def H6 (k:Int) (x:DRow):Int:=S_ k x
def mkRow (k:Int) (x:DRow):DRow:=⟨k,Gj Ib Ea (k+1) x.l⟩
theorem TA (k:Int) (x:DRow):H6 k x=S_ k x:=rfl
theorem ACG (k:Int) (x:DRow):(mkRow k x).c = [.v (.int .i64 (k)),.sl ((Gj Ib Ea (k+1) x.l).map DVal.c)]:=by rw[DRow.c_eq]; rfl
theorem ACH (k:Int) (x:DRow):(mkRow k x).o = [.v (.int .i64 (k)),.ow 68 3 ((Gj Ib Ea (k+1) x.l).map DVal.c)]:=by rw[DRow.o_eq]; rfl
theorem rH (k:Int) (x:DRow):k+1≤S_ k x:=EJ Js _ _
theorem NT (k:Int) (x:DRow):k≤H6 k x:=by have:=rH k x; unfold H6; omega
theorem lW (x:DRow) (k l:Int) (h0:0≤Gv x l) (hl:l≤1048576):H6 k x+64*Gv x l≤k+64*l+64:=by
 have d1:=h0
 rw[SY] at d1
 obtain⟨a1_0,b1_0,e1_0⟩:=AX d1
 have w1_0:=(DI x.l (fun x _=>C_ x) a1_0 (by omega)).2
 have Gs:Gv x l=(Ce Ai x.l l):=(SY x l).trans (e1_0)
 have:S_ k x+64*(Ce Ai x.l l)≤k+1+64*l:=JK _ (fun y _ k l a b=>⟨S9 y k l a b,(C_ y l a b).2⟩) _ a1_0 (by omega)
 rw[TA,Gs]; omega
theorem Vb (xs:List DRow) (k:Int) (hk:0≤k) (hx:fitS IR xs) (hb:Dz H6 k xs≤4000000000000000000):rD prog 132 204 2 DRow.o mkRow H6 xs (k):=by
 have hxl:=hx.1
 refine MCtr.mk (fn:=f132) call132 func132 rfl mixed ntmps132 results132 (by kernel_rfl) rfl (.inr rfl) fun us hw0 hw=>?_
 simp only[go_sem]
 refine LoopA.mk 1 0 [0,1,5] (A:=Nat×List DRow×Int) (mkS us 27 204 2 DRow.o xs) (MkX mkRow H6 xs k) (fun x=>xs.length-x.1) (0,[],k) ⟨⟨rfl,Cf (BA Xd)⟩,rfl,MkX.start⟩ ?_
 rintro⟨i,dn,k1⟩ hP
 have hn:=hP.len
 simp only[go_sem,mkS,ae,hn]
 refine cndC.mk (fun h=>?_) (fun h=>?_)
 ·have hi:i<xs.length:=by simpa using h
  obtain⟨q2,q4,q5,q3⟩:=hP.room hi NT DRow.o
  have hst:=hP.set hi DRow.o (mkRow k1 xs[i])
  have hset:=set_self (R:=(dn++xs.drop i).map DRow.o) (i:=i) q3
  rw[TA] at q4
  have hle:=rH k1 xs[i]
  have hfx:=hx.2 _ (aj hi)
  rw[DRow.o_eq] at q2
  try simp only[aK,aI] at q2
  simp only[go_sem,q2,q3,hset,cu,bu,IB,Ad,Int.reduceAdd,wz (n:=k1+1),wz (n:=(i:Int)+1)]
  refine MutX.mk (l:=1) (MJ _ (k1+1) (by omega) hfx (by show S_ k1 xs[i]≤_; omega)) rfl ⟨rfl,rfl,rfl,rfl,CV _,by simp,trivial⟩ ?_
  simp only[go_sem,q2,q3,hset,cu,bu,IB,Ad,Int.reduceAdd,wz (n:=(i:Int)+1),AAU]
  refine⟨(i+1,dn ++ [mkRow k1 xs[i]],H6 k1 xs[i]),.inr ⟨i,(dn++xs.drop i).map DRow.o, ?rowr,DRow.o (mkRow k1 xs[i]), ?ob,⟨aaU, ?e1, ?e2,q3, ?e3⟩, ?own,⟨rfl, ?tr⟩, ?eq⟩,hP.step hi NT, ?mu⟩
  case e1=>exact rfl
  case e2=>exact rfl
  case e3=>exact rfl
  case own=>rw[ACH]; exact⟨rfl,rfl,rfl,rfl,rfl,rfl,CV _,by simp,fun l hl=>by omega⟩
  case eq=>unfold A8; rw[hst,TA]; rfl
  case tr=>unfold A8; rw[hst]; exact Cf (BA Xd)
  case mu=>simp only; omega
 ·obtain⟨y1,y2⟩:=hP.finL h
  simp only[go_sem]
  rw[y1,y2]
  exact⟨[.ref 0],[.ow 204 2 _],[.c (.v (.int .i64 _))],rfl,.inr rfl,⟨rfl,rfl,rfl,rfl,A7 _,by simp,trivial⟩,by simp only[En,JI,gp,aS],rfl,rfl,rfl,rfl⟩
theorem Q4 (xs:List DRow) (k:Int) (hk:0≤k) (hx:fitS IR xs) (hb:Dz H6 k xs≤4000000000000000000):vM prog 138 DRow.c mkRow H6 xs (k):=by
 have hxl:=hx.1
 refine CM call138 func138 ntmps138 results138 fun hw=>?_
 simp only[go_sem]
 refine LoopK.mk 0 [0,1,5] (A:=Nat×Int) (ZY 31 DRow.c mkRow H6 xs k) (HdX mkRow H6 xs k) (fun x=>xs.length-x.1) (0,k) ⟨⟨rfl,rfl⟩,rfl,HdX.start⟩ ?_
 rintro⟨i,k1⟩ hP
 simp only[go_sem,ZY,ae,IM]
 refine cndC.mk (fun h=>?_) (fun h=>?_)
 ·have hi:i<xs.length:=by simpa using h
  obtain⟨q2,q4,q5⟩:=hP.room hi NT DRow.c
  rw[TA] at q4
  have hle:=rH k1 xs[i]
  have hfx:=hx.2 _ (aj hi)
  rw[ACG] at q2
  simp only[go_sem,q2,IB,ay,au,Ad,Int.reduceAdd,wz (n:=k1+1),wz (n:=(i:Int)+1)]
  refine CallK.mk _ (Jg _ (k1+1) (by omega) hfx (by show S_ k1 xs[i]≤_; omega)) fun _=>?_
  have hg1:=KP (x:=S_ k1 xs[i]) (by omega)
  simp only[go_sem,q2,IB,ay,au,Ad,Int.reduceAdd,wz (n:=(i:Int)+1),AAU,hg1]
  refine⟨(i+1,S_ k1 xs[i]),⟨rfl,rfl⟩,rfl,hP.step hi NT, ?mu⟩
  case mu=>simp only; omega
 ·have:=hP.finL h
  subst this
  simp only[go_sem]
mutual
def BL:Int→DPred→Int
 | k,.mk _ _ _ _ l=>TB (k+6) l
def TB:Int→List DPred→Int
 | k,[]=>k
 | k,x::xs=>TB (BL k x) xs
end
mutual
def Dj:Int→DPred→DPred
 | k,.mk _ _ _ _ l=>DPred.mk (k) (k+1) (k+2) (⟨k+3,k+4,Gp (k+5)⟩) (TC (k+6) l)
def TC:Int→List DPred→List DPred
 | k,[]=>[]
 | k,x::xs=>Dj k x::TC (BL k x) xs
end
theorem Xi:∀ (xs:List DPred) (k:Int),TB k xs=Dz BL k xs
 | [],k=>by simp only[TB,Dz]
 | x::xs,k=>by simp only[TB,Dz,Xi xs]
theorem Xj:∀ (xs:List DPred) (k:Int),TC k xs=Gj Dj BL k xs
 | [],k=>by simp only[TC,Gj]
 | x::xs,k=>by simp only[TC,Gj,Xj xs]
def OC (k:Int) (x:DPred):Int:=Dz BL (k+6) x.l
theorem vW (k:Int) (x:DPred):Dz BL (k+6) x.l=OC k x:=rfl
theorem LH (k:Int) (x:DPred):BL k x=OC k x:=by cases x; simp only[BL,Xi]; rfl
theorem dH (k:Int) (x:DPred):Dj k x=DPred.mk (k) (k+1) (k+2) (⟨k+3,k+4,Gp (k+5)⟩) (Gj Dj BL (k+6) x.l):=by cases x; simp only[Dj,Xj]; rfl
theorem AAV (k:Int) (x:DPred):(Dj k x).c = [.v (.int .i64 (k)),.v (.int .i64 (k+1)),.v (.int .i64 (k+2)),.v (.int .i64 (k+3)),.v (.int .i64 (k+4)),.v (.string (Gp (k+5))),.sl ((Gj Dj BL (k+6) x.l).map DPred.c)]:=by rw[dH,DPred.c_eq]; rfl
theorem AAW (k:Int) (x:DPred):(Dj k x).o = [.v (.int .i64 (k)),.v (.int .i64 (k+1)),.v (.int .i64 (k+2)),.v (.int .i64 (k+3)),.v (.int .i64 (k+4)),.v (.string (Gp (k+5))),.ow 71 7 ((Gj Dj BL (k+6) x.l).map DPred.o)]:=by rw[dH,DPred.o_eq]; rfl
theorem Xk:∀ (n:Nat) (x:DPred),SizeOf.sizeOf x≤n→∀ k,k≤BL k x
 | 0,x,h,k=>by cases x; simp at h
 | n+1,x,h,k=>by
  have h1:=vK (c:=BL) x.l (fun y hy=>Xk n y (by
   have h1:SizeOf.sizeOf y<SizeOf.sizeOf x.l:=v_ hy
   have h2:SizeOf.sizeOf x.l<SizeOf.sizeOf x:=by cases x; simp[DPred.l]; omega
   omega)) (k+6)
  rw[LH,OC]; omega
theorem JR (k:Int) (x:DPred):k≤BL k x:=Xk _ x (aN _) k
theorem vX (k:Int) (x:DPred):k+6≤OC k x:=EJ JR _ _
theorem lX (x:DPred) (hx:∀ y∈x.l,∀ k l,0≤BK y l→l≤1048576→BL k y+64*BK y l≤k+64*l+64) (k l:Int) (h0:0≤BK x l) (hl:l≤1048576):BL k x+64*BK x l≤k+64*l+64:=by
 have d1:=h0
 rw[Ia] at d1
 obtain⟨a1_0,b1_0,e1_0⟩:=AX d1
 have w1_0:=(C_ x.v _ a1_0 (by omega)).2
 have d2:=a1_0
 rw[Gf] at d2
 obtain⟨a2_0,b2_0,e2_0⟩:=AX d2
 have w2_0:=(CJ a2_0 (by omega)).2
 have eq2:Ai x.v l=(Ew x.v.s.size l):=(Gf x.v l).trans (e2_0)
 obtain⟨a1_1,b1_1,e1_1⟩:=AX b1_0
 have w1_1:=(DI x.l (fun x _=>F9 x) a1_1 (by omega)).2
 have Gs:BK x l=(Ce BK x.l (Ai x.v l)):=(Ia x l).trans ((e1_0).trans (e1_1))
 have:OC k x+64*(Ce BK x.l (Ai x.v l))≤k+6+64*(Ai x.v l):=JK _ (fun y hy k l a b=>⟨hx y hy k l a b,(F9 y l a b).2⟩) _ a1_1 (by omega)
 rw[LH,Gs]; omega
theorem Xl:∀ (n:Nat) (x:DPred),SizeOf.sizeOf x≤n→∀ k l,0≤BK x l→l≤1048576→BL k x+64*BK x l≤k+64*l+64
 | 0,x,h=>by cases x; simp at h
 | n+1,x,h=>lX x fun y hy=>Xl n y (by
  have h1:SizeOf.sizeOf y<SizeOf.sizeOf x.l:=v_ hy
  have h2:SizeOf.sizeOf x.l<SizeOf.sizeOf x:=by cases x; simp[DPred.l]; omega
  omega)
theorem dI (x:DPred) (k l:Int) (h0:0≤BK x l) (hl:l≤1048576):BL k x+64*BK x l≤k+64*l+64:=Xl _ x (aN _) k l h0 hl
theorem TD (xs:List DPred) (hr:∀ x∈xs,∀ k,0≤k→fitS Aq x.l→Dz BL k x.l≤4000000000000000000→rD prog 131 71 7 DPred.o Dj BL x.l (k)) (k:Int) (hk:0≤k) (hx:fitS Aq xs) (hb:Dz BL k xs≤4000000000000000000):rD prog 131 71 7 DPred.o Dj BL xs (k):=by
 have hxl:=hx.1
 refine MCtr.mk (fn:=f131) call131 func131 rfl mixed ntmps131 results131 (by kernel_rfl) rfl (.inr rfl) fun us hw0 hw=>?_
 simp only[go_sem]
 refine LoopA.mk 1 0 [0,1,5] (A:=Nat×List DPred×Int) (mkS us 66 71 7 DPred.o xs) (MkX Dj BL xs k) (fun x=>xs.length-x.1) (0,[],k) ⟨⟨rfl,Cf (BA Us)⟩,rfl,MkX.start⟩ ?_
 rintro⟨i,dn,k1⟩ hP
 have hn:=hP.len
 simp only[go_sem,mkS,ae,hn]
 refine cndC.mk (fun h=>?_) (fun h=>?_)
 ·have hi:i<xs.length:=by simpa using h
  obtain⟨q2,q4,q5,q3⟩:=hP.room hi JR DPred.o
  have hst:=hP.set hi DPred.o (Dj k1 xs[i])
  have hset:=set_self (R:=(dn++xs.drop i).map DPred.o) (i:=i) q3
  rw[LH] at q4
  have hle:=vX k1 xs[i]
  have hfx:=hx.2 _ (aj hi)
  rw[DPred.o_eq] at q2
  simp only[DVal.c_eq,aK,aI] at q2
  simp only[go_sem,q2,q3,hset,cu,bu,IB,Ad,Int.reduceAdd,wz (n:=k1+1),wz (n:=k1+2),wz (n:=k1+3),wz (n:=k1+4),wz (n:=k1+5),wz (n:=(i:Int)+1)]
  refine CallK.mk _ (Dh (k1+5) (by omega) (by omega)) fun _=>?_
  simp only[go_sem,q2,q3,hset,cu,bu,IB,Ad,Int.reduceAdd,wz (n:=k1+6),wz (n:=(i:Int)+1)]
  refine MutX.mk (l:=1) (hr xs[i] (aj hi) (k1+6) (by omega) (Eq.mp (BP _) hfx).2 (by show OC k1 xs[i]≤_; omega)) rfl ⟨rfl,rfl,rfl,rfl,BG _,by simp,trivial⟩ ?_
  simp only[go_sem,q2,q3,hset,cu,bu,IB,Ad,Int.reduceAdd,wz (n:=(i:Int)+1),vW]
  refine⟨(i+1,dn ++ [Dj k1 xs[i]],BL k1 xs[i]),.inr ⟨i,(dn++xs.drop i).map DPred.o, ?rowr,DPred.o (Dj k1 xs[i]), ?ob,⟨aaU, ?e1, ?e2,q3, ?e3⟩, ?own,⟨rfl, ?tr⟩, ?eq⟩,hP.step hi JR, ?mu⟩
  case e1=>exact rfl
  case e2=>exact rfl
  case e3=>exact rfl
  case own=>rw[AAW]; exact⟨rfl,rfl,rfl,rfl,rfl,rfl,rfl,rfl,rfl,rfl,rfl,rfl,rfl,rfl,rfl,rfl,BG _,by simp,fun l hl=>by omega⟩
  case eq=>unfold A8; rw[hst,LH]; rfl
  case tr=>unfold A8; rw[hst]; exact Cf (BA Us)
  case mu=>simp only; omega
 ·obtain⟨y1,y2⟩:=hP.finL h
  simp only[go_sem]
  rw[y1,y2]
  exact⟨[.ref 0],[.ow 71 7 _],[.c (.v (.int .i64 _))],rfl,.inr rfl,⟨rfl,rfl,rfl,rfl,BG _,by simp,trivial⟩,by simp only[En,JI,Xe,aS],rfl,rfl,rfl,rfl⟩
theorem Vd:∀ (n:Nat) (xs:List DPred),(∀ x∈xs,SizeOf.sizeOf x≤n)→∀ (k:Int),0≤k→fitS Aq xs→Dz BL k xs≤4000000000000000000→rD prog 131 71 7 DPred.o Dj BL xs (k)
 | 0,xs,h,k,h1,h2,h3=>TD xs (fun x hx=>by have:=h x hx; cases x; simp at this) k h1 h2 h3
 | n+1,xs,h,k,h1,h2,h3=>TD xs (fun x hx k g1 g2 g3=>Vd n x.l (fun y hy=>by
   have h1:SizeOf.sizeOf y<SizeOf.sizeOf x.l:=v_ hy
   have h2:SizeOf.sizeOf x.l<SizeOf.sizeOf x:=by cases x; simp[DPred.l]; omega
   have:=h x hx
   omega) k g1 g2 g3) k h1 h2 h3
theorem TE (xs:List DPred) (k:Int) (hk:0≤k) (hx:fitS Aq xs) (hb:Dz BL k xs≤4000000000000000000):rD prog 131 71 7 DPred.o Dj BL xs (k):=Vd (SizeOf.sizeOf xs) xs (fun x hx=>Nat.le_of_lt (v_ hx)) k hk hx hb
theorem TF (xs:List DPred) (hr:∀ x∈xs,∀ k,0≤k→fitS Aq x.l→Dz BL k x.l≤4000000000000000000→vM prog 137 DPred.c Dj BL x.l (k)) (k:Int) (hk:0≤k) (hx:fitS Aq xs) (hb:Dz BL k xs≤4000000000000000000):vM prog 137 DPred.c Dj BL xs (k):=by
 have hxl:=hx.1
 refine CM call137 func137 ntmps137 results137 fun hw=>?_
 simp only[go_sem]
 refine LoopK.mk 0 [0,1,5] (A:=Nat×Int) (ZY 80 DPred.c Dj BL xs k) (HdX Dj BL xs k) (fun x=>xs.length-x.1) (0,k) ⟨⟨rfl,rfl⟩,rfl,HdX.start⟩ ?_
 rintro⟨i,k1⟩ hP
 simp only[go_sem,ZY,ae,IM]
 refine cndC.mk (fun h=>?_) (fun h=>?_)
 ·have hi:i<xs.length:=by simpa using h
  obtain⟨q2,q4,q5⟩:=hP.room hi JR DPred.c
  rw[LH] at q4
  have hle:=vX k1 xs[i]
  have hfx:=hx.2 _ (aj hi)
  rw[AAV] at q2
  simp only[go_sem,q2,IB,ay,au,Ad,Int.reduceAdd,wz (n:=k1+1),wz (n:=k1+2),wz (n:=k1+3),wz (n:=k1+4),wz (n:=k1+5),wz (n:=(i:Int)+1)]
  refine DrawK.mk ?_
  simp only[go_sem,q2,IB,ay,au,Ad,Int.reduceAdd,wz (n:=k1+1),wz (n:=k1+2),wz (n:=k1+3),wz (n:=k1+4),wz (n:=k1+5),wz (n:=(i:Int)+1)]
  refine CallF.mk _ (Dh (k1+5) (by omega) (by omega)) ?_
  simp only[go_sem,q2,IB,ay,au,Ad,Int.reduceAdd,wz (n:=k1+6),wz (n:=(i:Int)+1)]
  refine CallK.mk _ (hr xs[i] (aj hi) (k1+6) (by omega) (Eq.mp (BP _) hfx).2 (by show OC k1 xs[i]≤_; omega)) fun _=>?_
  have hg1:=KP (x:=OC k1 xs[i]) (by omega)
  simp only[go_sem,q2,IB,ay,au,Ad,Int.reduceAdd,wz (n:=(i:Int)+1),vW,hg1]
  refine⟨(i+1,OC k1 xs[i]),⟨rfl,rfl⟩,rfl,LH k1 xs[i]▸hP.step hi JR, ?mu⟩
  case mu=>simp only; omega
 ·have:=hP.finL h
  subst this
  simp only[go_sem]
theorem Ve:∀ (n:Nat) (xs:List DPred),(∀ x∈xs,SizeOf.sizeOf x≤n)→∀ (k:Int),0≤k→fitS Aq xs→Dz BL k xs≤4000000000000000000→vM prog 137 DPred.c Dj BL xs (k)
 | 0,xs,h,k,h1,h2,h3=>TF xs (fun x hx=>by have:=h x hx; cases x; simp at this) k h1 h2 h3
 | n+1,xs,h,k,h1,h2,h3=>TF xs (fun x hx k g1 g2 g3=>Ve n x.l (fun y hy=>by
   have h1:SizeOf.sizeOf y<SizeOf.sizeOf x.l:=v_ hy
   have h2:SizeOf.sizeOf x.l<SizeOf.sizeOf x:=by cases x; simp[DPred.l]; omega
   have:=h x hx
   omega) k g1 g2 g3) k h1 h2 h3
theorem PO (xs:List DPred) (k:Int) (hk:0≤k) (hx:fitS Aq xs) (hb:Dz BL k xs≤4000000000000000000):vM prog 137 DPred.c Dj BL xs (k):=Ve (SizeOf.sizeOf xs) xs (fun x hx=>Nat.le_of_lt (v_ hx)) k hk hx hb
def OD (k:Int) (x:DSlot):Int:=Dz Ea (k+1) x.l
theorem vY (k:Int) (x:DSlot):Dz Ea (k+1) x.l=OD k x:=rfl
def G9 (k:Int) (x:DSlot):Int:=OD k x
def JS (k:Int) (x:DSlot):DSlot:=⟨k,Gj Ib Ea (k+1) x.l⟩
theorem QY (k:Int) (x:DSlot):G9 k x=OD k x:=rfl
theorem AAX (k:Int) (x:DSlot):(JS k x).c = [.v (.int .i64 (k)),.sl ((Gj Ib Ea (k+1) x.l).map DVal.c)]:=by rw[DSlot.c_eq]; rfl
theorem AAY (k:Int) (x:DSlot):(JS k x).o = [.v (.int .i64 (k)),.ow 68 3 ((Gj Ib Ea (k+1) x.l).map DVal.c)]:=by rw[DSlot.o_eq]; rfl
theorem gu (k:Int) (x:DSlot):k+1≤OD k x:=EJ Js _ _
theorem NU (k:Int) (x:DSlot):k≤G9 k x:=by have:=gu k x; unfold G9; omega
theorem xq (x:DSlot) (k l:Int) (h0:0≤G5 x l) (hl:l≤1048576):G9 k x+64*G5 x l≤k+64*l+64:=by
 have d1:=h0
 rw[QU] at d1
 obtain⟨a1_0,b1_0,e1_0⟩:=AX d1
 have w1_0:=(DI x.l (fun x _=>C_ x) a1_0 (by omega)).2
 have Gs:G5 x l=(Ce Ai x.l l):=(QU x l).trans (e1_0)
 have:OD k x+64*(Ce Ai x.l l)≤k+1+64*l:=JK _ (fun y _ k l a b=>⟨S9 y k l a b,(C_ y l a b).2⟩) _ a1_0 (by omega)
 rw[QY,Gs]; omega
theorem gy (xs:List DSlot) (k:Int) (hk:0≤k) (hx:fitS MF xs) (hb:Dz G9 k xs≤4000000000000000000):rD prog 129 199 2 DSlot.o JS G9 xs (k):=by
 have hxl:=hx.1
 refine MCtr.mk (fn:=f129) call129 func129 rfl mixed ntmps129 results129 (by kernel_rfl) rfl (.inr rfl) fun us hw0 hw=>?_
 simp only[go_sem]
 refine LoopA.mk 1 0 [0,1,5] (A:=Nat×List DSlot×Int) (mkS us 27 199 2 DSlot.o xs) (MkX JS G9 xs k) (fun x=>xs.length-x.1) (0,[],k) ⟨⟨rfl,Cf (BA Ut)⟩,rfl,MkX.start⟩ ?_
 rintro⟨i,dn,k1⟩ hP
 have hn:=hP.len
 simp only[go_sem,mkS,ae,hn]
 refine cndC.mk (fun h=>?_) (fun h=>?_)
 ·have hi:i<xs.length:=by simpa using h
  obtain⟨q2,q4,q5,q3⟩:=hP.room hi NU DSlot.o
  have hst:=hP.set hi DSlot.o (JS k1 xs[i])
  have hset:=set_self (R:=(dn++xs.drop i).map DSlot.o) (i:=i) q3
  rw[QY] at q4
  have hle:=gu k1 xs[i]
  have hfx:=hx.2 _ (aj hi)
  rw[DSlot.o_eq] at q2
  try simp only[aK,aI] at q2
  simp only[go_sem,q2,q3,hset,cu,bu,IB,Ad,Int.reduceAdd,wz (n:=k1+1),wz (n:=(i:Int)+1)]
  refine MutX.mk (l:=1) (MJ _ (k1+1) (by omega) hfx (by show OD k1 xs[i]≤_; omega)) rfl ⟨rfl,rfl,rfl,rfl,CV _,by simp,trivial⟩ ?_
  simp only[go_sem,q2,q3,hset,cu,bu,IB,Ad,Int.reduceAdd,wz (n:=(i:Int)+1),vY]
  refine⟨(i+1,dn ++ [JS k1 xs[i]],G9 k1 xs[i]),.inr ⟨i,(dn++xs.drop i).map DSlot.o, ?rowr,DSlot.o (JS k1 xs[i]), ?ob,⟨aaU, ?e1, ?e2,q3, ?e3⟩, ?own,⟨rfl, ?tr⟩, ?eq⟩,hP.step hi NU, ?mu⟩
  case e1=>exact rfl
  case e2=>exact rfl
  case e3=>exact rfl
  case own=>rw[AAY]; exact⟨rfl,rfl,rfl,rfl,rfl,rfl,CV _,by simp,fun l hl=>by omega⟩
  case eq=>unfold A8; rw[hst,QY]; rfl
  case tr=>unfold A8; rw[hst]; exact Cf (BA Ut)
  case mu=>simp only; omega
 ·obtain⟨y1,y2⟩:=hP.finL h
  simp only[go_sem]
  rw[y1,y2]
  exact⟨[.ref 0],[.ow 199 2 _],[.c (.v (.int .i64 _))],rfl,.inr rfl,⟨rfl,rfl,rfl,rfl,FY _,by simp,trivial⟩,by simp only[En,JI,lS,aS],rfl,rfl,rfl,rfl⟩
theorem Xm (xs:List DSlot) (k:Int) (hk:0≤k) (hx:fitS MF xs) (hb:Dz G9 k xs≤4000000000000000000):vM prog 134 DSlot.c JS G9 xs (k):=by
 have hxl:=hx.1
 refine CM call134 func134 ntmps134 results134 fun hw=>?_
 simp only[go_sem]
 refine LoopK.mk 0 [0,1,5] (A:=Nat×Int) (ZY 31 DSlot.c JS G9 xs k) (HdX JS G9 xs k) (fun x=>xs.length-x.1) (0,k) ⟨⟨rfl,rfl⟩,rfl,HdX.start⟩ ?_
 rintro⟨i,k1⟩ hP
 simp only[go_sem,ZY,ae,IM]
 refine cndC.mk (fun h=>?_) (fun h=>?_)
 ·have hi:i<xs.length:=by simpa using h
  obtain⟨q2,q4,q5⟩:=hP.room hi NU DSlot.c
  rw[QY] at q4
  have hle:=gu k1 xs[i]
  have hfx:=hx.2 _ (aj hi)
  rw[AAX] at q2
  simp only[go_sem,q2,IB,ay,au,Ad,Int.reduceAdd,wz (n:=k1+1),wz (n:=(i:Int)+1)]
  refine CallK.mk _ (Jg _ (k1+1) (by omega) hfx (by show OD k1 xs[i]≤_; omega)) fun _=>?_
  have hg1:=KP (x:=OD k1 xs[i]) (by omega)
  simp only[go_sem,q2,IB,ay,au,Ad,Int.reduceAdd,wz (n:=(i:Int)+1),vY,hg1]
  refine⟨(i+1,OD k1 xs[i]),⟨rfl,rfl⟩,rfl,hP.step hi NU, ?mu⟩
  case mu=>simp only; omega
 ·have:=hP.finL h
  subst this
  simp only[go_sem]
def LW (k:Int) (x:DBuf):Int:=Dz G9 (k+3) x.c0.l
theorem gz (k:Int) (x:DBuf):Dz G9 (k+3) x.c0.l=LW k x:=rfl
def TG (k:Int) (x:DBuf):Int:=Dz KO (LW k x) x.g
theorem AAZ (k:Int) (x:DBuf):Dz KO (LW k x) x.g=TG k x:=rfl
def Ip (k:Int) (x:DBuf):Int:=TG k x
def PP (k:Int) (x:DBuf):DBuf:=⟨k,k+1,⟨k+2,Gj JS G9 (k+3) x.c0.l⟩,Gj zq KO (LW k x) x.g⟩
theorem TI (k:Int) (x:DBuf):Ip k x=TG k x:=rfl
theorem ACI (k:Int) (x:DBuf):(PP k x).c = [.v (.int .i64 (k)),.v (.int .i64 (k+1)),.v (.int .i64 (k+2)),.sl ((Gj JS G9 (k+3) x.c0.l).map DSlot.c),.sl ((Gj zq KO (LW k x) x.g).map byteC)]:=by rw[DBuf.c_eq]; rfl
theorem ACJ (k:Int) (x:DBuf):(PP k x).o = [.v (.int .i64 (k)),.v (.int .i64 (k+1)),.v (.int .i64 (k+2)),.ow 199 2 ((Gj JS G9 (k+3) x.c0.l).map DSlot.o),.ow 5 1 ((Gj zq KO (LW k x) x.g).map byteC)]:=by rw[DBuf.o_eq]; rfl
theorem rJ (k:Int) (x:DBuf):k+3≤LW k x∧LW k x≤TG k x:=⟨EJ NU _ _,EJ Ik _ _⟩
theorem PQ (k:Int) (x:DBuf):k≤Ip k x:=by have:=rJ k x; unfold Ip; omega
theorem lY (x:DBuf) (k l:Int) (h0:0≤FU x l) (hl:l≤1048576):Ip k x+64*FU x l≤k+64*l+64:=by
 have d1:=h0
 rw[Si] at d1
 obtain⟨a1_0,b1_0,e1_0⟩:=AX d1
 have w1_0:=(Va x.c0 _ a1_0 (by omega)).2
 have d2:=a1_0
 rw[N9] at d2
 obtain⟨a2_0,b2_0,e2_0⟩:=AX d2
 have w2_0:=(DI x.c0.l (fun x _=>RX x) a2_0 (by omega)).2
 have eq2:Jf x.c0 l=(Ce G5 x.c0.l l):=(N9 x.c0 l).trans (e2_0)
 obtain⟨a1_1,b1_1,e1_1⟩:=AX b1_0
 have w1_1:=(CJ a1_1 (by omega)).2
 have Gs:FU x l=(Ew x.g.length (Jf x.c0 l)):=(Si x l).trans ((e1_0).trans (e1_1))
 have:LW k x+64*(Ce G5 x.c0.l l)≤k+3+64*l:=JK _ (fun y _ k l a b=>⟨xq y k l a b,(RX y l a b).2⟩) _ a2_0 (by omega)
 have:TG k x+64*(Ew x.g.length (Jf x.c0 l))≤LW k x+64*(Jf x.c0 l):=N7 N8 _ _ _ a1_1
 rw[TI,Gs]; omega
theorem lZ (xs:List DBuf) (k:Int) (hk:0≤k) (hx:fitS Io xs) (hb:Dz Ip k xs≤4000000000000000000):rD prog 56 160 5 DBuf.o PP Ip xs (k):=by
 have hxl:=hx.1
 refine MCtr.mk (fn:=f56) call56 func56 rfl mixed ntmps56 results56 (by kernel_rfl) rfl (.inr rfl) fun us hw0 hw=>?_
 simp only[go_sem]
 refine LoopA.mk 1 0 [0,1,5] (A:=Nat×List DBuf×Int) (mkS us 50 160 5 DBuf.o xs) (MkX PP Ip xs k) (fun x=>xs.length-x.1) (0,[],k) ⟨⟨rfl,Cf (BA Xf)⟩,rfl,MkX.start⟩ ?_
 rintro⟨i,dn,k1⟩ hP
 have hn:=hP.len
 simp only[go_sem,mkS,ae,hn]
 refine cndC.mk (fun h=>?_) (fun h=>?_)
 ·have hi:i<xs.length:=by simpa using h
  obtain⟨q2,q4,q5,q3⟩:=hP.room hi PQ DBuf.o
  have hst:=hP.set hi DBuf.o (PP k1 xs[i])
  have hset:=set_self (R:=(dn++xs.drop i).map DBuf.o) (i:=i) q3
  rw[TI] at q4
  have hle:=rJ k1 xs[i]
  have hfx:=hx.2 _ (aj hi)
  rw[DBuf.o_eq] at q2
  simp only[DChunk.o_eq,aK,aI] at q2
  simp only[go_sem,q2,q3,hset,cu,bu,IB,Ad,Int.reduceAdd,wz (n:=k1+1),wz (n:=k1+2),wz (n:=k1+3),wz (n:=(i:Int)+1)]
  refine MutX.mk (l:=1) (gy _ (k1+3) (by omega) hfx.1 (by show LW k1 xs[i]≤_; omega)) rfl ⟨rfl,rfl,rfl,rfl,FY _,by simp,trivial⟩ ?_
  simp only[go_sem,q2,q3,hset,cu,bu,IB,Ad,Int.reduceAdd,wz (n:=(i:Int)+1),gz]
  refine MutX.mk (l:=2) (gq _ (LW k1 xs[i]) (by omega) hfx.2 (by show TG k1 xs[i]≤_; omega)) rfl ⟨rfl,rfl,rfl,rfl,Bg _,by simp,trivial⟩ ?_
  simp only[go_sem,q2,q3,hset,cu,bu,IB,Ad,Int.reduceAdd,wz (n:=(i:Int)+1),gz,AAZ]
  refine⟨(i+1,dn ++ [PP k1 xs[i]],Ip k1 xs[i]),.inr ⟨i,(dn++xs.drop i).map DBuf.o, ?rowr,DBuf.o (PP k1 xs[i]), ?ob,⟨aaU, ?e1, ?e2,q3, ?e3⟩, ?own,⟨rfl, ?tr⟩, ?eq⟩,hP.step hi PQ, ?mu⟩
  case e1=>exact rfl
  case e2=>exact rfl
  case e3=>exact rfl
  case own=>rw[ACJ]; exact⟨rfl,rfl,rfl,rfl,rfl,rfl,rfl,rfl,rfl,rfl,FY _,by simp,rfl,rfl,rfl,rfl,Bg _,by simp,fun l hl=>by omega⟩
  case eq=>unfold A8; rw[hst,TI]; rfl
  case tr=>unfold A8; rw[hst]; exact Cf (BA Xf)
  case mu=>simp only; omega
 ·obtain⟨y1,y2⟩:=hP.finL h
  simp only[go_sem]
  rw[y1,y2]
  exact⟨[.ref 0],[.ow 160 5 _],[.c (.v (.int .i64 _))],rfl,.inr rfl,⟨rfl,rfl,rfl,rfl,DY _,by simp,trivial⟩,by simp only[En,JI,vU,aS],rfl,rfl,rfl,rfl⟩
theorem Zc (xs:List DBuf) (k:Int) (hk:0≤k) (hx:fitS Io xs) (hb:Dz Ip k xs≤4000000000000000000):vM prog 63 DBuf.c PP Ip xs (k):=by
 have hxl:=hx.1
 refine CM call63 func63 ntmps63 results63 fun hw=>?_
 simp only[go_sem]
 refine LoopK.mk 0 [0,1,5] (A:=Nat×Int) (ZY 60 DBuf.c PP Ip xs k) (HdX PP Ip xs k) (fun x=>xs.length-x.1) (0,k) ⟨⟨rfl,rfl⟩,rfl,HdX.start⟩ ?_
 rintro⟨i,k1⟩ hP
 simp only[go_sem,ZY,ae,IM]
 refine cndC.mk (fun h=>?_) (fun h=>?_)
 ·have hi:i<xs.length:=by simpa using h
  obtain⟨q2,q4,q5⟩:=hP.room hi PQ DBuf.c
  rw[TI] at q4
  have hle:=rJ k1 xs[i]
  have hfx:=hx.2 _ (aj hi)
  rw[ACI] at q2
  simp only[go_sem,q2,IB,ay,au,Ad,Int.reduceAdd,wz (n:=k1+1),wz (n:=k1+2),wz (n:=k1+3),wz (n:=(i:Int)+1)]
  refine CallK.mk _ (Xm _ (k1+3) (by omega) hfx.1 (by show LW k1 xs[i]≤_; omega)) fun _=>?_
  have hg1:=KP (x:=LW k1 xs[i]) (by omega)
  simp only[go_sem,q2,IB,ay,au,Ad,Int.reduceAdd,wz (n:=(i:Int)+1),gz,hg1]
  refine CallK.mk _ (Xg _ (LW k1 xs[i]) (by omega) hfx.2 (by show TG k1 xs[i]≤_; omega)) fun _=>?_
  have hg2:=KP (x:=TG k1 xs[i]) (by omega)
  simp only[go_sem,q2,IB,ay,au,Ad,Int.reduceAdd,wz (n:=(i:Int)+1),gz,AAZ,hg1,hg2]
  refine⟨(i+1,TG k1 xs[i]),⟨rfl,rfl⟩,rfl,hP.step hi PQ, ?mu⟩
  case mu=>simp only; omega
 ·have:=hP.finL h
  subst this
  simp only[go_sem]
def H7 (k:Int) (x:DDead):Int:=k+3
def OE (k:Int) (x:DDead):DDead:=⟨k,k+1,k+2⟩
theorem dJ (k:Int) (x:DDead):H7 k x=k+3:=rfl
theorem lg (k:Int) (x:DDead):(OE k x).c = [.v (.int .i64 (k)),.v (.int .i64 (k+1)),.v (.int .i64 (k+2))]:=by rw[DDead.c_eq]; rfl
theorem NV (k:Int) (x:DDead):k≤H7 k x:=by unfold H7; omega
theorem dK (k:Int) (x:DDead):H7 k x≤k+64:=by unfold H7; omega
theorem g_ (xs:List DDead) (k:Int) (hk:0≤k) (hx:xs.length≤1048576) (hb:Dz H7 k xs≤4000000000000000000):rD prog 58 163 3 DDead.c OE H7 xs (k):=by
 have hxl:=hx
 refine MCtr.mk (fn:=f58) call58 func58 rfl mixed ntmps58 results58 (by kernel_rfl) rfl (.inr rfl) fun us hw0 hw=>?_
 simp only[go_sem]
 refine LoopK.mk 1 [0,1,5] (A:=Nat×List DDead×Int) (mkS us 34 163 3 DDead.c xs) (MkX OE H7 xs k) (fun x=>xs.length-x.1) (0,[],k) ⟨⟨rfl,Cf (BA fun d=>rfl)⟩,rfl,MkX.start⟩ ?_
 rintro⟨i,dn,k1⟩ hP
 have hn:=hP.len
 simp only[go_sem,mkS,ae,hn]
 refine cndC.mk (fun h=>?_) (fun h=>?_)
 ·have hi:i<xs.length:=by simpa using h
  obtain⟨q2,q4,q5,q3⟩:=hP.room hi NV DDead.c
  have hst:=hP.set hi DDead.c (OE k1 xs[i])
  rw[lg] at hst
  have hset:=set_self (R:=(dn++xs.drop i).map DDead.c) (i:=i) q3
  rw[dJ] at q4
  rw[DDead.c_eq] at q2
  try simp only[aK,aI] at q2
  simp only[go_sem,q2,q3,hset,cu,bu,IB,Ad,Int.reduceAdd,wz (n:=k1+1),wz (n:=k1+2),wz (n:=k1+3),wz (n:=(i:Int)+1)]
  rw[hst]
  refine⟨(i+1,dn ++ [OE k1 xs[i]],k1+3),⟨rfl,Cf (BA fun d=>rfl)⟩,rfl,hP.step hi NV, ?mu⟩
  case mu=>simp only; omega
 ·obtain⟨y1,y2⟩:=hP.finL h
  simp only[go_sem]
  rw[y1,y2]
  exact⟨[.ref 0],[.ow 163 3 _],[.c (.v (.int .i64 _))],rfl,.inr rfl,⟨rfl,rfl,rfl,rfl,Jh _,by simp,trivial⟩,by simp only[En,JI,lT,aS],rfl,rfl,rfl,rfl⟩
theorem Xn (xs:List DDead) (k:Int) (hk:0≤k) (hx:xs.length≤1048576) (hb:Dz H7 k xs≤4000000000000000000):vM prog 65 DDead.c OE H7 xs (k):=by
 have hxl:=hx
 refine CM call65 func65 ntmps65 results65 fun hw=>?_
 simp only[go_sem]
 refine LoopK.mk 0 [0,1,5] (A:=Nat×Int) (ZY 40 DDead.c OE H7 xs k) (HdX OE H7 xs k) (fun x=>xs.length-x.1) (0,k) ⟨⟨rfl,rfl⟩,rfl,HdX.start⟩ ?_
 rintro⟨i,k1⟩ hP
 simp only[go_sem,ZY,ae,IM]
 refine cndC.mk (fun h=>?_) (fun h=>?_)
 ·have hi:i<xs.length:=by simpa using h
  obtain⟨q2,q4,q5⟩:=hP.room hi NV DDead.c
  rw[dJ] at q4
  rw[lg] at q2
  simp only[go_sem,q2,IB,ay,au,Ad,Int.reduceAdd,wz (n:=k1+1),wz (n:=k1+2),wz (n:=k1+3),wz (n:=(i:Int)+1)]
  refine⟨(i+1,k1+3),⟨rfl,rfl⟩,rfl,hP.step hi NV, ?mu⟩
  case mu=>simp only; omega
 ·have:=hP.finL h
  subst this
  simp only[go_sem]
def IE (k:Int) (x:DRef):Int:=k+5
def mkRef (k:Int) (x:DRef):DRef:=⟨k,k+1,k+2,k+3,k+4⟩
theorem lh (k:Int) (x:DRef):IE k x=k+5:=rfl
theorem vZ (k:Int) (x:DRef):(mkRef k x).c = [.v (.int .i64 (k)),.v (.int .i64 (k+1)),.v (.int .i64 (k+2)),.v (.int .i64 (k+3)),.v (.int .i64 (k+4))]:=by rw[DRef.c_eq]; rfl
theorem NW (k:Int) (x:DRef):k≤IE k x:=by unfold IE; omega
theorem Xo (k:Int) (x:DRef):IE k x≤k+64:=by unfold IE; omega
theorem Vf (xs:List DRef) (k:Int) (hk:0≤k) (hx:xs.length≤1048576) (hb:Dz IE k xs≤4000000000000000000):rD prog 128 196 5 DRef.c mkRef IE xs (k):=by
 have hxl:=hx
 refine MCtr.mk (fn:=f128) call128 func128 rfl mixed ntmps128 results128 (by kernel_rfl) rfl (.inr rfl) fun us hw0 hw=>?_
 simp only[go_sem]
 refine LoopK.mk 1 [0,1,5] (A:=Nat×List DRef×Int) (mkS us 48 196 5 DRef.c xs) (MkX mkRef IE xs k) (fun x=>xs.length-x.1) (0,[],k) ⟨⟨rfl,Cf (BA fun d=>rfl)⟩,rfl,MkX.start⟩ ?_
 rintro⟨i,dn,k1⟩ hP
 have hn:=hP.len
 simp only[go_sem,mkS,ae,hn]
 refine cndC.mk (fun h=>?_) (fun h=>?_)
 ·have hi:i<xs.length:=by simpa using h
  obtain⟨q2,q4,q5,q3⟩:=hP.room hi NW DRef.c
  have hst:=hP.set hi DRef.c (mkRef k1 xs[i])
  rw[vZ] at hst
  have hset:=set_self (R:=(dn++xs.drop i).map DRef.c) (i:=i) q3
  rw[lh] at q4
  rw[DRef.c_eq] at q2
  try simp only[aK,aI] at q2
  simp only[go_sem,q2,q3,hset,cu,bu,IB,Ad,Int.reduceAdd,wz (n:=k1+1),wz (n:=k1+2),wz (n:=k1+3),wz (n:=k1+4),wz (n:=k1+5),wz (n:=(i:Int)+1)]
  rw[hst]
  refine⟨(i+1,dn ++ [mkRef k1 xs[i]],k1+5),⟨rfl,Cf (BA fun d=>rfl)⟩,rfl,hP.step hi NW, ?mu⟩
  case mu=>simp only; omega
 ·obtain⟨y1,y2⟩:=hP.finL h
  simp only[go_sem]
  rw[y1,y2]
  exact⟨[.ref 0],[.ow 196 5 _],[.c (.v (.int .i64 _))],rfl,.inr rfl,⟨rfl,rfl,rfl,rfl,ER _,by simp,trivial⟩,by simp only[En,JI,Wx,aS],rfl,rfl,rfl,rfl⟩
theorem Q5 (xs:List DRef) (k:Int) (hk:0≤k) (hx:xs.length≤1048576) (hb:Dz IE k xs≤4000000000000000000):vM prog 133 DRef.c mkRef IE xs (k):=by
 have hxl:=hx
 refine CM call133 func133 ntmps133 results133 fun hw=>?_
 simp only[go_sem]
 refine LoopK.mk 0 [0,1,5] (A:=Nat×Int) (ZY 58 DRef.c mkRef IE xs k) (HdX mkRef IE xs k) (fun x=>xs.length-x.1) (0,k) ⟨⟨rfl,rfl⟩,rfl,HdX.start⟩ ?_
 rintro⟨i,k1⟩ hP
 simp only[go_sem,ZY,ae,IM]
 refine cndC.mk (fun h=>?_) (fun h=>?_)
 ·have hi:i<xs.length:=by simpa using h
  obtain⟨q2,q4,q5⟩:=hP.room hi NW DRef.c
  rw[lh] at q4
  rw[vZ] at q2
  simp only[go_sem,q2,IB,ay,au,Ad,Int.reduceAdd,wz (n:=k1+1),wz (n:=k1+2),wz (n:=k1+3),wz (n:=k1+4),wz (n:=k1+5),wz (n:=(i:Int)+1)]
  refine⟨(i+1,k1+5),⟨rfl,rfl⟩,rfl,hP.step hi NW, ?mu⟩
  case mu=>simp only; omega
 ·have:=hP.finL h
  subst this
  simp only[go_sem]
end Go.Proofs.YtnfbaclikokapaaGreat
