/- A part. -/
import Derived.Test.YtnoldekcdlaahaaGreatBg
set_option linter.unusedSimpArgs false
set_option linter.unusedVariables false
set_option maxHeartbeats 8000000
set_option maxRecDepth 10000
open Go.Proofs.Tryz
namespace Go.Proofs.YtnoldekcdlaahaaGreat
open Go.Vm
section
variable {p q r:Prop}
theorem AQJ(h:p:=by kernel_rfl):p:=h
end
theorem VC (l:List Int):JV (l.map intC)=true:=BI fun _=>rfl
theorem uB (l:List Int):JV (l.map byteC)=true:=BI fun _=>rfl
theorem VD (l:List DVal):JV (l.map DVal.c)=true:=BI fun _=>rfl
theorem Z_ (d:DRow):Fa d.o=true:=by
 rw[DRow.o_eq]
 simp[Fa,Ju,VD]
theorem ni (l:List DRow):JV (l.map DRow.o)=true:=BI Z_
theorem Qw:∀ (n:Nat) (d:DPred),SizeOf.sizeOf d≤n→Fa d.o=true
 | 0,d,h=>APp
 | n+1,d,h=>by
  have hm:JV (d.l.map DPred.o)=true:=ZI fun y hy=>by
   obtain⟨x,hx,rfl⟩:=kN.1 hy
   refine Qw n x ?_
   exact AMp
  rw[DPred.o_eq]
  simp[Fa,Ju,hm,DVal.c_eq]
theorem Wx (d:DPred):Fa d.o=true:=Qw _ d (aT _)
theorem a_ (l:List DPred):JV (l.map DPred.o)=true:=BI Wx
theorem Wy (d:DSlot):Fa d.o=true:=by
 rw[DSlot.o_eq]
 simp[Fa,Ju,VD]
theorem b_ (l:List DSlot):JV (l.map DSlot.o)=true:=BI Wy
theorem Ho (d:DChunk):Fa d.o=true:=by
 rw[DChunk.o_eq]
 simp[Fa,Ju,b_]
theorem dA (d:DBuf):Fa d.o=true:=by
 rw[DBuf.o_eq]
 simp[Fa,Ju,DChunk.o_eq,b_,uB]
theorem ny (l:List DBuf):JV (l.map DBuf.o)=true:=BI dA
theorem dB (l:List DDead):JV (l.map DDead.c)=true:=BI fun _=>rfl
theorem ZC (l:List DRef):JV (l.map DRef.c)=true:=BI fun _=>rfl
theorem ADc (d:DDir):Fa d.o=true:=by
 rw[DDir.o_eq]
 simp[Fa,Ju,ZC]
theorem W9 (d:DTask):Fa d.o=true:=by
 rw[DTask.o_eq]
 simp[Fa,Ju,DPred.o_eq,DQuery.o_eq,DVal.c_eq,a_,ZC,ni,VD,VC]
theorem uC (l:List DTask):JV (l.map DTask.o)=true:=BI W9
theorem W_ (d:DDeed):Fa d.o=true:=by
 rw[DDeed.o_eq]
 simp[Fa,Ju,DPred.o_eq,DQuery.o_eq,DResult.o_eq,DVal.c_eq,a_,ni,VD,VC]
theorem uD (l:List DDeed):JV (l.map DDeed.o)=true:=BI W_
theorem ABz (d:DConf):Fa d.o=true:=by
 rw[DConf.o_eq]
 simp[Fa,Ju,VC]
theorem UM (d:DWorld):Fa d.o=true:=by
 rw[DWorld.o_eq]
 simp[Fa,Ju,DConf.o_eq,DDir.o_eq,ny,dB,uD,ZC,uC,VC]
theorem LY (xs:List Int) (k:Int) (hk:0≤k) (hx:xs.length≤1048576) (hb:ER Lu k xs≤4000000000000000000):xh prog 53 3 1 intC qo Lu xs (k):=by
 have hxl:=hx
 refine AC0 (fn:=f53) call53 func53 rfl mixed ntmps53 results53 AQJ rfl (.inr rfl) fun us hw0 hw=>?_
 simp only[go_sem]
 refine AB7 1 [0,1,5] (A:=Nat×List Int×Int) (mkS us 19 3 1 intC xs) (MkX qo Lu xs k) (fun x=>xs.length-x.1) (0,[],k) ⟨⟨rfl,Dk (BI fun d=>rfl)⟩,rfl,MkX.start⟩ ?_
 rintro⟨i,dn,k1⟩ hP
 have hn:=hP.len
 refine AOd (fun h=>?_) fun h=>?_
 ·have hi:i<xs.length:=by simpa using h
  obtain⟨q2,q4,q5,q3⟩:=hP.room hi Jk intC
  have hst:=hP.set hi intC (qo k1 xs[i])
  rw[show intC (qo k1 xs[i]) = [.v (.int .i64 (k1))] from rfl] at hst
  have hset:=set_self (R:=(dn++xs.drop i).map intC) (i:=i) q3
  have q3b:i<dn.length+(xs.drop i).length:=by simpa using q3
  have q4:k1+1≤ER Lu k xs:=q4
  rw[AAX] at q2
  simp only[go_sem,q2,q3,q3b,hset,ah,ag,JC,Af,Int.reduceAdd,wz (n:=k1+1),wz (n:=(i:Int)+1)]
  rw[hst]
  refine⟨(i+1,dn ++ [qo k1 xs[i]],k1+1),⟨rfl,Dk (BI fun d=>rfl)⟩,rfl,hP.step hi Jk, ?mu⟩
  case mu=>simp only; omega
 ·obtain⟨y1,y2⟩:=hP.finL h
  simp only[go_sem]
  rw[y1,y2]
  exact⟨[.ref 0],[.ow 3 1 _],[.c (.v (.int .i64 _))],rfl,.inr rfl,⟨rfl,rfl,rfl,rfl,AQ _,AOi,trivial⟩,by simp only[Fa,Ju,VC,aS],rfl,rfl,rfl,rfl⟩
theorem JF (xs:List Int) (k:Int) (hk:0≤k) (hx:xs.length≤1048576) (hb:ER Lu k xs≤4000000000000000000):HdE prog 60 intC qo Lu xs (k):=by
 have hxl:=hx
 refine CM call60 func60 ntmps60 results60 fun hw=>?_
 simp only[go_sem]
 refine AB7 0 [0,1,5] (A:=Nat×Int) (jG 21 intC qo Lu xs k) (HdX qo Lu xs k) (fun x=>xs.length-x.1) (0,k) ⟨⟨rfl,rfl⟩,rfl,HdX.start⟩ ?_
 rintro⟨i,k1⟩ hP
 refine AOe (fun h=>?_) fun h=>?_
 ·have hi:i<xs.length:=by simpa using h
  obtain⟨q2,q4,q5⟩:=hP.room hi Jk intC
  have q4:k1+1≤ER Lu k xs:=q4
  rw[show intC (qo k1 xs[i]) = [.v (.int .i64 (k1))] from rfl] at q2
  exact AMQ
 ·have:=hP.finL h
  subst this
  exact AIk
theorem nz (xs:List Int) (k:Int) (hk:0≤k) (hx:xs.length≤1048576) (hb:ER Lu k xs≤4000000000000000000):xh prog 135 5 1 byteC mkY Lu xs (k):=by
 have hxl:=hx
 refine AC0 (fn:=f135) call135 func135 rfl mixed ntmps135 results135 AQJ rfl (.inr rfl) fun us hw0 hw=>?_
 simp only[go_sem]
 refine AB7 1 [0,1,5] (A:=Nat×List Int×Int) (mkS us 20 5 1 byteC xs) (MkX mkY Lu xs k) (fun x=>xs.length-x.1) (0,[],k) ⟨⟨rfl,Dk (BI fun d=>rfl)⟩,rfl,MkX.start⟩ ?_
 rintro⟨i,dn,k1⟩ hP
 have hn:=hP.len
 refine AOd (fun h=>?_) fun h=>?_
 ·have hi:i<xs.length:=by simpa using h
  obtain⟨q2,q4,q5,q3⟩:=hP.room hi Jk byteC
  have hst:=hP.set hi byteC (mkY k1 xs[i])
  rw[show byteC (mkY k1 xs[i]) = [.v (.int .u8 (IntKind.u8.wrap (k1)))] from rfl] at hst
  have hset:=set_self (R:=(dn++xs.drop i).map byteC) (i:=i) q3
  have q3b:i<dn.length+(xs.drop i).length:=by simpa using q3
  have q4:k1+1≤ER Lu k xs:=q4
  rw[O8] at q2
  simp only[go_sem,q2,q3,q3b,hset,ah,ag,JC,Af,Int.reduceAdd,wz (n:=k1+1),wz (n:=(i:Int)+1)]
  rw[hst]
  refine⟨(i+1,dn ++ [mkY k1 xs[i]],k1+1),⟨rfl,Dk (BI fun d=>rfl)⟩,rfl,hP.step hi Jk, ?mu⟩
  case mu=>simp only; omega
 ·obtain⟨y1,y2⟩:=hP.finL h
  simp only[go_sem]
  rw[y1,y2]
  exact⟨[.ref 0],[.ow 5 1 _],[.c (.v (.int .i64 _))],rfl,.inr rfl,⟨rfl,rfl,rfl,rfl,Bv _,AOi,trivial⟩,by simp only[Fa,Ju,uB,aS],rfl,rfl,rfl,rfl⟩
theorem dC (xs:List Int) (k:Int) (hk:0≤k) (hx:xs.length≤1048576) (hb:ER Lu k xs≤4000000000000000000):HdE prog 142 byteC mkY Lu xs (k):=by
 have hxl:=hx
 refine CM call142 func142 ntmps142 results142 fun hw=>?_
 simp only[go_sem]
 refine AB7 0 [0,1,5] (A:=Nat×Int) (jG 22 byteC mkY Lu xs k) (HdX mkY Lu xs k) (fun x=>xs.length-x.1) (0,k) ⟨⟨rfl,rfl⟩,rfl,HdX.start⟩ ?_
 rintro⟨i,k1⟩ hP
 refine AOe (fun h=>?_) fun h=>?_
 ·have hi:i<xs.length:=by simpa using h
  obtain⟨q2,q4,q5⟩:=hP.room hi Jk byteC
  have q4:k1+1≤ER Lu k xs:=q4
  rw[show byteC (mkY k1 xs[i]) = [.v (.int .u8 (IntKind.u8.wrap (k1)))] from rfl] at q2
  exact AMQ
 ·have:=hP.finL h
  subst this
  exact AIk
def Et (k:Int) (x:DVal):Int:=k+3
def Je (k:Int) (x:DVal):DVal:=⟨k,k+1,IC (k+2)⟩
theorem dD (k:Int) (x:DVal):Et k x=k+3:=rfl
theorem AAg (k:Int) (x:DVal):(Je k x).c = [.v (.int .i64 (k)),.v (.int .i64 (k+1)),.v (.string (IC (k+2)))]:=by rw[DVal.c_eq]; rfl
theorem LZ (k:Int) (x:DVal):k≤Et k x:=by unfold Et; omega
theorem VE (x:DVal) (k l:Int) (h0:0≤A7 x l) (hl:l≤1048576):Et k x+64*A7 x l≤k+64*l+64:=by
 have d1:=h0
 rw[H5] at d1
 obtain⟨a1_0,b1_0,e1_0⟩:=AZ d1
 have w1_0:=(CG a1_0 AOh).2
 have IG:A7 x l=(Fv x.s.size l):=(H5 x l).trans (e1_0)
 rw[dD,IG]; omega
theorem OI (xs:List DVal) (k:Int) (hk:0≤k) (hx:fitS Gh xs) (hb:ER Et k xs≤4000000000000000000):xh prog 136 64 3 DVal.c Je Et xs (k):=by
 have hxl:=hx.1
 refine AC0 (fn:=f136) call136 func136 rfl mixed ntmps136 results136 AQJ rfl (.inr rfl) fun us hw0 hw=>?_
 simp only[go_sem]
 refine AB7 1 [0,1,5] (A:=Nat×List DVal×Int) (mkS us 35 64 3 DVal.c xs) (MkX Je Et xs k) (fun x=>xs.length-x.1) (0,[],k) ⟨⟨rfl,Dk (BI fun d=>rfl)⟩,rfl,MkX.start⟩ ?_
 rintro⟨i,dn,k1⟩ hP
 have hn:=hP.len
 refine AOd (fun h=>?_) fun h=>?_
 ·have hi:i<xs.length:=by simpa using h
  obtain⟨q2,q4,q5,q3⟩:=hP.room hi LZ DVal.c
  have hst:=hP.set hi DVal.c (Je k1 xs[i])
  rw[AAg] at hst
  have hset:=set_self (R:=(dn++xs.drop i).map DVal.c) (i:=i) q3
  have q3b:i<dn.length+(xs.drop i).length:=by simpa using q3
  rw[dD] at q4
  have hfx:=hx.2 _ (ax hi)
  rw[DVal.c_eq] at q2
  try simp only[aU,aN] at q2
  simp only[go_sem,q2,q3,q3b,hset,ah,ag,JC,Af,Int.reduceAdd,wz (n:=k1+1),wz (n:=k1+2),wz (n:=(i:Int)+1)]
  refine AAT _ (EQ (k1+2) AOh AOh) fun _=>?_
  simp only[go_sem,q2,q3,q3b,hset,ah,ag,JC,Af,Int.reduceAdd,wz (n:=k1+3),wz (n:=(i:Int)+1)]
  rw[hst]
  refine⟨(i+1,dn ++ [Je k1 xs[i]],k1+3),⟨rfl,Dk (BI fun d=>rfl)⟩,rfl,hP.step hi LZ, ?mu⟩
  case mu=>simp only; omega
 ·obtain⟨y1,y2⟩:=hP.finL h
  simp only[go_sem]
  rw[y1,y2]
  exact⟨[.ref 0],[.ow 64 3 _],[.c (.v (.int .i64 _))],rfl,.inr rfl,⟨rfl,rfl,rfl,rfl,DD _,AOi,trivial⟩,by simp only[Fa,Ju,VD,aS],rfl,rfl,rfl,rfl⟩
theorem LC (xs:List DVal) (k:Int) (hk:0≤k) (hx:fitS Gh xs) (hb:ER Et k xs≤4000000000000000000):HdE prog 143 DVal.c Je Et xs (k):=by
 have hxl:=hx.1
 refine CM call143 func143 ntmps143 results143 fun hw=>?_
 simp only[go_sem]
 refine AB7 0 [0,1,5] (A:=Nat×Int) (jG 41 DVal.c Je Et xs k) (HdX Je Et xs k) (fun x=>xs.length-x.1) (0,k) ⟨⟨rfl,rfl⟩,rfl,HdX.start⟩ ?_
 rintro⟨i,k1⟩ hP
 refine AOe (fun h=>?_) fun h=>?_
 ·have hi:i<xs.length:=by simpa using h
  obtain⟨q2,q4,q5⟩:=hP.room hi LZ DVal.c
  rw[dD] at q4
  have hfx:=hx.2 _ (ax hi)
  rw[AAg] at q2
  simp only[go_sem,q2,JC,aB,aA,Af,Int.reduceAdd,wz (n:=k1+1),wz (n:=k1+2),wz (n:=(i:Int)+1)]
  refine AAm ?_
  simp only[go_sem,q2,JC,aB,aA,Af,Int.reduceAdd,wz (n:=k1+1),wz (n:=k1+2),wz (n:=(i:Int)+1)]
  refine AB5 _ (EQ (k1+2) AOh AOh) ?_
  simp only[go_sem,q2,JC,aB,aA,Af,Int.reduceAdd,wz (n:=k1+3),wz (n:=(i:Int)+1)]
  refine⟨(i+1,k1+3),⟨rfl,rfl⟩,rfl,hP.step hi LZ, ?mu⟩
  case mu=>simp only; omega
 ·have:=hP.finL h
  subst this
  exact AIk
def VF (k:Int) (x:DRow):Int:=ER Et (k+1) x.l
theorem ADd (k:Int) (x:DRow):ER Et (k+1) x.l=VF k x:=rfl
def Gy (k:Int) (x:DRow):Int:=VF k x
def mkRow (k:Int) (x:DRow):DRow:=⟨k,H7 Je Et (k+1) x.l⟩
theorem VG (k:Int) (x:DRow):Gy k x=VF k x:=rfl
theorem AFL (k:Int) (x:DRow):(mkRow k x).c = [.v (.int .i64 (k)),.sl ((H7 Je Et (k+1) x.l).map DVal.c)]:=by rw[DRow.c_eq]; rfl
theorem AFM (k:Int) (x:DRow):(mkRow k x).o = [.v (.int .i64 (k)),.ow 64 3 ((H7 Je Et (k+1) x.l).map DVal.c)]:=by rw[DRow.o_eq]; rfl
theorem yg (k:Int) (x:DRow):k+1≤VF k x:=Es LZ _ _
theorem O_ (k:Int) (x:DRow):k≤Gy k x:=by have:=yg k x; unfold Gy; omega
theorem uF (x:DRow) (k l:Int) (h0:0≤Jl x l) (hl:l≤1048576):Gy k x+64*Jl x l≤k+64*l+64:=by
 have d1:=h0
 rw[Uw] at d1
 obtain⟨a1_0,b1_0,e1_0⟩:=AZ d1
 have w1_0:=(Du x.l (fun x _=>Dx x) a1_0 AOh).2
 have IG:Jl x l=(DW A7 x.l l):=(Uw x l).trans (e1_0)
 have:VF k x+64*(DW A7 x.l l)≤k+1+64*l:=KL _ (fun y _ k l a b=>⟨VE y k l a b,(Dx y l a b).2⟩) _ a1_0 AOh
 rw[VG,IG]; omega
theorem YB (xs:List DRow) (k:Int) (hk:0≤k) (hx:fitS Gu xs) (hb:ER Gy k xs≤4000000000000000000):xh prog 139 204 2 DRow.o mkRow Gy xs (k):=by
 have hxl:=hx.1
 refine AC0 (fn:=f139) call139 func139 rfl mixed ntmps139 results139 AQJ rfl (.inr rfl) fun us hw0 hw=>?_
 simp only[go_sem]
 refine ACz 1 0 [0,1,5] (A:=Nat×List DRow×Int) (mkS us 27 204 2 DRow.o xs) (MkX mkRow Gy xs k) (fun x=>xs.length-x.1) (0,[],k) ⟨⟨rfl,Dk (BI Z_)⟩,rfl,MkX.start⟩ ?_
 rintro⟨i,dn,k1⟩ hP
 have hn:=hP.len
 refine AOd (fun h=>?_) fun h=>?_
 ·have hi:i<xs.length:=by simpa using h
  obtain⟨q2,q4,q5,q3⟩:=hP.room hi O_ DRow.o
  have hst:=hP.set hi DRow.o (mkRow k1 xs[i])
  have hset:=set_self (R:=(dn++xs.drop i).map DRow.o) (i:=i) q3
  have q3b:i<dn.length+(xs.drop i).length:=by simpa using q3
  rw[VG] at q4
  have hle:=yg k1 xs[i]
  have hfx:=hx.2 _ (ax hi)
  rw[DRow.o_eq] at q2
  try simp only[aU,aN] at q2
  simp only[go_sem,q2,q3,q3b,hset,ah,ag,JC,Af,Int.reduceAdd,wz (n:=k1+1),wz (n:=(i:Int)+1)]
  refine ACx (l:=1) (OI _ (k1+1) AOh hfx (by show VF k1 xs[i]≤_; omega)) rfl ⟨rfl,rfl,rfl,rfl,DD _,AOi,trivial⟩ ?_
  simp only[go_sem,q2,q3,q3b,hset,ah,ag,JC,Af,Int.reduceAdd,wz (n:=(i:Int)+1),ADd]
  refine⟨(i+1,dn ++ [mkRow k1 xs[i]],Gy k1 xs[i]),.inr ⟨i,(dn++xs.drop i).map DRow.o, ?rowr,DRow.o (mkRow k1 xs[i]), ?ob,⟨aaR, ?e1, ?e2,q3, ?e3⟩, ?own,⟨rfl, ?tr⟩, ?eq⟩,hP.step hi O_, ?mu⟩
  case e1=>exact rfl
  case e2=>exact rfl
  case e3=>exact rfl
  case own=>rw[AFM]; exact⟨rfl,rfl,rfl,rfl,rfl,rfl,DD _,AOi,fun l hl=>AOh⟩
  case eq=>unfold BO; rw[hst,VG]; rfl
  case tr=>unfold BO; rw[hst]; exact Dk (BI Z_)
  case mu=>simp only; omega
 ·obtain⟨y1,y2⟩:=hP.finL h
  simp only[go_sem]
  rw[y1,y2]
  exact⟨[.ref 0],[.ow 204 2 _],[.c (.v (.int .i64 _))],rfl,.inr rfl,⟨rfl,rfl,rfl,rfl,BF _,AOi,trivial⟩,by simp only[Fa,Ju,ni,aS],rfl,rfl,rfl,rfl⟩
theorem TW (xs:List DRow) (k:Int) (hk:0≤k) (hx:fitS Gu xs) (hb:ER Gy k xs≤4000000000000000000):HdE prog 145 DRow.c mkRow Gy xs (k):=by
 have hxl:=hx.1
 refine CM call145 func145 ntmps145 results145 fun hw=>?_
 simp only[go_sem]
 refine AB7 0 [0,1,5] (A:=Nat×Int) (jG 31 DRow.c mkRow Gy xs k) (HdX mkRow Gy xs k) (fun x=>xs.length-x.1) (0,k) ⟨⟨rfl,rfl⟩,rfl,HdX.start⟩ ?_
 rintro⟨i,k1⟩ hP
 refine AOe (fun h=>?_) fun h=>?_
 ·have hi:i<xs.length:=by simpa using h
  obtain⟨q2,q4,q5⟩:=hP.room hi O_ DRow.c
  rw[VG] at q4
  have hle:=yg k1 xs[i]
  have hfx:=hx.2 _ (ax hi)
  rw[AFL] at q2
  simp only[go_sem,q2,JC,aB,aA,Af,Int.reduceAdd,wz (n:=k1+1),wz (n:=(i:Int)+1)]
  refine AAT _ (LC _ (k1+1) AOh hfx (by show VF k1 xs[i]≤_; omega)) fun _=>?_
  have hg1:=MP (x:=VF k1 xs[i]) AOh
  simp only[go_sem,q2,JC,aB,aA,Af,Int.reduceAdd,wz (n:=(i:Int)+1),ADd,hg1]
  refine⟨(i+1,VF k1 xs[i]),⟨rfl,rfl⟩,rfl,hP.step hi O_, ?mu⟩
  case mu=>simp only; omega
 ·have:=hP.finL h
  subst this
  exact AIk
mutual
def BU:Int→DPred→Int
 | k,.mk _ _ _ _ l=>VH (k+6) l
def VH:Int→List DPred→Int
 | k,[]=>k
 | k,x::xs=>VH (BU k x) xs
end
mutual
def EW:Int→DPred→DPred
 | k,.mk _ _ _ _ l=>DPred.mk (k) (k+1) (k+2) (⟨k+3,k+4,IC (k+5)⟩) (VI (k+6) l)
def VI:Int→List DPred→List DPred
 | k,[]=>[]
 | k,x::xs=>EW k x::VI (BU k x) xs
end
theorem dE:∀ (xs:List DPred) (k:Int),VH k xs=ER BU k xs
 | [],k=>by simp only[VH,ER]
 | x::xs,k=>by simp only[VH,ER,dE xs]
theorem dF:∀ (xs:List DPred) (k:Int),VI k xs=H7 EW BU k xs
 | [],k=>by simp only[VI,H7]
 | x::xs,k=>by simp only[VI,H7,dF xs]
def P6 (k:Int) (x:DPred):Int:=ER BU (k+6) x.l
theorem AAh (k:Int) (x:DPred):ER BU (k+6) x.l=P6 k x:=rfl
theorem NI (k:Int) (x:DPred):BU k x=P6 k x:=by cases x; simp only[BU,dE]; rfl
theorem kG (k:Int) (x:DPred):EW k x=DPred.mk (k) (k+1) (k+2) (⟨k+3,k+4,IC (k+5)⟩) (H7 EW BU (k+6) x.l):=by cases x; simp only[EW,dF]; rfl
theorem ADe (k:Int) (x:DPred):(EW k x).c = [.v (.int .i64 (k)),.v (.int .i64 (k+1)),.v (.int .i64 (k+2)),.v (.int .i64 (k+3)),.v (.int .i64 (k+4)),.v (.string (IC (k+5))),.sl ((H7 EW BU (k+6) x.l).map DPred.c)]:=by rw[kG,DPred.c_eq]; rfl
theorem ADf (k:Int) (x:DPred):(EW k x).o = [.v (.int .i64 (k)),.v (.int .i64 (k+1)),.v (.int .i64 (k+2)),.v (.int .i64 (k+3)),.v (.int .i64 (k+4)),.v (.string (IC (k+5))),.ow 67 7 ((H7 EW BU (k+6) x.l).map DPred.o)]:=by rw[kG,DPred.o_eq]; rfl
theorem dG:∀ (n:Nat) (x:DPred),SizeOf.sizeOf x≤n→∀ k,k≤BU k x
 | 0,x,h,k=>by cases x; simp at h
 | n+1,x,h,k=>by
  have h1:=AAS (c:=BU) x.l (fun y hy=>dG n y (by
   have h1:SizeOf.sizeOf y<SizeOf.sizeOf x.l:=aao hy
   have h2:SizeOf.sizeOf x.l<SizeOf.sizeOf x:=APm
   omega)) (k+6)
  rw[NI,P6]; omega
theorem KY (k:Int) (x:DPred):k≤BU k x:=dG _ x (aT _) k
theorem AAi (k:Int) (x:DPred):k+6≤P6 k x:=Es KY _ _
theorem uG (x:DPred) (hx:∀ y∈x.l,∀ k l,0≤Bq y l→l≤1048576→BU k y+64*Bq y l≤k+64*l+64) (k l:Int) (h0:0≤Bq x l) (hl:l≤1048576):BU k x+64*Bq x l≤k+64*l+64:=by
 have d1:=h0
 rw[JZ] at d1
 obtain⟨a1_0,b1_0,e1_0⟩:=AZ d1
 have w1_0:=(Dx x.v _ a1_0 AOh).2
 have d2:=a1_0
 rw[H5] at d2
 obtain⟨a2_0,b2_0,e2_0⟩:=AZ d2
 have w2_0:=(CG a2_0 AOh).2
 have eq2:A7 x.v l=(Fv x.v.s.size l):=(H5 x.v l).trans (e2_0)
 obtain⟨a1_1,b1_1,e1_1⟩:=AZ b1_0
 have w1_1:=(Du x.l (fun x _=>Hf x) a1_1 AOh).2
 have IG:Bq x l=(DW Bq x.l (A7 x.v l)):=(JZ x l).trans ((e1_0).trans (e1_1))
 have:P6 k x+64*(DW Bq x.l (A7 x.v l))≤k+6+64*(A7 x.v l):=KL _ (fun y hy k l a b=>⟨hx y hy k l a b,(Hf y l a b).2⟩) _ a1_1 AOh
 rw[NI,IG]; omega
theorem dH:∀ (n:Nat) (x:DPred),SizeOf.sizeOf x≤n→∀ k l,0≤Bq x l→l≤1048576→BU k x+64*Bq x l≤k+64*l+64
 | 0,x,h=>by cases x; simp at h
 | n+1,x,h=>uG x fun y hy=>dH n y (by
  have h1:SizeOf.sizeOf y<SizeOf.sizeOf x.l:=aao hy
  have h2:SizeOf.sizeOf x.l<SizeOf.sizeOf x:=APm
  omega)
theorem kH (x:DPred) (k l:Int) (h0:0≤Bq x l) (hl:l≤1048576):BU k x+64*Bq x l≤k+64*l+64:=dH _ x (aT _) k l h0 hl
theorem VJ (xs:List DPred) (hr:∀ x∈xs,∀ k,0≤k→fitS A_ x.l→ER BU k x.l≤4000000000000000000→xh prog 138 67 7 DPred.o EW BU x.l (k)) (k:Int) (hk:0≤k) (hx:fitS A_ xs) (hb:ER BU k xs≤4000000000000000000):xh prog 138 67 7 DPred.o EW BU xs (k):=by
 have hxl:=hx.1
 refine AC0 (fn:=f138) call138 func138 rfl mixed ntmps138 results138 AQJ rfl (.inr rfl) fun us hw0 hw=>?_
 simp only[go_sem]
 refine ACz 1 0 [0,1,5] (A:=Nat×List DPred×Int) (mkS us 66 67 7 DPred.o xs) (MkX EW BU xs k) (fun x=>xs.length-x.1) (0,[],k) ⟨⟨rfl,Dk (BI Wx)⟩,rfl,MkX.start⟩ ?_
 rintro⟨i,dn,k1⟩ hP
 have hn:=hP.len
 refine AOd (fun h=>?_) fun h=>?_
 ·have hi:i<xs.length:=by simpa using h
  obtain⟨q2,q4,q5,q3⟩:=hP.room hi KY DPred.o
  have hst:=hP.set hi DPred.o (EW k1 xs[i])
  have hset:=set_self (R:=(dn++xs.drop i).map DPred.o) (i:=i) q3
  have q3b:i<dn.length+(xs.drop i).length:=by simpa using q3
  rw[NI] at q4
  have hle:=AAi k1 xs[i]
  have hfx:=hx.2 _ (ax hi)
  rw[DPred.o_eq] at q2
  simp only[DVal.c_eq,aU,aN] at q2
  simp only[go_sem,q2,q3,q3b,hset,ah,ag,JC,Af,Int.reduceAdd,wz (n:=k1+1),wz (n:=k1+2),wz (n:=k1+3),wz (n:=k1+4),wz (n:=k1+5),wz (n:=(i:Int)+1)]
  refine AAT _ (EQ (k1+5) AOh AOh) fun _=>?_
  simp only[go_sem,q2,q3,q3b,hset,ah,ag,JC,Af,Int.reduceAdd,wz (n:=k1+6),wz (n:=(i:Int)+1)]
  refine ACx (l:=1) (hr xs[i] (ax hi) (k1+6) AOh (Eq.mp (BP _) hfx).2 (by show P6 k1 xs[i]≤_; omega)) rfl ⟨rfl,rfl,rfl,rfl,BL _,AOi,trivial⟩ ?_
  simp only[go_sem,q2,q3,q3b,hset,ah,ag,JC,Af,Int.reduceAdd,wz (n:=(i:Int)+1),AAh]
  refine⟨(i+1,dn ++ [EW k1 xs[i]],BU k1 xs[i]),.inr ⟨i,(dn++xs.drop i).map DPred.o, ?rowr,DPred.o (EW k1 xs[i]), ?ob,⟨aaR, ?e1, ?e2,q3, ?e3⟩, ?own,⟨rfl, ?tr⟩, ?eq⟩,hP.step hi KY, ?mu⟩
  case e1=>exact rfl
  case e2=>exact rfl
  case e3=>exact rfl
  case own=>rw[ADf]; exact⟨rfl,rfl,rfl,rfl,rfl,rfl,rfl,rfl,rfl,rfl,rfl,rfl,rfl,rfl,rfl,rfl,BL _,AOi,fun l hl=>AOh⟩
  case eq=>unfold BO; rw[hst,NI]; rfl
  case tr=>unfold BO; rw[hst]; exact Dk (BI Wx)
  case mu=>simp only; omega
 ·obtain⟨y1,y2⟩:=hP.finL h
  simp only[go_sem]
  rw[y1,y2]
  exact⟨[.ref 0],[.ow 67 7 _],[.c (.v (.int .i64 _))],rfl,.inr rfl,⟨rfl,rfl,rfl,rfl,BL _,AOi,trivial⟩,by simp only[Fa,Ju,a_,aS],rfl,rfl,rfl,rfl⟩
theorem YC:∀ (n:Nat) (xs:List DPred),(∀ x∈xs,SizeOf.sizeOf x≤n)→∀ (k:Int),0≤k→fitS A_ xs→ER BU k xs≤4000000000000000000→xh prog 138 67 7 DPred.o EW BU xs (k)
 | 0,xs,h,k,h1,h2,h3=>VJ xs (fun x hx=>by have:=h x hx; cases x; simp at this) k h1 h2 h3
 | n+1,xs,h,k,h1,h2,h3=>VJ xs (fun x hx k g1 g2 g3=>YC n x.l (fun y hy=>by
   have h1:SizeOf.sizeOf y<SizeOf.sizeOf x.l:=aao hy
   have h2:SizeOf.sizeOf x.l<SizeOf.sizeOf x:=APm
   have:=h x hx
   omega) k g1 g2 g3) k h1 h2 h3
theorem VK (xs:List DPred) (k:Int) (hk:0≤k) (hx:fitS A_ xs) (hb:ER BU k xs≤4000000000000000000):xh prog 138 67 7 DPred.o EW BU xs (k):=YC (SizeOf.sizeOf xs) xs (fun x hx=>Nat.le_of_lt (aao hx)) k hk hx hb
theorem VL (xs:List DPred) (hr:∀ x∈xs,∀ k,0≤k→fitS A_ x.l→ER BU k x.l≤4000000000000000000→HdE prog 144 DPred.c EW BU x.l (k)) (k:Int) (hk:0≤k) (hx:fitS A_ xs) (hb:ER BU k xs≤4000000000000000000):HdE prog 144 DPred.c EW BU xs (k):=by
 have hxl:=hx.1
 refine CM call144 func144 ntmps144 results144 fun hw=>?_
 simp only[go_sem]
 refine AB7 0 [0,1,5] (A:=Nat×Int) (jG 80 DPred.c EW BU xs k) (HdX EW BU xs k) (fun x=>xs.length-x.1) (0,k) ⟨⟨rfl,rfl⟩,rfl,HdX.start⟩ ?_
 rintro⟨i,k1⟩ hP
 refine AOe (fun h=>?_) fun h=>?_
 ·have hi:i<xs.length:=by simpa using h
  obtain⟨q2,q4,q5⟩:=hP.room hi KY DPred.c
  rw[NI] at q4
  have hle:=AAi k1 xs[i]
  have hfx:=hx.2 _ (ax hi)
  rw[ADe] at q2
  simp only[go_sem,q2,JC,aB,aA,Af,Int.reduceAdd,wz (n:=k1+1),wz (n:=k1+2),wz (n:=k1+3),wz (n:=k1+4),wz (n:=k1+5),wz (n:=(i:Int)+1)]
  refine AAm ?_
  simp only[go_sem,q2,JC,aB,aA,Af,Int.reduceAdd,wz (n:=k1+1),wz (n:=k1+2),wz (n:=k1+3),wz (n:=k1+4),wz (n:=k1+5),wz (n:=(i:Int)+1)]
  refine AB5 _ (EQ (k1+5) AOh AOh) ?_
  simp only[go_sem,q2,JC,aB,aA,Af,Int.reduceAdd,wz (n:=k1+6),wz (n:=(i:Int)+1)]
  refine AAT _ (hr xs[i] (ax hi) (k1+6) AOh (Eq.mp (BP _) hfx).2 (by show P6 k1 xs[i]≤_; omega)) fun _=>?_
  have hg1:=MP (x:=P6 k1 xs[i]) AOh
  simp only[go_sem,q2,JC,aB,aA,Af,Int.reduceAdd,wz (n:=(i:Int)+1),AAh,hg1]
  refine⟨(i+1,P6 k1 xs[i]),⟨rfl,rfl⟩,rfl,NI k1 xs[i]▸hP.step hi KY, ?mu⟩
  case mu=>simp only; omega
 ·have:=hP.finL h
  subst this
  exact AIk
theorem YD:∀ (n:Nat) (xs:List DPred),(∀ x∈xs,SizeOf.sizeOf x≤n)→∀ (k:Int),0≤k→fitS A_ xs→ER BU k xs≤4000000000000000000→HdE prog 144 DPred.c EW BU xs (k)
 | 0,xs,h,k,h1,h2,h3=>VL xs (fun x hx=>by have:=h x hx; cases x; simp at this) k h1 h2 h3
 | n+1,xs,h,k,h1,h2,h3=>VL xs (fun x hx k g1 g2 g3=>YD n x.l (fun y hy=>by
   have h1:SizeOf.sizeOf y<SizeOf.sizeOf x.l:=aao hy
   have h2:SizeOf.sizeOf x.l<SizeOf.sizeOf x:=APm
   have:=h x hx
   omega) k g1 g2 g3) k h1 h2 h3
theorem Qx (xs:List DPred) (k:Int) (hk:0≤k) (hx:fitS A_ xs) (hb:ER BU k xs≤4000000000000000000):HdE prog 144 DPred.c EW BU xs (k):=YD (SizeOf.sizeOf xs) xs (fun x hx=>Nat.le_of_lt (aao hx)) k hk hx hb
def P7 (k:Int) (x:DSlot):Int:=ER Et (k+1) x.l
theorem AAj (k:Int) (x:DSlot):ER Et (k+1) x.l=P7 k x:=rfl
def Hq (k:Int) (x:DSlot):Int:=P7 k x
def KZ (k:Int) (x:DSlot):DSlot:=⟨k,H7 Je Et (k+1) x.l⟩
theorem Su (k:Int) (x:DSlot):Hq k x=P7 k x:=rfl
theorem ADg (k:Int) (x:DSlot):(KZ k x).c = [.v (.int .i64 (k)),.sl ((H7 Je Et (k+1) x.l).map DVal.c)]:=by rw[DSlot.c_eq]; rfl
theorem ADh (k:Int) (x:DSlot):(KZ k x).o = [.v (.int .i64 (k)),.ow 64 3 ((H7 Je Et (k+1) x.l).map DVal.c)]:=by rw[DSlot.o_eq]; rfl
theorem n_ (k:Int) (x:DSlot):k+1≤P7 k x:=Es LZ _ _
theorem PD (k:Int) (x:DSlot):k≤Hq k x:=by have:=n_ k x; unfold Hq; omega
theorem AB0 (x:DSlot) (k l:Int) (h0:0≤L6 x l) (hl:l≤1048576):Hq k x+64*L6 x l≤k+64*l+64:=by
 have d1:=h0
 rw[SY] at d1
 obtain⟨a1_0,b1_0,e1_0⟩:=AZ d1
 have w1_0:=(Du x.l (fun x _=>Dx x) a1_0 AOh).2
 have IG:L6 x l=(DW A7 x.l l):=(SY x l).trans (e1_0)
 have:P7 k x+64*(DW A7 x.l l)≤k+1+64*l:=KL _ (fun y _ k l a b=>⟨VE y k l a b,(Dx y l a b).2⟩) _ a1_0 AOh
 rw[Su,IG]; omega
theorem oC (xs:List DSlot) (k:Int) (hk:0≤k) (hx:fitS K_ xs) (hb:ER Hq k xs≤4000000000000000000):xh prog 134 199 2 DSlot.o KZ Hq xs (k):=by
 have hxl:=hx.1
 refine AC0 (fn:=f134) call134 func134 rfl mixed ntmps134 results134 AQJ rfl (.inr rfl) fun us hw0 hw=>?_
 simp only[go_sem]
 refine ACz 1 0 [0,1,5] (A:=Nat×List DSlot×Int) (mkS us 27 199 2 DSlot.o xs) (MkX KZ Hq xs k) (fun x=>xs.length-x.1) (0,[],k) ⟨⟨rfl,Dk (BI Wy)⟩,rfl,MkX.start⟩ ?_
 rintro⟨i,dn,k1⟩ hP
 have hn:=hP.len
 refine AOd (fun h=>?_) fun h=>?_
 ·have hi:i<xs.length:=by simpa using h
  obtain⟨q2,q4,q5,q3⟩:=hP.room hi PD DSlot.o
  have hst:=hP.set hi DSlot.o (KZ k1 xs[i])
  have hset:=set_self (R:=(dn++xs.drop i).map DSlot.o) (i:=i) q3
  have q3b:i<dn.length+(xs.drop i).length:=by simpa using q3
  rw[Su] at q4
  have hle:=n_ k1 xs[i]
  have hfx:=hx.2 _ (ax hi)
  rw[DSlot.o_eq] at q2
  try simp only[aU,aN] at q2
  simp only[go_sem,q2,q3,q3b,hset,ah,ag,JC,Af,Int.reduceAdd,wz (n:=k1+1),wz (n:=(i:Int)+1)]
  refine ACx (l:=1) (OI _ (k1+1) AOh hfx (by show P7 k1 xs[i]≤_; omega)) rfl ⟨rfl,rfl,rfl,rfl,DD _,AOi,trivial⟩ ?_
  simp only[go_sem,q2,q3,q3b,hset,ah,ag,JC,Af,Int.reduceAdd,wz (n:=(i:Int)+1),AAj]
  refine⟨(i+1,dn ++ [KZ k1 xs[i]],Hq k1 xs[i]),.inr ⟨i,(dn++xs.drop i).map DSlot.o, ?rowr,DSlot.o (KZ k1 xs[i]), ?ob,⟨aaR, ?e1, ?e2,q3, ?e3⟩, ?own,⟨rfl, ?tr⟩, ?eq⟩,hP.step hi PD, ?mu⟩
  case e1=>exact rfl
  case e2=>exact rfl
  case e3=>exact rfl
  case own=>rw[ADh]; exact⟨rfl,rfl,rfl,rfl,rfl,rfl,DD _,AOi,fun l hl=>AOh⟩
  case eq=>unfold BO; rw[hst,Su]; rfl
  case tr=>unfold BO; rw[hst]; exact Dk (BI Wy)
  case mu=>simp only; omega
 ·obtain⟨y1,y2⟩:=hP.finL h
  simp only[go_sem]
  rw[y1,y2]
  exact⟨[.ref 0],[.ow 199 2 _],[.c (.v (.int .i64 _))],rfl,.inr rfl,⟨rfl,rfl,rfl,rfl,FO _,AOi,trivial⟩,by simp only[Fa,Ju,b_,aS],rfl,rfl,rfl,rfl⟩
theorem dI (xs:List DSlot) (k:Int) (hk:0≤k) (hx:fitS K_ xs) (hb:ER Hq k xs≤4000000000000000000):HdE prog 141 DSlot.c KZ Hq xs (k):=by
 have hxl:=hx.1
 refine CM call141 func141 ntmps141 results141 fun hw=>?_
 simp only[go_sem]
 refine AB7 0 [0,1,5] (A:=Nat×Int) (jG 31 DSlot.c KZ Hq xs k) (HdX KZ Hq xs k) (fun x=>xs.length-x.1) (0,k) ⟨⟨rfl,rfl⟩,rfl,HdX.start⟩ ?_
 rintro⟨i,k1⟩ hP
 refine AOe (fun h=>?_) fun h=>?_
 ·have hi:i<xs.length:=by simpa using h
  obtain⟨q2,q4,q5⟩:=hP.room hi PD DSlot.c
  rw[Su] at q4
  have hle:=n_ k1 xs[i]
  have hfx:=hx.2 _ (ax hi)
  rw[ADg] at q2
  simp only[go_sem,q2,JC,aB,aA,Af,Int.reduceAdd,wz (n:=k1+1),wz (n:=(i:Int)+1)]
  refine AAT _ (LC _ (k1+1) AOh hfx (by show P7 k1 xs[i]≤_; omega)) fun _=>?_
  have hg1:=MP (x:=P7 k1 xs[i]) AOh
  simp only[go_sem,q2,JC,aB,aA,Af,Int.reduceAdd,wz (n:=(i:Int)+1),AAj,hg1]
  refine⟨(i+1,P7 k1 xs[i]),⟨rfl,rfl⟩,rfl,hP.step hi PD, ?mu⟩
  case mu=>simp only; omega
 ·have:=hP.finL h
  subst this
  exact AIk
def Js (k:Int) (x:DBuf):Int:=ER Hq (k+3) x.c0.l
theorem oD (k:Int) (x:DBuf):ER Hq (k+3) x.c0.l=Js k x:=rfl
def VM (k:Int) (x:DBuf):Int:=ER Lu (Js k x) x.g
theorem ADi (k:Int) (x:DBuf):ER Lu (Js k x) x.g=VM k x:=rfl
def JG (k:Int) (x:DBuf):Int:=VM k x
def Qy (k:Int) (x:DBuf):DBuf:=⟨k,k+1,⟨k+2,H7 KZ Hq (k+3) x.c0.l⟩,H7 mkY Lu (Js k x) x.g⟩
theorem VN (k:Int) (x:DBuf):JG k x=VM k x:=rfl
theorem AFN (k:Int) (x:DBuf):(Qy k x).c = [.v (.int .i64 (k)),.v (.int .i64 (k+1)),.v (.int .i64 (k+2)),.sl ((H7 KZ Hq (k+3) x.c0.l).map DSlot.c),.sl ((H7 mkY Lu (Js k x) x.g).map byteC)]:=by rw[DBuf.c_eq]; rfl
theorem AFO (k:Int) (x:DBuf):(Qy k x).o = [.v (.int .i64 (k)),.v (.int .i64 (k+1)),.v (.int .i64 (k+2)),.ow 199 2 ((H7 KZ Hq (k+3) x.c0.l).map DSlot.o),.ow 5 1 ((H7 mkY Lu (Js k x) x.g).map byteC)]:=by rw[DBuf.o_eq]; rfl
theorem yh (k:Int) (x:DBuf):k+3≤Js k x∧Js k x≤VM k x:=⟨Es PD _ _,Es Jk _ _⟩
theorem Qz (k:Int) (x:DBuf):k≤JG k x:=by have:=yh k x; unfold JG; omega
theorem uH (x:DBuf) (k l:Int) (h0:0≤IX x l) (hl:l≤1048576):JG k x+64*IX x l≤k+64*l+64:=by
 have d1:=h0
 rw[Ux] at d1
 obtain⟨a1_0,b1_0,e1_0⟩:=AZ d1
 have w1_0:=(Xw x.c0 _ a1_0 AOh).2
 have d2:=a1_0
 rw[Pn] at d2
 obtain⟨a2_0,b2_0,e2_0⟩:=AZ d2
 have w2_0:=(Du x.c0.l (fun x _=>UH x) a2_0 AOh).2
 have eq2:Kz x.c0 l=(DW L6 x.c0.l l):=(Pn x.c0 l).trans (e2_0)
 obtain⟨a1_1,b1_1,e1_1⟩:=AZ b1_0
 have w1_1:=(CG a1_1 AOh).2
 have IG:IX x l=(Fv x.g.length (Kz x.c0 l)):=(Ux x l).trans ((e1_0).trans (e1_1))
 have:Js k x+64*(DW L6 x.c0.l l)≤k+3+64*l:=KL _ (fun y _ k l a b=>⟨AB0 y k l a b,(UH y l a b).2⟩) _ a2_0 AOh
 have:VM k x+64*(Fv x.g.length (Kz x.c0 l))≤Js k x+64*(Kz x.c0 l):=Pi Pj _ _ _ a1_1
 rw[VN,IG]; omega
theorem uI (xs:List DBuf) (k:Int) (hk:0≤k) (hx:fitS IE xs) (hb:ER JG k xs≤4000000000000000000):xh prog 52 142 5 DBuf.o Qy JG xs (k):=by
 have hxl:=hx.1
 refine AC0 (fn:=f52) call52 func52 rfl mixed ntmps52 results52 AQJ rfl (.inr rfl) fun us hw0 hw=>?_
 simp only[go_sem]
 refine ACz 1 0 [0,1,5] (A:=Nat×List DBuf×Int) (mkS us 50 142 5 DBuf.o xs) (MkX Qy JG xs k) (fun x=>xs.length-x.1) (0,[],k) ⟨⟨rfl,Dk (BI dA)⟩,rfl,MkX.start⟩ ?_
 rintro⟨i,dn,k1⟩ hP
 have hn:=hP.len
 refine AOd (fun h=>?_) fun h=>?_
 ·have hi:i<xs.length:=by simpa using h
  obtain⟨q2,q4,q5,q3⟩:=hP.room hi Qz DBuf.o
  have hst:=hP.set hi DBuf.o (Qy k1 xs[i])
  have hset:=set_self (R:=(dn++xs.drop i).map DBuf.o) (i:=i) q3
  have q3b:i<dn.length+(xs.drop i).length:=by simpa using q3
  rw[VN] at q4
  have hle:=yh k1 xs[i]
  have hfx:=hx.2 _ (ax hi)
  rw[DBuf.o_eq] at q2
  simp only[DChunk.o_eq,aU,aN] at q2
  simp only[go_sem,q2,q3,q3b,hset,ah,ag,JC,Af,Int.reduceAdd,wz (n:=k1+1),wz (n:=k1+2),wz (n:=k1+3),wz (n:=(i:Int)+1)]
  refine ACx (l:=1) (oC _ (k1+3) AOh hfx.1 (by show Js k1 xs[i]≤_; omega)) rfl ⟨rfl,rfl,rfl,rfl,FO _,AOi,trivial⟩ ?_
  simp only[go_sem,q2,q3,q3b,hset,ah,ag,JC,Af,Int.reduceAdd,wz (n:=(i:Int)+1),oD]
  refine ACx (l:=2) (nz _ (Js k1 xs[i]) AOh hfx.2 (by show VM k1 xs[i]≤_; omega)) rfl ⟨rfl,rfl,rfl,rfl,Bv _,AOi,trivial⟩ ?_
  simp only[go_sem,q2,q3,q3b,hset,ah,ag,JC,Af,Int.reduceAdd,wz (n:=(i:Int)+1),oD,ADi]
  refine⟨(i+1,dn ++ [Qy k1 xs[i]],JG k1 xs[i]),.inr ⟨i,(dn++xs.drop i).map DBuf.o, ?rowr,DBuf.o (Qy k1 xs[i]), ?ob,⟨aaR, ?e1, ?e2,q3, ?e3⟩, ?own,⟨rfl, ?tr⟩, ?eq⟩,hP.step hi Qz, ?mu⟩
  case e1=>exact rfl
  case e2=>exact rfl
  case e3=>exact rfl
  case own=>rw[AFO]; exact⟨rfl,rfl,rfl,rfl,rfl,rfl,rfl,rfl,rfl,rfl,FO _,AOi,rfl,rfl,rfl,rfl,Bv _,AOi,fun l hl=>AOh⟩
  case eq=>unfold BO; rw[hst,VN]; rfl
  case tr=>unfold BO; rw[hst]; exact Dk (BI dA)
  case mu=>simp only; omega
 ·obtain⟨y1,y2⟩:=hP.finL h
  simp only[go_sem]
  rw[y1,y2]
  exact⟨[.ref 0],[.ow 142 5 _],[.c (.v (.int .i64 _))],rfl,.inr rfl,⟨rfl,rfl,rfl,rfl,BG _,AOi,trivial⟩,by simp only[Fa,Ju,ny,aS],rfl,rfl,rfl,rfl⟩
theorem jO (xs:List DBuf) (k:Int) (hk:0≤k) (hx:fitS IE xs) (hb:ER JG k xs≤4000000000000000000):HdE prog 59 DBuf.c Qy JG xs (k):=by
 have hxl:=hx.1
 refine CM call59 func59 ntmps59 results59 fun hw=>?_
 simp only[go_sem]
 refine AB7 0 [0,1,5] (A:=Nat×Int) (jG 60 DBuf.c Qy JG xs k) (HdX Qy JG xs k) (fun x=>xs.length-x.1) (0,k) ⟨⟨rfl,rfl⟩,rfl,HdX.start⟩ ?_
 rintro⟨i,k1⟩ hP
 refine AOe (fun h=>?_) fun h=>?_
 ·have hi:i<xs.length:=by simpa using h
  obtain⟨q2,q4,q5⟩:=hP.room hi Qz DBuf.c
  rw[VN] at q4
  have hle:=yh k1 xs[i]
  have hfx:=hx.2 _ (ax hi)
  rw[AFN] at q2
  simp only[go_sem,q2,JC,aB,aA,Af,Int.reduceAdd,wz (n:=k1+1),wz (n:=k1+2),wz (n:=k1+3),wz (n:=(i:Int)+1)]
  refine AAT _ (dI _ (k1+3) AOh hfx.1 (by show Js k1 xs[i]≤_; omega)) fun _=>?_
  have hg1:=MP (x:=Js k1 xs[i]) AOh
  simp only[go_sem,q2,JC,aB,aA,Af,Int.reduceAdd,wz (n:=(i:Int)+1),oD,hg1]
  refine AAT _ (dC _ (Js k1 xs[i]) AOh hfx.2 (by show VM k1 xs[i]≤_; omega)) fun _=>?_
  have hg2:=MP (x:=VM k1 xs[i]) AOh
  simp only[go_sem,q2,JC,aB,aA,Af,Int.reduceAdd,wz (n:=(i:Int)+1),oD,ADi,hg1,hg2]
  refine⟨(i+1,VM k1 xs[i]),⟨rfl,rfl⟩,rfl,hP.step hi Qz, ?mu⟩
  case mu=>simp only; omega
 ·have:=hP.finL h
  subst this
  exact AIk
def I9 (k:Int) (x:DDead):Int:=k+3
def P8 (k:Int) (x:DDead):DDead:=⟨k,k+1,k+2⟩
theorem kJ (k:Int) (x:DDead):I9 k x=k+3:=rfl
theorem uJ (k:Int) (x:DDead):(P8 k x).c = [.v (.int .i64 (k)),.v (.int .i64 (k+1)),.v (.int .i64 (k+2))]:=by rw[DDead.c_eq]; rfl
theorem PG (k:Int) (x:DDead):k≤I9 k x:=by unfold I9; omega
theorem kK (k:Int) (x:DDead):I9 k x≤k+64:=by unfold I9; omega
theorem oG (xs:List DDead) (k:Int) (hk:0≤k) (hx:xs.length≤1048576) (hb:ER I9 k xs≤4000000000000000000):xh prog 54 145 3 DDead.c P8 I9 xs (k):=by
 have hxl:=hx
 refine AC0 (fn:=f54) call54 func54 rfl mixed ntmps54 results54 AQJ rfl (.inr rfl) fun us hw0 hw=>?_
 simp only[go_sem]
 refine AB7 1 [0,1,5] (A:=Nat×List DDead×Int) (mkS us 34 145 3 DDead.c xs) (MkX P8 I9 xs k) (fun x=>xs.length-x.1) (0,[],k) ⟨⟨rfl,Dk (BI fun d=>rfl)⟩,rfl,MkX.start⟩ ?_
 rintro⟨i,dn,k1⟩ hP
 have hn:=hP.len
 refine AOd (fun h=>?_) fun h=>?_
 ·have hi:i<xs.length:=by simpa using h
  obtain⟨q2,q4,q5,q3⟩:=hP.room hi PG DDead.c
  have hst:=hP.set hi DDead.c (P8 k1 xs[i])
  rw[uJ] at hst
  have hset:=set_self (R:=(dn++xs.drop i).map DDead.c) (i:=i) q3
  have q3b:i<dn.length+(xs.drop i).length:=by simpa using q3
  rw[kJ] at q4
  rw[DDead.c_eq] at q2
  try simp only[aU,aN] at q2
  simp only[go_sem,q2,q3,q3b,hset,ah,ag,JC,Af,Int.reduceAdd,wz (n:=k1+1),wz (n:=k1+2),wz (n:=k1+3),wz (n:=(i:Int)+1)]
  rw[hst]
  refine⟨(i+1,dn ++ [P8 k1 xs[i]],k1+3),⟨rfl,Dk (BI fun d=>rfl)⟩,rfl,hP.step hi PG, ?mu⟩
  case mu=>simp only; omega
 ·obtain⟨y1,y2⟩:=hP.finL h
  simp only[go_sem]
  rw[y1,y2]
  exact⟨[.ref 0],[.ow 145 3 _],[.c (.v (.int .i64 _))],rfl,.inr rfl,⟨rfl,rfl,rfl,rfl,Bj _,AOi,trivial⟩,by simp only[Fa,Ju,dB,aS],rfl,rfl,rfl,rfl⟩
theorem dJ (xs:List DDead) (k:Int) (hk:0≤k) (hx:xs.length≤1048576) (hb:ER I9 k xs≤4000000000000000000):HdE prog 61 DDead.c P8 I9 xs (k):=by
 have hxl:=hx
 refine CM call61 func61 ntmps61 results61 fun hw=>?_
 simp only[go_sem]
 refine AB7 0 [0,1,5] (A:=Nat×Int) (jG 40 DDead.c P8 I9 xs k) (HdX P8 I9 xs k) (fun x=>xs.length-x.1) (0,k) ⟨⟨rfl,rfl⟩,rfl,HdX.start⟩ ?_
 rintro⟨i,k1⟩ hP
 refine AOe (fun h=>?_) fun h=>?_
 ·have hi:i<xs.length:=by simpa using h
  obtain⟨q2,q4,q5⟩:=hP.room hi PG DDead.c
  rw[kJ] at q4
  rw[uJ] at q2
  simp only[go_sem,q2,JC,aB,aA,Af,Int.reduceAdd,wz (n:=k1+1),wz (n:=k1+2),wz (n:=k1+3),wz (n:=(i:Int)+1)]
  refine⟨(i+1,k1+3),⟨rfl,rfl⟩,rfl,hP.step hi PG, ?mu⟩
  case mu=>simp only; omega
 ·have:=hP.finL h
  subst this
  exact AIk
def JH (k:Int) (x:DRef):Int:=k+5
def mkRef (k:Int) (x:DRef):DRef:=⟨k,k+1,k+2,k+3,k+4⟩
theorem uK (k:Int) (x:DRef):JH k x=k+5:=rfl
theorem AAk (k:Int) (x:DRef):(mkRef k x).c = [.v (.int .i64 (k)),.v (.int .i64 (k+1)),.v (.int .i64 (k+2)),.v (.int .i64 (k+3)),.v (.int .i64 (k+4))]:=by rw[DRef.c_eq]; rfl
theorem NW (k:Int) (x:DRef):k≤JH k x:=by unfold JH; omega
theorem dK (k:Int) (x:DRef):JH k x≤k+64:=by unfold JH; omega
theorem YE (xs:List DRef) (k:Int) (hk:0≤k) (hx:xs.length≤1048576) (hb:ER JH k xs≤4000000000000000000):xh prog 133 133 5 DRef.c mkRef JH xs (k):=by
 have hxl:=hx
 refine AC0 (fn:=f133) call133 func133 rfl mixed ntmps133 results133 AQJ rfl (.inr rfl) fun us hw0 hw=>?_
 simp only[go_sem]
 refine AB7 1 [0,1,5] (A:=Nat×List DRef×Int) (mkS us 48 133 5 DRef.c xs) (MkX mkRef JH xs k) (fun x=>xs.length-x.1) (0,[],k) ⟨⟨rfl,Dk (BI fun d=>rfl)⟩,rfl,MkX.start⟩ ?_
 rintro⟨i,dn,k1⟩ hP
 have hn:=hP.len
 refine AOd (fun h=>?_) fun h=>?_
 ·have hi:i<xs.length:=by simpa using h
  obtain⟨q2,q4,q5,q3⟩:=hP.room hi NW DRef.c
  have hst:=hP.set hi DRef.c (mkRef k1 xs[i])
  rw[AAk] at hst
  have hset:=set_self (R:=(dn++xs.drop i).map DRef.c) (i:=i) q3
  have q3b:i<dn.length+(xs.drop i).length:=by simpa using q3
  rw[uK] at q4
  rw[DRef.c_eq] at q2
  try simp only[aU,aN] at q2
  simp only[go_sem,q2,q3,q3b,hset,ah,ag,JC,Af,Int.reduceAdd,wz (n:=k1+1),wz (n:=k1+2),wz (n:=k1+3),wz (n:=k1+4),wz (n:=k1+5),wz (n:=(i:Int)+1)]
  rw[hst]
  refine⟨(i+1,dn ++ [mkRef k1 xs[i]],k1+5),⟨rfl,Dk (BI fun d=>rfl)⟩,rfl,hP.step hi NW, ?mu⟩
  case mu=>simp only; omega
 ·obtain⟨y1,y2⟩:=hP.finL h
  simp only[go_sem]
  rw[y1,y2]
  exact⟨[.ref 0],[.ow 133 5 _],[.c (.v (.int .i64 _))],rfl,.inr rfl,⟨rfl,rfl,rfl,rfl,Ba _,AOi,trivial⟩,by simp only[Fa,Ju,ZC,aS],rfl,rfl,rfl,rfl⟩
theorem TY (xs:List DRef) (k:Int) (hk:0≤k) (hx:xs.length≤1048576) (hb:ER JH k xs≤4000000000000000000):HdE prog 140 DRef.c mkRef JH xs (k):=by
 have hxl:=hx
 refine CM call140 func140 ntmps140 results140 fun hw=>?_
 simp only[go_sem]
 refine AB7 0 [0,1,5] (A:=Nat×Int) (jG 58 DRef.c mkRef JH xs k) (HdX mkRef JH xs k) (fun x=>xs.length-x.1) (0,k) ⟨⟨rfl,rfl⟩,rfl,HdX.start⟩ ?_
 rintro⟨i,k1⟩ hP
 refine AOe (fun h=>?_) fun h=>?_
 ·have hi:i<xs.length:=by simpa using h
  obtain⟨q2,q4,q5⟩:=hP.room hi NW DRef.c
  rw[uK] at q4
  rw[AAk] at q2
  simp only[go_sem,q2,JC,aB,aA,Af,Int.reduceAdd,wz (n:=k1+1),wz (n:=k1+2),wz (n:=k1+3),wz (n:=k1+4),wz (n:=k1+5),wz (n:=(i:Int)+1)]
  refine⟨(i+1,k1+5),⟨rfl,rfl⟩,rfl,hP.step hi NW, ?mu⟩
  case mu=>simp only; omega
 ·have:=hP.finL h
  subst this
  exact AIk
theorem Gz {r:DRef} {id:Int} (h:Az r id=true):0≤r.first∧r.first≤id∧(id≤9223372036854775807→IntKind.i64.wrap (id-r.first)=id-r.first∧id-r.first<r.many):=by
 simp only[Az,ay,bf] at h
 obtain⟨h1,h2,h3⟩:=h
 refine⟨h1,h2,fun h4=>?_⟩
 rw[wrap_i64 AOh AOh] at h3 ⊢
 exact⟨rfl,h3⟩
def fqI:Option DRow→Int
 | none=>0
 | some r=>r.id
def fqL:Option DRow→List DVal
 | none=>[]
 | some r=>r.l
theorem dL (o:Option DRow) (b:Bool) : [Rj o,.val (.c (.v (.bool (b))))].map dV = [.val (.agg [.v (.int .i64 (fqI o)),.sl ((fqL o).map DVal.c)]),.val (.c (.v (.bool (b))))]:=by
 cases o with
 | none=>rfl
 | some r=>simp only[Rj,fqI,fqL,YG,cu,dV,DRow.o_er]; rfl
theorem OJ (l:List DRow) (n:Int) (ha:ACi Gu l):Ctr prog 241 [.c (.sl (l.map DRow.c)),.c (.v (.int .i64 (n)))] [.val (.agg [.v (.int .i64 (fqI (IR l n))),.sl ((fqL (IR l n)).map DVal.c)]),.val (.c (.v (.bool ((IR l n).isSome))))]:=by
 rw[← dL]; exact(AAH l n ha).frz
theorem YF (l:List DRow) (n:Int) (ha:ACi Gu l):Ctr prog 206 [.c (.sl (l.map DRow.c)),.c (.v (.int .i64 (n)))] [.val (.agg [.v (.int .i64 (fqI (IR l n))),.sl ((fqL (IR l n)).map DVal.c)]),.val (.c (.v (.bool ((IR l n).isSome))))]:=by
 rw[← dL]; exact(AAI l n ha).frz
theorem uM {w:DWorld} {r:DRef} {id:Int} (h:there w r=false):insOf w r id=0:=by simp[insOf,h]
theorem uN (w:DWorld) (r:DRef) (id:Int) (hf:AX w) (hc:Az r id=true):Ctr prog 91 [.agg w.c,.agg r.c,.c (.v (.int .i64 (id)))] [.val (.c (.v (.int .i64 (insOf w r id))))]:=by
 obtain⟨c1,c2,c3⟩:=Gz hc
 refine CM call91 func91 ntmps91 results91 fun hw=>?_
 have hid:=J3 hw.2.2.1
 obtain⟨c4,c5⟩:=c3 hid
 simp only[go_sem]
 try refine AAm ?_
 try simp only[go_sem]
 first | refine CY (Eu w r) ?_ | refine CW (Eu w r) fun _=>?_
 rcases h1:there w r with _ | _
 ·simp only[go_sem,h1,uM h1]
 obtain⟨q,hq,hb,hat⟩ | ⟨hb,hat⟩:=DR w r.buf
 rotate_left
 ·simp only[there,hat] at h1; cases h1
 obtain⟨j,hj⟩:=aO (show 0≤id-r.first from AOh)
 rcases h2:r.kind==1 with _ | _
 ·have hr:insOf w r id=if(r.kind==2&&(IR (C_ w r) id).isSome)=true then 1 else 0:=by simp only[insOf,h1,h2,aX,aW,aC]
  rw[hr]
  simp only[go_sem,h1,h2]
  try refine AAm ?_
  try simp only[go_sem,h1,h2]
  first | refine CY (Kt w r hf hq hb) ?_ | refine CW (Kt w r hf hq hb) fun _=>?_
  simp only[go_sem]
  try refine AAm ?_
  try simp only[go_sem]
  first | refine AB5 _ (YF (C_ w r) id (Y6 w r).big) ?_ | refine AAT _ (YF (C_ w r) id (Y6 w r).big) fun _=>?_
  rcases h3:(IR (C_ w r) id).isSome with _ | _
  ·simp only[go_sem,h3,aH,aC,aW]
  rcases h4:r.kind==2 with _ | _<;>simp only[go_sem,h3,h4,aS,aC,aW,aX]
 ·have hlen:(w.b[q].c0.l.length:Int)=r.many:=by
   have h3:=h1
   simp only[there,hat,MC,ay,qw,ZE] at h3
   exact AOM
  have hjl:j<w.b[q].c0.l.length:=AOh
  have hr:insOf w r id=w.b[q].c0.l[j].ins:=by
   simp only[insOf,h1,h2,aX,YA,hat,hj,bH]
   simp[hjl]
  have d1:decide (r.first<0)=false:=AOj
  have d2:decide (id<r.first)=false:=AOj
  have d3:decide ((j:Int)≥(w.b[q].c0.l.length:Int))=false:=AOj
  rw[hj] at c4
  rw[hr]
  simp only[go_sem,h1,h2,hb,AA _ hq,hq,ae,c4,hj,d1,d2,d3,AA _ hjl,hjl]
  try refine AAm ?_
  try simp only[go_sem,h1,h2,hb,AA _ hq,hq,ae,c4,hj,d1,d2,d3,AA _ hjl,hjl]
  try refine AAm ?_
  try simp only[go_sem,h1,h2,hb,AA _ hq,hq,ae,c4,hj,d1,d2,d3,AA _ hjl,hjl]
theorem uO (w:DWorld) (r:DRef) (id:Int) (hf:AX w) (hc:Az r id=true):Ctr prog 122 [.agg w.c,.agg r.c,.c (.v (.int .i64 (id)))] [.val (.c (.v (.int .i64 (insOf w r id))))]:=by
 obtain⟨c1,c2,c3⟩:=Gz hc
 refine CM call122 func122 ntmps122 results122 fun hw=>?_
 have hid:=J3 hw.2.2.1
 obtain⟨c4,c5⟩:=c3 hid
 simp only[go_sem]
 try refine AAm ?_
 try simp only[go_sem]
 first | refine CY (BQ w r) ?_ | refine CW (BQ w r) fun _=>?_
 rcases h1:there w r with _ | _
 ·simp only[go_sem,h1,uM h1]
 simp only[go_sem,h1]
 try refine AAm ?_
 try simp only[go_sem,h1]
 first | refine CY (D7 r id) ?_ | refine CW (D7 r id) fun _=>?_
 simp only[go_sem,hc]
 obtain⟨q,hq,hb,hat⟩ | ⟨hb,hat⟩:=DR w r.buf
 rotate_left
 ·simp only[there,hat] at h1; cases h1
 obtain⟨j,hj⟩:=aO (show 0≤id-r.first from AOh)
 have hth:MC w.b[q] r=true:=by simp only[there,hat] at h1; exact h1
 refine CW (JJ w r) fun _=>?_
 rcases h2:r.kind==1 with _ | _
 ·have hr:insOf w r id=if(r.kind==2&&(IR (C_ w r) id).isSome)=true then 1 else 0:=by simp only[insOf,h1,h2,aX,aW,aC]
  have hch:Bl w r=(FQ,false):=by simp[Bl,hat,h2]
  rw[hr]
  simp only[go_sem,hch,FQ,cu]
  try refine AAm ?_
  try simp only[go_sem,h1,h2]
  first | refine CY (FD w r hf) ?_ | refine CW (FD w r hf) fun _=>?_
  rcases h4:r.kind==2 with _ | _
  ·simp only[go_sem,h1,h4,ai,aC,aW,cu]
   try refine AAm ?_
   try simp only[go_sem]
   first | refine AB5 _ (OJ [] id ⟨AOi,AOi⟩) ?_ | refine AAT _ (OJ [] id ⟨AOi,AOi⟩) fun _=>?_
   have hfn:IR [] id=none:=rfl
   simp only[go_sem,hfn,aby]
  ·simp only[go_sem,h1,h4,aj,aX]
   try refine AAm ?_
   try simp only[go_sem]
   first | refine AB5 _ (OJ (C_ w r) id (Y6 w r).big) ?_ | refine AAT _ (OJ (C_ w r) id (Y6 w r).big) fun _=>?_
   rcases h3:(IR (C_ w r) id).isSome with _ | _<;>simp only[go_sem,h3,aC,aW,aX]
 ·have hch:Bl w r=(w.b[q].c0,true):=by simp[Bl,hat,h2,hth]
  have hlen:(w.b[q].c0.l.length:Int)=r.many:=by
   have h3:=hth
   simp only[MC,ay,qw,ZE] at h3
   exact AOM
  have hjl:j<w.b[q].c0.l.length:=AOh
  have hr:insOf w r id=w.b[q].c0.l[j].ins:=by
   simp only[insOf,h1,h2,aX,YA,hat,hj,bH]
   simp[hjl]
  rw[hj] at c4
  rw[hr]
  simp only[go_sem,hch,c4,hj,AA _ hjl,hjl]
theorem AO {st:List Ob} {l ty sz:Nat} {xs ys:List (List Cl)} {wr live:Bool} (h:DT st l=some ⟨ty,sz,xs,wr,live⟩) (hn:DI xs=true) (e:Qa xs=ys):BorX st (.ref l) (.sl ys):=.inl (by simp[dX,h,hn,e])
theorem Oj {st:List Ob} {w:DWorld} {a b c d e f g h:Cl} (h1:BorX st a (.sl (w.c0.cols.map intC))) (h2:BorX st b (.sl (w.d.l.map DRef.c))) (h3:BorX st c (.sl (w.b.map DBuf.c))) (h4:BorX st d (.sl (w.m.map intC))) (h5:BorX st e (.sl (w.x.map DDead.c)))
  (h6:BorX st f (.sl (w.p.map intC))) (h7:BorX st g (.sl (w.tasks.map DTask.c))) (h8:BorX st h (.sl (w.deeds.map DDeed.c))):BorL st (wdR w a b c d e f g h) w.c:=
 ⟨h1,.inl rfl,.inl rfl,.inl rfl,.inl rfl,.inl rfl,.inl rfl,h2,h3,h4,h5,h6,h7,h8,trivial⟩
theorem Jt {st:List Ob} (r:DRef):BorL st r.c r.c:=⟨.inl rfl,.inl rfl,.inl rfl,.inl rfl,.inl rfl,trivial⟩
def AGW (t:DTask) (hv pc:Int) (a b c d e:Nat):List Cl:=[.v (.int .i64 t.op),.v (.int .i64 pc),.v (.int .i64 hv),.ref a,.v (.int .i64 t.id),.v (.int .i64 t.q.kind),.v (.int .i64 t.q.p.kind),.v (.int .i64 t.q.p.col),.v (.int .i64 t.q.p.op),.v (.int .i64 t.q.p.v.ty),.v (.int .i64 t.q.p.v.n),.v (.string t.q.p.v.s),.ref b,.v (.int .i64 t.q.col),.ref c,.v (.int .i64 t.ts),.v (.int .i64 t.ver),.ref d,.v (.int .i64 t.i),.v (.int .i64 t.j),.v (.int .i64 t.s),.v (.int .i64 t.at0),.v (.int .i64 t.own),.v (.bool t.won),.ref e]
theorem AFP {st:List Ob} {t:DTask} {hv:Int} {a b c d e y1 y2 y3 y4 y5 z1 z2 z3 z4 z5:Nat} {xs:List (List Cl)} {u1 u2 u3 u4 u5 v1 v2 v3 v4 v5:Bool} (h1:DT st a=some ⟨y1,z1,t.r.map DVal.c,u1,v1⟩) (h2:DT st b=some ⟨y2,z2,t.q.p.l.map DPred.o,u2,v2⟩) (h3:DT st c=some ⟨y3,z3,t.q.out.map intC,u3,v3⟩)
  (h4:DT st d=some ⟨y4,z4,xs,u4,v4⟩) (h5:DT st e=some ⟨y5,z5,t.got.map DRow.o,u5,v5⟩) (eh:t.h=hv) (hxs:xs=t.l.map DRef.c):BorR st (AGW t hv t.pc a b c d e) (DTask.c t):=by
 subst eh
 subst hxs
 have g:∀ (x:Value),UF st (.v x) (.v x):=fun x=>.inr ⟨rfl,rfl⟩
 have g1:UF st (.ref a) (.sl (t.r.map DVal.c)):=.inl ⟨a,_,rfl,h1,DD _,by rw[L8]⟩
 have g2:UF st (.ref b) (.sl (t.q.p.l.map DPred.c)):=.inl ⟨b,_,rfl,h2,BL _,by rw[JE]⟩
 have g3:UF st (.ref c) (.sl (t.q.out.map intC)):=.inl ⟨c,_,rfl,h3,AQ _,by rw[Ac]⟩
 have g4:UF st (.ref d) (.sl (t.l.map DRef.c)):=.inl ⟨d,_,rfl,h4,Ba _,by rw[Ci]⟩
 have g5:UF st (.ref e) (.sl (t.got.map DRow.c)):=.inl ⟨e,_,rfl,h5,BF _,by rw[Jo]⟩
 simp only[go_sem,BorR,AGW]
 exact ANN
theorem uP {w:DWorld} {r:DRef} {b:DBuf} (h1:there w r=true) (h2:(r.kind==1)=true) (hat:Qd w r.buf=some b):(b.c0.l.length:Int)=r.many:=by
 simp only[there,hat,MC,ay,qw,ZE] at h1
 rcases h1.2.2 with h3 | h3
 ·simp only[bne,h2] at h3; cases h3
 ·exact h3
theorem Ie {w:DWorld} {t:DTask} {d:DDeed} (h:swB w t d=true) (hth:t.l.all (there w)=true) (h2:t.op=2) (h3:Aa t.pc 2 7=true):∃ r,t.l = [r]∧there w r=true∧Az r t.id=true∧t.id<(w.m.length:Int)∧(Aa t.pc 3 4=true→(r.kind==1)=true):=by
 have e1:(t.op==1)=false:=by rw[h2]; rfl
 have e2:(t.op==2)=true:=by rw[h2]; rfl
 simp only[swB,e1,e2,aX,aW,aC,lh,h3,aJ,bT,ay,ZE,bf,qw,aa4] at h
 obtain⟨_,h4,h5,h6,h7⟩:=h
 obtain⟨r,hr⟩:=List.length_eq_one_iff.1 (show t.l.length=1 from AOh)
 have e3:l0 t=r:=by simp[l0,hr]
 rw[e3] at h5 h7
 refine⟨r,hr, ?_,h5,h6,fun h8=>?_⟩
 ·rw[hr] at hth; simpa using hth
 ·rcases h7 with h7 | h7
  ·rw[h7] at h8; cases h8
  ·simpa using h7
end Go.Proofs.YtnoldekcdlaahaaGreat
