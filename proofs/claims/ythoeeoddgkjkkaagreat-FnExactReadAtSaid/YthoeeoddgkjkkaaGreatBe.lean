/- Marks of values and rows, exactly; and held. -/
import Derived.Test.YthoeeoddgkjkkaaGreatBs
namespace Go.Proofs.YthoeeoddgkjkkaaGreat
set_option linter.unusedSimpArgs false
set_option linter.unusedVariables false
open Go.Vm
set_option maxHeartbeats 1000000
set_option maxRecDepth 10000
def Oj {α:Type} (y:Int→α→α) (c:Int→α→Int):Int→List α→List α
 | _,[]=>[]
 | k,x::xs=>y k x::Oj y c (c k x) xs
def J4 {α:Type} (c:Int→α→Int):Int→List α→Int
 | k,[]=>k
 | k,x::xs=>J4 c (c k x) xs
theorem LG {α:Type} {c:Int→α→Int} (hc:∀ k x,k≤c k x):∀ (xs:List α) (k:Int),k≤J4 c k xs
 | [],k=>Int.le_refl _
 | x::xs,k=>by
  have:=LG hc xs (c k x)
  have:=hc k x
  simp only[J4]; omega
theorem QD {α:Type} {c:Int→α→Int} (B:Int) (hB:0≤B):∀ (xs:List α) (_:∀ x∈xs,∀ k,c k x≤k+B) (k:Int),J4 c k xs≤k+xs.length*B
 | [],_,k=>by simp[J4]
 | x::xs,h,k=>by
  have h1:=h x (by simp) k
  have h2:=QD B hB xs (fun y hy=>h y (by simp[hy])) (c k x)
  simp only[J4,List.length_cons,Int.natCast_add,Int.natCast_one,Int.add_mul,Int.one_mul]
  omega
theorem WI {α:Type} (y:Int→α→α) (c:Int→α→Int):∀ (xs:List α) (k:Int),(Oj y c k xs).length=xs.length
 | [],k=>rfl
 | x::xs,k=>by simp[Oj,WI y c xs]
def MkX {α:Type} (y:Int→α→α) (c:Int→α→Int) (xs:List α) (k0:Int) (x:Nat×List α×Int):Prop:=
 x.1≤xs.length∧x.2.1.length=x.1∧Oj y c k0 xs=x.2.1++Oj y c x.2.2 (xs.drop x.1)∧J4 c k0 xs=J4 c x.2.2 (xs.drop x.1)∧k0≤x.2.2
section
variable {α:Type} {y:Int→α→α} {c:Int→α→Int} {xs:List α} {k0 k1:Int} {i:Nat} {dn:List α}
theorem MkX.start:MkX y c xs k0 (0,[],k0):=⟨Nat.zero_le _,rfl,by simp,by simp,Int.le_refl _⟩
theorem MkX.room (h:MkX y c xs k0 (i,dn,k1)) (hi:i<xs.length) (hc:∀ k x,k≤c k x) (f:α→List Cl) :
  ((dn++xs.drop i).map f)[i]?=some (f xs[i])∧c k1 xs[i]≤J4 c k0 xs∧k0≤k1∧i<((dn++xs.drop i).map f).length:=by
 obtain⟨a1,a2,a3,a4,a5⟩:=h
 dsimp only at *
 refine⟨?_, ?_,a5,by simp; omega⟩
 ·rw[List.getElem?_map,List.getElem?_append_right (by omega),a2,Nat.sub_self,List.getElem?_drop]
  simp[hi]
 ·rw[a4,List.drop_eq_getElem_cons hi]
  exact LG hc _ _
theorem MkX.set (h:MkX y c xs k0 (i,dn,k1)) (hi:i<xs.length) (f:α→List Cl) (z:α):((dn++xs.drop i).map f).set i (f z)=((dn ++ [z])++xs.drop (i+1)).map f:=by
 obtain⟨a1,a2,a3,a4,a5⟩:=h
 dsimp only at *
 rw[← List.map_set,List.set_append_right _ _ (by omega),a2,Nat.sub_self,List.drop_eq_getElem_cons hi,List.set_cons_zero,List.append_assoc]
 rfl
theorem MkX.step (h:MkX y c xs k0 (i,dn,k1)) (hi:i<xs.length) (hc:∀ k x,k≤c k x):MkX y c xs k0 (i+1,dn ++ [y k1 xs[i]],c k1 xs[i]):=by
 obtain⟨a1,a2,a3,a4,a5⟩:=h
 dsimp only at *
 have:=hc k1 xs[i]
 refine⟨hi,by simp[a2], ?_, ?_,by simp only; omega⟩
 ·rw[a3,List.drop_eq_getElem_cons hi,Oj,List.append_assoc]; rfl
 ·rw[a4,List.drop_eq_getElem_cons hi,J4]
theorem MkX.fin (h:MkX y c xs k0 (i,dn,k1)) (hi:i=xs.length):dn++xs.drop i=Oj y c k0 xs∧k1=J4 c k0 xs:=by
 obtain⟨a1,a2,a3,a4,a5⟩:=h
 dsimp only at *
 subst hi
 rw[List.drop_length] at a3 a4 ⊢
 simp only[Oj,J4,List.append_nil] at a3 a4 ⊢
 exact⟨a3.symm,a4.symm⟩
end
def HdX {α:Type} (y:Int→α→α) (c:Int→α→Int) (xs:List α) (k0:Int) (x:Nat×Int):Prop:=
 x.1≤xs.length∧(Oj y c k0 xs).drop x.1=Oj y c x.2 (xs.drop x.1)∧J4 c k0 xs=J4 c x.2 (xs.drop x.1)∧k0≤x.2
section
variable {α:Type} {y:Int→α→α} {c:Int→α→Int} {xs:List α} {k0 k1:Int} {i:Nat}
theorem HdX.start:HdX y c xs k0 (0,k0):=⟨Nat.zero_le _,by simp,by simp,Int.le_refl _⟩
theorem HdX.room (h:HdX y c xs k0 (i,k1)) (hi:i<xs.length) (hc:∀ k x,k≤c k x) (f:α→List Cl) :
  ((Oj y c k0 xs).map f)[i]?=some (f (y k1 xs[i]))∧c k1 xs[i]≤J4 c k0 xs∧k0≤k1:=by
 obtain⟨a1,a2,a3,a4⟩:=h
 dsimp only at *
 refine⟨?_, ?_,a4⟩
 ·have:(Oj y c k0 xs)[i]?=some (y k1 xs[i]):=by
   have h2:((Oj y c k0 xs).drop i)[0]?=(Oj y c k0 xs)[i]?:=by rw[List.getElem?_drop]; rfl
   rw[← h2,a2,List.drop_eq_getElem_cons hi,Oj]; rfl
  rw[List.getElem?_map,this]; rfl
 ·rw[a3,List.drop_eq_getElem_cons hi]
  exact LG hc _ _
theorem HdX.step (h:HdX y c xs k0 (i,k1)) (hi:i<xs.length) (hc:∀ k x,k≤c k x):HdX y c xs k0 (i+1,c k1 xs[i]):=by
 obtain⟨a1,a2,a3,a4⟩:=h
 dsimp only at *
 have:=hc k1 xs[i]
 refine⟨hi, ?_, ?_,by simp only; omega⟩
 ·have h2:(Oj y c k0 xs).drop (i+1)=((Oj y c k0 xs).drop i).drop 1:=by rw[List.drop_drop]
  simp only
  rw[h2,a2,List.drop_eq_getElem_cons hi,Oj]; rfl
 ·rw[a3,List.drop_eq_getElem_cons hi,J4]
theorem HdX.fin (h:HdX y c xs k0 (i,k1)) (hi:i=xs.length):k1=J4 c k0 xs:=by
 obtain⟨a1,a2,a3,a4⟩:=h
 dsimp only at *
 subst hi
 rw[List.drop_length] at a3
 exact a3.symm
end
def LH (k:Int) (_:DVal):DVal:=⟨k,k+1,Gs (k+1+1)⟩
def Ey (k:Int) (_:DVal):Int:=k+1+1+1
theorem Io (k:Int) (x:DVal):k≤Ey k x:=by unfold Ey; omega
theorem YN (xs:List DVal) (k:Int) (hk:0≤k) (hxl:xs.length≤1048576) (hb:J4 Ey k xs≤4000000000000000000) :
  MCtr Tryz.prog 83 false [.ow 72 3 (xs.map DVal.c)] [.c (.v (.int .i64 k))] (fun cl' rs=>cl' = [.ow 72 3 ((Oj LH Ey k xs).map DVal.c)]∧rs = [.c (.v (.int .i64 (J4 Ey k xs)))]):=by
 refine MCtr.mk (fn:=Tryz.f83) Tryz.call83 Tryz.func83 rfl mixed Tryz.ntmps83 Tryz.results83 (by kernel_rfl) rfl (.inr rfl) fun us hw0 hw=>?_
 simp only[go_sem]
 refine LoopK.mk 1 [0,1,5] (A:=Nat×List DVal×Int) (fun x=>⟨35,[(0,.pin (.c (.ref 0)) (mkV false us)),(1,.c (.v (.int .i64 x.2.2))),(5,.c (.v (.int .i64 x.1)))],[⟨72,3,(x.2.1++xs.drop x.1).map DVal.c,true,true⟩]⟩)
  (MkX LH Ey xs k) (fun x=>xs.length-x.1) (0,[],k) ⟨⟨rfl,Ba (cloE_map fun d=>rfl)⟩,rfl,MkX.start⟩ ?_
 rintro⟨i,dn,k1⟩ hP
 have hn:(dn++xs.drop i).length=xs.length:=by have h1:=hP.1; have h2:=hP.2.1; dsimp only at h1 h2; simp; omega
 simp only[go_sem,List.length_map,hn]
 refine cndC.mk (fun h=>?_) (fun h=>?_)
 ·have hi:i<xs.length:=by simpa using h
  obtain⟨q2,q4,q5,q3⟩:=hP.room hi Io DVal.c
  have hst:=hP.set hi DVal.c (LH k1 xs[i])
  have hset:=set_self (R:=(dn++xs.drop i).map DVal.c) (i:=i) q3
  have q4:k1+1+1+1≤J4 Ey k xs:=q4
  rw[DVal.c_eq] at q2
  simp only[go_sem,q2,q3,hset,List.set_set,List.length_set,wrap_i64 (n:=k1+1) (by omega) (by omega),wrap_i64 (n:=k1+1+1) (by omega) (by omega)]
  refine CallK.mk _ (ES (k1+1+1) (by omega) (by omega)) fun _=>?_
  simp only[go_sem,q2,q3,hset,List.set_set,List.length_set,wrap_i64 (n:=k1+1) (by omega) (by omega),wrap_i64 (n:=k1+1+1) (by omega) (by omega),wrap_i64 (n:=k1+1+1+1) (by omega) (by omega),wrap_i64 (n:=(i:Int)+1) (by omega) (by omega)]
  have hst2:((dn++xs.drop i).map DVal.c).set i [.v (.int .i64 k1),.v (.int .i64 (k1+1)),.v (.string (Gs (k1+1+1)))]=((dn ++ [LH k1 xs[i]])++xs.drop (i+1)).map DVal.c:=hst
  rw[hst2]
  exact⟨(i+1,dn ++ [LH k1 xs[i]],Ey k1 xs[i]),⟨rfl,Ba (cloE_map fun d=>rfl)⟩,rfl,hP.step hi Io,by simp only; omega⟩
 ·have hi:i=xs.length:=by have:=hP.1; simp at h; dsimp only at this; omega
  obtain⟨y1,y2⟩:=hP.fin hi
  simp only[go_sem]
  rw[y1,y2]
  exact⟨[.ref 0],[.ow 72 3 ((Oj LH Ey k xs).map DVal.c)],[.c (.v (.int .i64 (J4 Ey k xs)))],rfl,.inr rfl,⟨rfl,rfl,rfl,rfl,Bl _,by simp,trivial⟩,by simp only[CO,DX,Ol,Bool.and_true],rfl,rfl,rfl,rfl⟩
theorem Uz (xs:List DVal) (k:Int) (hk:0≤k) (hxl:xs.length≤1048576) (hb:J4 Ey k xs≤4000000000000000000) :
  Ctr Tryz.prog 84 [.c (.sl ((Oj LH Ey k xs).map DVal.c)),.c (.v (.int .i64 k))] [.val (.c (.v (.int .i64 (J4 Ey k xs))))]:=by
 refine Ctr.mk Tryz.call84 Tryz.func84 rfl mixed Tryz.ntmps84 Tryz.results84 (by kernel_rfl) rfl fun hw=>?_
 simp only[go_sem]
 refine LoopK.mk 0 [0,1,5] (A:=Nat×Int) (fun x=>⟨41,[(0,.c (.sl ((Oj LH Ey k xs).map DVal.c))),(1,.c (.v (.int .i64 x.2))),(5,.c (.v (.int .i64 x.1)))],[]⟩) (HdX LH Ey xs k) (fun x=>xs.length-x.1) (0,k) ⟨⟨rfl,rfl⟩,rfl,HdX.start⟩ ?_
 rintro⟨i,k1⟩ hP
 simp only[go_sem,List.length_map,WI]
 refine cndC.mk (fun h=>?_) (fun h=>?_)
 ·have hi:i<xs.length:=by simpa using h
  obtain⟨q2,q4,q5⟩:=hP.room hi Io DVal.c
  have q4:k1+1+1+1≤J4 Ey k xs:=q4
  rw[DVal.c_eq] at q2
  simp only[LH] at q2
  simp only[go_sem,q2,bne_self_eq_false,wrap_i64 (n:=k1+1) (by omega) (by omega),wrap_i64 (n:=k1+1+1) (by omega) (by omega)]
  refine DrawK.mk ?_
  simp only[go_sem,q2]
  refine CallF.mk _ (ES (k1+1+1) (by omega) (by omega)) ?_
  simp only[go_sem,q2,beq_self_eq_true,wrap_i64 (n:=k1+1+1+1) (by omega) (by omega),wrap_i64 (n:=(i:Int)+1) (by omega) (by omega)]
  exact⟨(i+1,Ey k1 xs[i]),⟨rfl,rfl⟩,rfl,hP.step hi Io,by simp only; omega⟩
 ·have hi:i=xs.length:=by have:=hP.1; simp at h; dsimp only at this; omega
  have:=hP.fin hi
  subst this
  simp only[go_sem]
def mkRow (k:Int) (x:DRow):DRow:=⟨k,Oj LH Ey (k+1) x.l⟩
def FU (k:Int) (x:DRow):Int:=J4 Ey (k+1) x.l
theorem Jk (k:Int) (x:DRow):k≤FU k x:=by
 have:=LG Io x.l (k+1)
 unfold FU; omega
theorem YO (xs:List DRow) (k:Int) (hk:0≤k) (hxl:xs.length≤1099511627776) (hx:∀ x∈xs,x.l.length≤1048576) (hb:J4 FU k xs≤4000000000000000000) :
  MCtr Tryz.prog 23 false [.ow 121 2 (xs.map DRow.o)] [.c (.v (.int .i64 k))] (fun cl' rs=>cl' = [.ow 121 2 ((Oj mkRow FU k xs).map DRow.o)]∧rs = [.c (.v (.int .i64 (J4 FU k xs)))]):=by
 refine MCtr.mk (fn:=Tryz.f23) Tryz.call23 Tryz.func23 rfl mixed Tryz.ntmps23 Tryz.results23 (by kernel_rfl) rfl (.inr rfl) fun us hw0 hw=>?_
 simp only[go_sem]
 refine LoopA.mk 1 0 [0,1,5] (A:=Nat×List DRow×Int) (fun x=>⟨27,[(0,.pin (.c (.ref 0)) (mkV false us)),(1,.c (.v (.int .i64 x.2.2))),(5,.c (.v (.int .i64 x.1)))],[⟨121,2,(x.2.1++xs.drop x.1).map DRow.o,true,true⟩]⟩)
  (MkX mkRow FU xs k) (fun x=>xs.length-x.1) (0,[],k) ⟨⟨rfl,Ba (cloE_map LK)⟩,rfl,MkX.start⟩ ?_
 rintro⟨i,dn,k1⟩ hP
 have hn:(dn++xs.drop i).length=xs.length:=by have h1:=hP.1; have h2:=hP.2.1; dsimp only at h1 h2; simp; omega
 simp only[go_sem,List.length_map,hn]
 refine cndC.mk (fun h=>?_) (fun h=>?_)
 ·have hi:i<xs.length:=by simpa using h
  obtain⟨q2,q4,q5,q3⟩:=hP.room hi Jk DRow.o
  have hst:=hP.set hi DRow.o (mkRow k1 xs[i])
  have hset:=set_self (R:=(dn++xs.drop i).map DRow.o) (i:=i) q3
  have q4:J4 Ey (k1+1) xs[i].l≤J4 FU k xs:=q4
  have hle:=LG Io xs[i].l (k1+1)
  rw[DRow.o_eq] at q2
  simp only[List.cons_append,List.nil_append] at q2
  simp only[go_sem,q2,q3,hset,List.set_set,List.length_set,wrap_i64 (n:=k1+1) (by omega) (by omega)]
  refine MutK.mk false (zs:=[.ref 1]) (cl:=[.ow 72 3 (xs[i].l.map DVal.c)]) (YN xs[i].l (k1+1) (by omega) (hx _ (List.getElem_mem hi)) (by omega)) rfl ⟨rfl,rfl,rfl,rfl,Bl _,by simp,trivial⟩ rfl (.inr rfl) fun cl' rs hM=>?_
  obtain⟨rfl,rfl⟩:=hM
  refine⟨⟨rfl,⟨rfl,rfl⟩,trivial⟩, ?_⟩
  simp only[go_sem,q2,q3,hset,List.set_set,List.length_set,wrap_i64 (n:=k1+1) (by omega) (by omega),wrap_i64 (n:=(i:Int)+1) (by omega) (by omega)]
  refine⟨(i+1,dn ++ [mkRow k1 xs[i]],FU k1 xs[i]),.inr ⟨i,(dn++xs.drop i).map DRow.o, ?rowr,DRow.o (mkRow k1 xs[i]), ?ob,⟨Nat.zero_lt_one, ?e1, ?e2,q3, ?e3⟩, ?own,⟨rfl, ?tr⟩, ?eq⟩, ?P, ?mu⟩
  case e1=>exact rfl
  case e2=>exact rfl
  case e3=>exact rfl
  case own=>exact⟨rfl,rfl,rfl,rfl,rfl,rfl,Bl _,by simp,fun l hl=>by omega⟩
  case eq=>unfold BN; rw[hst]; rfl
  case mu=>simp only; omega
  case P=>exact hP.step hi Jk
  case tr=>unfold BN; rw[hst]; exact Ba (cloE_map LK)
 ·have hi:i=xs.length:=by have:=hP.1; simp at h; dsimp only at this; omega
  obtain⟨y1,y2⟩:=hP.fin hi
  simp only[go_sem]
  rw[y1,y2]
  exact⟨[.ref 0],[.ow 121 2 ((Oj mkRow FU k xs).map DRow.o)],[.c (.v (.int .i64 (J4 FU k xs)))],rfl,.inr rfl,⟨rfl,rfl,rfl,rfl,AX _,by simp,trivial⟩,by simp only[CO,DX,SG,Bool.and_true],rfl,rfl,rfl,rfl⟩
theorem U0 (xs:List DRow) (k:Int) (hk:0≤k) (hxl:xs.length≤1099511627776) (hx:∀ x∈xs,x.l.length≤1048576) (hb:J4 FU k xs≤4000000000000000000) :
  Ctr Tryz.prog 24 [.c (.sl ((Oj mkRow FU k xs).map DRow.c)),.c (.v (.int .i64 k))] [.val (.c (.v (.int .i64 (J4 FU k xs))))]:=by
 refine Ctr.mk Tryz.call24 Tryz.func24 rfl mixed Tryz.ntmps24 Tryz.results24 (by kernel_rfl) rfl fun hw=>?_
 simp only[go_sem]
 refine LoopK.mk 0 [0,1,5] (A:=Nat×Int) (fun x=>⟨31,[(0,.c (.sl ((Oj mkRow FU k xs).map DRow.c))),(1,.c (.v (.int .i64 x.2))),(5,.c (.v (.int .i64 x.1)))],[]⟩) (HdX mkRow FU xs k) (fun x=>xs.length-x.1) (0,k) ⟨⟨rfl,rfl⟩,rfl,HdX.start⟩ ?_
 rintro⟨i,k1⟩ hP
 simp only[go_sem,List.length_map,WI]
 refine cndC.mk (fun h=>?_) (fun h=>?_)
 ·have hi:i<xs.length:=by simpa using h
  obtain⟨q2,q4,q5⟩:=hP.room hi Jk DRow.c
  have q4:J4 Ey (k1+1) xs[i].l≤J4 FU k xs:=q4
  have hle:=LG Io xs[i].l (k1+1)
  have hneg:decide (J4 Ey (k1+1) xs[i].l<0)=false:=by simp; omega
  rw[DRow.c_eq] at q2
  simp only[mkRow,List.cons_append,List.nil_append] at q2
  simp only[go_sem,q2,bne_self_eq_false,wrap_i64 (n:=k1+1) (by omega) (by omega)]
  refine CallK.mk _ (Uz xs[i].l (k1+1) (by omega) (hx _ (List.getElem_mem hi)) (by omega)) fun _=>?_
  simp only[go_sem,hneg,wrap_i64 (n:=(i:Int)+1) (by omega) (by omega)]
  exact⟨(i+1,FU k1 xs[i]),⟨rfl,rfl⟩,rfl,hP.step hi Jk,by simp only; omega⟩
 ·have hi:i=xs.length:=by have:=hP.1; simp at h; dsimp only at this; omega
  have:=hP.fin hi
  subst this
  simp only[go_sem]
end Go.Proofs.YthoeeoddgkjkkaaGreat
