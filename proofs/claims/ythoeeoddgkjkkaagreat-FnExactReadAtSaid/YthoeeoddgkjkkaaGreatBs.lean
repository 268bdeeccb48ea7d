/- Marks: ints and texts; what a marked slice is. -/
import Derived.Test.YthoeeoddgkjkkaaGreatOa
namespace Go.Proofs.YthoeeoddgkjkkaaGreat
set_option linter.unusedSimpArgs false
set_option linter.unusedVariables false
set_option linter.unusedSimpArgs false
set_option linter.unusedVariables false
open Go.Vm
set_option maxHeartbeats 1000000
set_option maxRecDepth 10000
theorem cloE_map {α:Type} {f:α→List Cl} {l:List α} (h:∀ x,CO (f x)=true):D_ (l.map f)=true:=SX fun x hx=>by
 obtain⟨y,_,rfl⟩:=List.mem_map.1 hx
 exact h y
theorem LJ {N ty sz:Nat} {R:List (List Cl)} {wr live:Bool} (h:D_ R=true):Bh N ⟨ty,sz,R,wr,live⟩=true:=by
 simp only[Bh,Bool.or_eq_true]
 exact .inr (List.all_eq_true.2 fun x hx=>Za (fH (Le h x hx)))
theorem Gq {R:List (List Cl)} {i:Nat} {x:List Cl} (h:D_ R=true) (hx:CO x=true):D_ (R.set i x)=true:=SX fun y hy=>by
 rcases List.mem_or_eq_of_mem_set hy with h' | rfl
 ·exact Le h y h'
 ·exact hx
theorem set_self {R:List (List Cl)} {i:Nat} (hi:i<R.length) (x:List Cl):(R.set i x)[i]?=some x:=by simp[hi]
def aO (ty sz:Nat) (k l l':Int) (cl':List Cl) (rs:List AV):Prop:=∃ (R:List (List Cl)) (k':Int),cl' = [.ow ty sz R]∧rs = [.c (.v (.int .i64 k'))]∧k≤k'∧k'+64*l'≤k+64*l∧D_ R=true
def MkP {α:Type} (f:α→List Cl) (sz:α→Int→Int) (xs:List α) (k l lf:Int) (x:Nat×List (List Cl)×Int×Int):Prop:=
 x.1≤xs.length∧x.2.1.length=xs.length∧(∀ (j:Nat) (h:j<xs.length),x.1≤j→x.2.1[j]?=some (f xs[j]))∧D_ x.2.1=true∧k≤x.2.2.1∧x.2.2.1+64*x.2.2.2≤k+64*(l-xs.length+x.1)∧Ky sz (xs.drop x.1) x.2.2.2=lf∧x.2.2.2≤l
theorem eP {n:Nat} {l:Int} (h:0≤CV n l):CV n l=l-n:=by
 unfold CV at h ⊢
 split at h
 ·omega
 ·rename_i h2; rw[if_neg h2]
theorem MkP.start {α:Type} {f:α→List Cl} {sz:α→Int→Int} {xs:List α} {k l:Int} (hf:∀ x,CO (f x)=true) (h0:0≤A_ sz xs l):MkP f sz xs k l (A_ sz xs l) (0,xs.map f,k,l-xs.length):=by
 obtain⟨s1,s2,s3⟩:=AP h0
 have e:=eP s1
 refine⟨Nat.zero_le _,by simp,fun j h _=>by simp[h],cloE_map hf,Int.le_refl _,by simp only; omega, ?_,by simp only; omega⟩
 simp only[List.drop_zero]
 rw[← e]
 exact s3.symm
theorem MkP.room {α:Type} {f:α→List Cl} {sz:α→Int→Int} {xs:List α} {k l lf:Int} {i:Nat} {R:List (List Cl)} {k1 l1:Int} (h:MkP f sz xs k l lf (i,R,k1,l1)) (hi:i<xs.length) (h0:0≤lf) :
  0≤sz xs[i] l1∧R[i]?=some (f xs[i])∧i<R.length∧k≤k1∧k1+64*l1≤k+64*l-64∧l1≤l:=by
 obtain⟨a1,a2,a3,a4,a5,a6,a7,a8⟩:=h
 dsimp only at *
 rw[List.drop_eq_getElem_cons hi,Ky] at a7
 rw[← a7] at h0
 obtain⟨s1,s2,s3⟩:=AP h0
 exact⟨s1,a3 i hi (Nat.le_refl _),by omega,a5,by omega,a8⟩
theorem MkP.step {α:Type} {f:α→List Cl} {sz:α→Int→Int} {xs:List α} {k l lf:Int} {i:Nat} {R:List (List Cl)} {k1 l1:Int} (h:MkP f sz xs k l lf (i,R,k1,l1)) (hi:i<xs.length) (h0:0≤lf) {row:List Cl} {k2:Int} (hr:CO row=true) (hk:k1≤k2) (hk2:k2+64*sz xs[i] l1≤k1+64*l1+64) (hl:sz xs[i] l1≤l1) :
  MkP f sz xs k l lf (i+1,R.set i row,k2,sz xs[i] l1):=by
 obtain⟨a1,a2,a3,a4,a5,a6,a7,a8⟩:=h
 dsimp only at *
 rw[List.drop_eq_getElem_cons hi,Ky] at a7
 have h0':=h0
 rw[← a7] at h0'
 obtain⟨s1,s2,s3⟩:=AP h0'
 refine⟨hi,by simpa using a2,fun j hj hij=>?_,Gq a4 hr,by simp only; omega,by simp only; omega,by simp only; rw[← s3]; exact a7,by simp only; omega⟩
 simp only at hij ⊢
 rw[List.getElem?_set_ne (by omega)]
 exact a3 j hj (by omega)
theorem MkP.done {α:Type} {f:α→List Cl} {sz:α→Int→Int} {xs:List α} {k l lf:Int} {i:Nat} {R:List (List Cl)} {k1 l1:Int} (ty n:Nat) (h:MkP f sz xs k l lf (i,R,k1,l1)) (hi:i=xs.length):D_ R=true∧aO ty n k l lf [.ow ty n R] [.c (.v (.int .i64 k1))]:=by
 obtain⟨a1,a2,a3,a4,a5,a6,a7,a8⟩:=h
 dsimp only at *
 subst hi
 rw[List.drop_length] at a7
 simp only[Ky] at a7
 exact⟨a4,R,k1,rfl,rfl,a5,by omega,a4⟩
theorem MCtr.mono {P:Program} {f:FuncId} {g:Bool} {cl:List Cl} {args:List AV} {Q Q':List Cl→List AV→Prop} (h:MCtr P f g cl args Q) (hQ:∀ cl' rs,Q cl' rs→Q' cl' rs):MCtr P f g cl args Q':=
 ⟨h.1,h.2.1,fun w St us G vs h1 h2 h3 h4=>(h.2.2 w St us G vs h1 h2 h3 h4).mono fun e w' hb=>by
  obtain⟨cl',rs,rv,G',h0,hr⟩:=hb
  exact⟨cl',rs,rv,G',hQ _ _ h0,hr⟩⟩
def eQ (k:Int) (n:Nat):List Int:=(List.range n).map fun(j:Nat)=>k+(j:Int)
theorem U1 (xs:List Int) (k:Int) (hk:0≤k) (hb:k+xs.length≤1099511627776) :
  MCtr Tryz.prog 79 false [.ow 3 1 (xs.map intC)] [.c (.v (.int .i64 k))] (fun cl' rs=>cl' = [.ow 3 1 ((eQ k xs.length).map intC)]∧rs = [.c (.v (.int .i64 (k+xs.length)))]):=by
 refine MCtr.mk (fn:=Tryz.f79) Tryz.call79 Tryz.func79 rfl mixed Tryz.ntmps79 Tryz.results79 (by kernel_rfl) rfl (.inr rfl) fun us hw0 hw=>?_
 simp only[go_sem]
 refine LoopK.mk 1 [0,1,5] (A:=Nat×List Int) (fun x=>⟨19,[(0,.pin (.c (.ref 0)) (mkV false us)),(1,.c (.v (.int .i64 (k+x.1)))),(5,.c (.v (.int .i64 x.1)))],[⟨3,1,x.2.map intC,true,true⟩]⟩)
  (fun x=>x.1≤xs.length∧x.2.length=xs.length∧∀ j:Nat,j<x.1→x.2[j]?=some (k+(j:Int))) (fun x=>xs.length-x.1) (0,xs) ⟨⟨rfl,by simp only[List.take_succ_cons,List.take_zero,List.all_cons,List.all_nil,Bool.and_true]; exact LJ (cloE_map fun _=>rfl)⟩,by simp[trim,CB],by simp,rfl,fun j hj=>by omega⟩ ?_
 rintro⟨i,ys⟩ ⟨h1,h2,h3⟩
 dsimp only at h1 h2 h3
 simp only[go_sem,List.length_map]
 refine cndC.mk (fun h=>?_) (fun h=>?_)
 ·have hi:i<ys.length:=by simpa using h
  have hset:∀ n:Int,(ys.map intC).set i [Cl.v (.int .i64 n)]=(ys.set i n).map intC:=fun n=>by rw[List.map_set]; rfl
  have e1:(ys.map intC)[i]?=some [.v (.int .i64 ys[i])]:=by simp[hi,intC]
  simp only[go_sem,List.length_map,e1,hi,hset,wrap_i64 (n:=(k+(i:Int))+1) (by omega) (by omega),wrap_i64 (n:=(i:Int)+1) (by omega) (by omega)]
  refine⟨(i+1,ys.set i (k+i)),⟨rfl, ?_⟩, ?_,⟨by simp only; omega,by simp only[List.length_set]; exact h2,fun j hj=>?_⟩,by simp only; omega⟩
  ·simp only[List.take_succ_cons,List.take_zero,List.all_cons,List.all_nil,Bool.and_true]; exact LJ (cloE_map fun _=>rfl)
  ·simp[trim,CB]; omega
  ·simp only at hj ⊢
   rw[List.getElem?_set]
   by_cases e:i=j
   ·subst e; simp[hi]
   ·simp only[e,if_false]; exact h3 j (by omega)
 ·have hi:i=xs.length:=by simp at h; omega
  subst hi
  have:ys=eQ k xs.length:=by
   unfold eQ
   apply List.ext_getElem?
   intro j
   rcases Nat.lt_or_ge j xs.length with hj | hj
   ·rw[h3 j hj]; simp[hj]
   ·rw[List.getElem?_eq_none (by omega),List.getElem?_eq_none (by simpa using hj)]
  subst this
  simp only[go_sem]
  exact⟨[.ref 0],[.ow 3 1 ((eQ k xs.length).map intC)],[.c (.v (.int .i64 (k+xs.length)))],rfl,.inr rfl,⟨rfl,rfl,rfl,rfl,Bj _,by simp,trivial⟩,by simp only[CO,DX,Bool.and_true]; exact cloE_map fun _=>rfl,rfl,rfl,rfl,rfl⟩
def VR:Nat→Int→ByteArray→ByteArray
 | 0,_,out=>out
 | n+1,k,out=>if k>0 then VR n (k.tdiv 10) (strOfNums [IntKind.u8.wrap (48+k.tmod 10)]++out) else out
def Gs (k:Int):ByteArray:=if k≤0 then ByteArray.mk #[109,48] else ByteArray.mk #[109]++VR 19 k (ByteArray.mk #[])
theorem kD (n:Int):(strOfNums [n]).size=1:=by rw[strOfNums_size]; rfl
theorem ES (k:Int) (hk:0≤k) (hb:k≤4000000000000000000):Ctr Tryz.prog 125 [.c (.v (.int .i64 k))] [.val (.c (.v (.string (Gs k))))]:=by
 refine Ctr.mk Tryz.call125 Tryz.func125 rfl mixed Tryz.ntmps125 Tryz.results125 (by kernel_rfl) rfl fun hw=>?_
 by_cases h0:k≤0
 ·simp only[go_sem,h0,Gs]
 ·simp only[go_sem,h0,Gs]
  refine LoopK.mk 0 [0,3] (A:=Nat×Int×ByteArray) (fun x=>⟨20,[(0,.c (.v (.int .i64 x.2.1))),(3,.c (.v (.string x.2.2)))],[]⟩)
   (fun x=>VR x.1 x.2.1 x.2.2=VR 19 k (ByteArray.mk #[])∧0≤x.2.1∧x.2.1.toNat<10 ^ x.1∧x.2.2.size+x.1≤19∧x.2.1≤k) (fun x=>x.1) (19,k,ByteArray.mk #[]) ⟨⟨rfl,rfl⟩,by simp[trim,CB],rfl,hk,by show k.toNat<10 ^ 19; omega,by show _≤_; simp[ByteArray.size],Int.le_refl _⟩ ?_
  rintro⟨n,j,out⟩ ⟨h1,h2,h3,h4,h5⟩
  dsimp only at h1 h2 h3 h4 h5
  simp only[go_sem]
  refine cndC.mk (fun h=>?_) (fun h=>?_)
  ·have hj:0<j:=by simpa using h
   cases n with
   | zero=>simp at h3; omega
   | succ n =>
    have hm1:0≤j.tmod 10:=Int.tmod_nonneg 10 h2
    have hm2:j.tmod 10<10:=Int.tmod_lt_of_pos j (by omega)
    have hd1:0≤j.tdiv 10:=Int.tdiv_nonneg h2 (by omega)
    have hd2:j.tdiv 10≤j:=Int.tdiv_le_self _ h2
    have hd3:(j.tdiv 10).toNat<10 ^ n:=by
     rw[Int.tdiv_eq_ediv_of_nonneg h2]
     rw[Nat.pow_succ] at h3
     omega
    have hb2:j.toNat<10 ^ 19:=Nat.lt_of_lt_of_le h3 (Nat.pow_le_pow_right (by omega) (by omega))
    have h10:((10:Int)=0)=False:=by simp
    have hsz:(strOfNums [IntKind.u8.wrap (48+j.tmod 10)]).size+out.size≤maxLen:=by rw[kD]; simp only[maxLen]; omega
    simp only[go_sem,wrap_i64 (n:=j.tmod 10) (by omega) (by omega),wrap_i64 (n:=48+j.tmod 10) (by omega) (by omega),wrap_i64 (n:=j.tdiv 10) (by omega) (by omega),hsz,h10,Option.getD_some]
    refine⟨(n,j.tdiv 10,_),⟨rfl,rfl⟩,rfl,⟨?_,hd1,hd3, ?_,by simp only; omega⟩,by simp only; omega⟩
    ·rw[← h1]
     show _=if j>0 then _ else _
     rw[if_pos hj]
    ·simp only[ByteArray.size_append,kD]; omega
  ·have hj:j=0:=by simp at h; omega
   subst hj
   have hd:∀ n out,VR n 0 out=out:=fun n out=>by cases n<;>rfl
   rw[hd] at h1
   have hsz:(#[109]:Array UInt8).size+(VR 19 k (ByteArray.mk #[])).size≤maxLen:=by rw[← h1]; show 1+_≤9223372036854775807; omega
   simp only[go_sem,h1,hsz]
theorem kE {α:Type}:∀ (xs:List α) (l:Int),0≤l→Ky (fun _ l=>l) xs l=l
 | [],l,_=>rfl
 | x::xs,l,h=>by
  simp only[Ky]
  rw[J6 (by omega)]
  exact kE xs l h
theorem aP {α:Type} (xs:List α) (l:Int) (h:0≤CV xs.length l):A_ (fun _ l=>l) xs l=CV xs.length l:=by
 unfold A_
 rw[J6 (by omega)]
 exact kE xs _ h
theorem Ba {N ty sz:Nat} {R:List (List Cl)} {wr live:Bool} (h:D_ R=true) : [(⟨ty,sz,R,wr,live⟩:Ob)].all (Bh N)=true:=by
 simp only[List.all_cons,List.all_nil,Bool.and_true]
 exact LJ h
theorem Gf (xs:List Int) (k:Int) (hk:0≤k) (l:Int) (h0:0≤CV xs.length l) (hl:l≤1048576) (hb:k+64*l≤1099511627776) :
  MCtr Tryz.prog 79 false [.ow 3 1 (xs.map intC)] [.c (.v (.int .i64 k))] (aO 3 1 k l (CV xs.length l)):=by
 have e:=eP h0
 refine MCtr.mono (U1 xs k hk (by omega)) fun cl' rs h=>?_
 obtain⟨rfl,rfl⟩:=h
 exact⟨_,_,rfl,rfl,by omega,by omega,cloE_map fun _=>rfl⟩
end Go.Proofs.YthoeeoddgkjkkaaGreat
/- The laws' marks: by program (gen_data.py). -/
namespace Go.Proofs.YthoeeoddgkjkkaaGreat
set_option linter.unusedSimpArgs false
set_option linter.unusedVariables false
open Go.Vm
set_option maxHeartbeats 2000000
set_option maxRecDepth 10000
theorem eU (l:List Int):D_ (l.map intC)=true:=cloE_map fun _=>rfl
theorem kF (l:List Int):D_ (l.map byteC)=true:=cloE_map fun _=>rfl
theorem Ol (l:List DVal):D_ (l.map DVal.c)=true:=cloE_map fun _=>rfl
theorem LK (d:DRow):CO d.o=true:=by
 rw[DRow.o_eq]
 simp[CO,DX,Ol]
theorem SG (l:List DRow):D_ (l.map DRow.o)=true:=cloE_map LK
theorem LM:∀ (n:Nat) (d:DPred),SizeOf.sizeOf d≤n→CO d.o=true
 | 0,d,h=>by cases d; simp at h
 | n+1,d,h=>by
  have hm:D_ (d.l.map DPred.o)=true:=SX fun y hy=>by
   obtain⟨x,hx,rfl⟩:=List.mem_map.1 hy
   refine LM n x ?_
   have h1:SizeOf.sizeOf x<SizeOf.sizeOf d.l:=List.sizeOf_lt_of_mem hx
   have h2:SizeOf.sizeOf d.l<SizeOf.sizeOf d:=by cases d; simp[DPred.l]; omega
   omega
  rw[DPred.o_eq]
  simp[CO,DX,hm,DVal.c_eq]
theorem QE (d:DPred):CO d.o=true:=LM _ d (Nat.le_refl _)
theorem YP (l:List DPred):D_ (l.map DPred.o)=true:=cloE_map QE
theorem Qo (d:DResult):CO d.o=true:=by
 rw[DResult.o_eq]
 simp[CO,DX,DVal.c_eq,SG]
theorem QF (d:DSlot):CO d.o=true:=by
 rw[DSlot.o_eq]
 simp[CO,DX,Ol]
theorem kG (l:List DSlot):D_ (l.map DSlot.o)=true:=cloE_map QF
theorem YQ (d:DBuf):CO d.o=true:=by
 rw[DBuf.o_eq]
 simp[CO,DX,DChunk.o_eq,kG,kF]
theorem nT (l:List DRef):D_ (l.map DRef.c)=true:=cloE_map fun _=>rfl
theorem VS (d:DTask):CO d.o=true:=by
 rw[DTask.o_eq]
 simp[CO,DX,DPred.o_eq,DQuery.o_eq,DVal.c_eq,YP,nT,SG,Ol,eU]
theorem VT (d:DDeed):CO d.o=true:=by
 rw[DDeed.o_eq]
 simp[CO,DX,DPred.o_eq,DQuery.o_eq,DResult.o_eq,DVal.c_eq,YP,SG,Ol,eU]
theorem WJ (xs:List Int) (k:Int) (hk:0≤k) (l:Int) (h0:0≤CV xs.length l) (hl:l≤1048576) (hb:k+64*l≤1099511627776):MCtr Tryz.prog 124 false [.ow 5 1 (xs.map byteC)] [.c (.v (.int .i64 k))] (aO 5 1 k l (CV xs.length l)):=by
 have hsz:=aP xs l h0
 rw[← hsz] at h0 ⊢
 have hxl:=(Au (AP h0).1 hl).1
 refine MCtr.mk (fn:=Tryz.f124) Tryz.call124 Tryz.func124 rfl mixed Tryz.ntmps124 Tryz.results124 (by kernel_rfl) rfl (.inr rfl) fun us hw0 hw=>?_
 simp only[go_sem]
 refine LoopK.mk 1 [0,1,5] (A:=Nat×List (List Cl)×Int×Int) (fun x=>⟨20,[(0,.pin (.c (.ref 0)) (mkV false us)),(1,.c (.v (.int .i64 x.2.2.1))),(5,.c (.v (.int .i64 x.1)))],[⟨5,1,x.2.1,true,true⟩]⟩)
  (MkP byteC (fun _ l=>l) xs k l (A_ (fun _ l=>l) xs l)) (fun x=>xs.length-x.1) (0,xs.map byteC,k,l-xs.length) ⟨⟨rfl,Ba (cloE_map fun d=>rfl)⟩,rfl,MkP.start (fun d=>rfl) h0⟩ ?_
 rintro⟨i,R,k1,l1⟩ hP
 have hn:=hP.2.1
 dsimp only at hn
 simp only[go_sem,hn]
 refine cndC.mk (fun h=>?_) (fun h=>?_)
 ·have hi:i<xs.length:=by simpa using h
  obtain⟨q1,q2,q3,q4,q5,q6⟩:=hP.room hi h0
  try dsimp only at q1
  have hset:=set_self (R:=R) (i:=i) q3
  rw[Jl] at q2
  simp only[go_sem,q2,q3,hset,List.set_set,List.length_set,wrap_i64 (n:=k1+1) (by omega) (by omega),wrap_i64 (n:=(i:Int)+1) (by omega) (by omega)]
  refine⟨(i+1,R.set i ?row,k1+1,l1),⟨rfl, ?tr⟩, ?eq, ?P, ?mu⟩
  case eq=>exact rfl
  case mu=>simp only; omega
  case P=>exact hP.step hi h0 rfl (by omega) (by omega) (Int.le_refl _)
  case tr=>exact Ba (Gq hP.2.2.2.1 rfl)
 ·have hi:i=xs.length:=by have:=hP.1; simp at h; dsimp only at this; omega
  obtain⟨y1,y2⟩:=hP.done 5 1 hi
  simp only[go_sem]
  exact⟨[.ref 0],[.ow 5 1 R],[.c (.v (.int .i64 k1))],rfl,.inr rfl,⟨rfl,rfl,rfl,rfl,BC y1,by simp,trivial⟩,by simp only[CO,DX,y1,Bool.and_true],rfl,rfl,y2⟩
theorem JE (xs:List DVal) (k:Int) (hk:0≤k) (l:Int) (h0:0≤(A_ AZ xs l)) (hl:l≤1048576) (hb:k+64*l≤1099511627776):MCtr Tryz.prog 83 false [.ow 72 3 (xs.map DVal.c)] [.c (.v (.int .i64 k))] (aO 72 3 k l (A_ AZ xs l)):=by
 have hxl:=(Au (AP h0).1 hl).1
 refine MCtr.mk (fn:=Tryz.f83) Tryz.call83 Tryz.func83 rfl mixed Tryz.ntmps83 Tryz.results83 (by kernel_rfl) rfl (.inr rfl) fun us hw0 hw=>?_
 simp only[go_sem]
 refine LoopK.mk 1 [0,1,5] (A:=Nat×List (List Cl)×Int×Int) (fun x=>⟨35,[(0,.pin (.c (.ref 0)) (mkV false us)),(1,.c (.v (.int .i64 x.2.2.1))),(5,.c (.v (.int .i64 x.1)))],[⟨72,3,x.2.1,true,true⟩]⟩)
  (MkP DVal.c AZ xs k l (A_ AZ xs l)) (fun x=>xs.length-x.1) (0,xs.map DVal.c,k,l-xs.length) ⟨⟨rfl,Ba (cloE_map fun d=>by rfl)⟩,rfl,MkP.start (fun d=>rfl) h0⟩ ?_
 rintro⟨i,R,k1,l1⟩ hP
 have hn:=hP.2.1
 dsimp only at hn
 simp only[go_sem,hn]
 refine cndC.mk (fun h=>?_) (fun h=>?_)
 ·have hi:i<xs.length:=by simpa using h
  obtain⟨q1,q2,q3,q4,q5,q6⟩:=hP.room hi h0
  have q7:=(CZ xs[i] l1 q1 (by omega)).2
  have d1:=q1
  rw[Di] at d1
  obtain⟨a1_0,b1_0,e1_0⟩:=AP d1
  have w1_0:=(Au a1_0 (by omega)).2
  have P9:AZ xs[i] l1=(CV xs[i].s.size l1):=(Di xs[i] l1).trans (e1_0)
  have hset:=set_self (R:=R) (i:=i) q3
  rw[DVal.c_eq] at q2
  have h30:((3:Int)=0)=False:=by simp
  simp only[go_sem,q2,q3,hset,List.set_set,List.length_set,h30,wrap_i64 (n:=k1+1) (by omega) (by omega),wrap_i64 (n:=k1+1+1) (by omega) (by omega),wrap_i64 (n:=(i:Int)+1) (by omega) (by omega)]
  refine CallK.mk _ (ES (k1+1+1) (by omega) (by omega)) fun _=>?_
  simp only[go_sem,q2,q3,hset,List.set_set,List.length_set,h30,wrap_i64 (n:=k1+1) (by omega) (by omega),wrap_i64 (n:=k1+1+1) (by omega) (by omega),wrap_i64 (n:=k1+1+1+1) (by omega) (by omega),wrap_i64 (n:=(i:Int)+1) (by omega) (by omega)]
  refine⟨(i+1,R.set i [.v (.int .i64 (k1)),.v (.int .i64 (k1+1)),.v (.string (Gs (k1+1+1)))],k1+1+1+1,AZ xs[i] l1),⟨rfl, ?tr⟩, ?eq, ?P, ?mu⟩
  case eq=>exact rfl
  case mu=>simp only; omega
  case P=>exact hP.step hi h0 (by simp only[CO,DX,Bool.and_true,Bool.true_and]) (by omega) (by omega) q7
  case tr=>exact Ba (Gq hP.2.2.2.1 (by simp only[CO,DX,Bool.and_true,Bool.true_and]))
 ·have hi:i=xs.length:=by have:=hP.1; simp at h; dsimp only at this; omega
  obtain⟨y1,y2⟩:=hP.done 72 3 hi
  simp only[go_sem]
  exact⟨[.ref 0],[.ow 72 3 R],[.c (.v (.int .i64 k1))],rfl,.inr rfl,⟨rfl,rfl,rfl,rfl,BC y1,by simp,trivial⟩,by simp only[CO,DX,y1,Bool.and_true],rfl,rfl,y2⟩
theorem Qp (xs:List DRow) (k:Int) (hk:0≤k) (l:Int) (h0:0≤(A_ DY xs l)) (hl:l≤1048576) (hb:k+64*l≤1099511627776):MCtr Tryz.prog 23 false [.ow 121 2 (xs.map DRow.o)] [.c (.v (.int .i64 k))] (aO 121 2 k l (A_ DY xs l)):=by
 have hxl:=(Au (AP h0).1 hl).1
 refine MCtr.mk (fn:=Tryz.f23) Tryz.call23 Tryz.func23 rfl mixed Tryz.ntmps23 Tryz.results23 (by kernel_rfl) rfl (.inr rfl) fun us hw0 hw=>?_
 simp only[go_sem]
 refine LoopA.mk 1 0 [0,1,5] (A:=Nat×List (List Cl)×Int×Int) (fun x=>⟨27,[(0,.pin (.c (.ref 0)) (mkV false us)),(1,.c (.v (.int .i64 x.2.2.1))),(5,.c (.v (.int .i64 x.1)))],[⟨121,2,x.2.1,true,true⟩]⟩)
  (MkP DRow.o DY xs k l (A_ DY xs l)) (fun x=>xs.length-x.1) (0,xs.map DRow.o,k,l-xs.length) ⟨⟨rfl,Ba (cloE_map fun d=>by exact LK d)⟩,rfl,MkP.start (fun d=>LK d) h0⟩ ?_
 rintro⟨i,R,k1,l1⟩ hP
 have hn:=hP.2.1
 dsimp only at hn
 simp only[go_sem,hn]
 refine cndC.mk (fun h=>?_) (fun h=>?_)
 ·have hi:i<xs.length:=by simpa using h
  obtain⟨q1,q2,q3,q4,q5,q6⟩:=hP.room hi h0
  have q7:=(Jn xs[i] l1 q1 (by omega)).2
  have d1:=q1
  rw[Ot] at d1
  obtain⟨a1_0,b1_0,e1_0⟩:=AP d1
  have w1_0:=(CQ xs[i].l (fun x _=>CZ x) a1_0 (by omega)).2
  have P9:DY xs[i] l1=(A_ AZ xs[i].l l1):=(Ot xs[i] l1).trans (e1_0)
  have hset:=set_self (R:=R) (i:=i) q3
  rw[DRow.o_eq] at q2
  have h30:((3:Int)=0)=False:=by simp
  simp only[go_sem,q2,q3,hset,List.set_set,List.length_set,h30,wrap_i64 (n:=k1+1) (by omega) (by omega),wrap_i64 (n:=(i:Int)+1) (by omega) (by omega)]
  refine MutK.mk false (zs:=[.ref 1]) (JE xs[i].l (k1+1) (by omega) l1 a1_0 (by omega) (by omega)) rfl ⟨rfl,rfl,rfl,rfl,Bl _,by simp,trivial⟩ rfl (.inr rfl) fun cl' rs hM=>?_
  obtain⟨R1,m1,rfl,rfl,g1_1,g1_2,g1_3⟩:=hM
  refine⟨⟨rfl,⟨rfl,rfl⟩,trivial⟩, ?_⟩
  simp only[go_sem,q2,q3,hset,List.set_set,List.length_set,h30,wrap_i64 (n:=k1+1) (by omega) (by omega),wrap_i64 (n:=(i:Int)+1) (by omega) (by omega)]
  refine⟨(i+1,R.set i [.v (.int .i64 (k1)),.ow 72 3 R1],m1,DY xs[i] l1),.inr ⟨i,R, ?rowr,[.v (.int .i64 (k1)),.ow 72 3 R1], ?ob,⟨Nat.zero_lt_one, ?e1, ?e2,q3, ?e3⟩, ?own,⟨rfl, ?tr⟩, ?eq⟩, ?P, ?mu⟩
  case e1=>exact rfl
  case e2=>exact rfl
  case e3=>exact rfl
  case own=>exact⟨rfl,rfl,rfl,rfl,rfl,rfl,BC g1_3,by simp,fun l hl=>by omega⟩
  case eq=>exact rfl
  case mu=>simp only; omega
  case P=>exact hP.step hi h0 (by simp only[CO,DX,Bool.and_true,Bool.true_and,g1_3]) (by omega) (by omega) q7
  case tr=>exact Ba (Gq hP.2.2.2.1 (by simp only[CO,DX,Bool.and_true,Bool.true_and,g1_3]))
 ·have hi:i=xs.length:=by have:=hP.1; simp at h; dsimp only at this; omega
  obtain⟨y1,y2⟩:=hP.done 121 2 hi
  simp only[go_sem]
  exact⟨[.ref 0],[.ow 121 2 R],[.c (.v (.int .i64 k1))],rfl,.inr rfl,⟨rfl,rfl,rfl,rfl,BC y1,by simp,trivial⟩,by simp only[CO,DX,y1,Bool.and_true],rfl,rfl,y2⟩
theorem Om (xs:List DPred) (hx:∀ x∈xs,∀ k l,0≤k→0≤A_ Ae x.l l→l≤1048576→k+64*l≤1099511627776→MCtr Tryz.prog 126 false [.ow 78 7 (x.l.map DPred.o)] [.c (.v (.int .i64 k))] (aO 78 7 k l (A_ Ae x.l l))) (k:Int) (hk:0≤k) (l:Int) (h0:0≤(A_ Ae xs l)) (hl:l≤1048576) (hb:k+64*l≤1099511627776):MCtr Tryz.prog 126 false [.ow 78 7 (xs.map DPred.o)] [.c (.v (.int .i64 k))] (aO 78 7 k l (A_ Ae xs l)):=by
 have hxl:=(Au (AP h0).1 hl).1
 refine MCtr.mk (fn:=Tryz.f126) Tryz.call126 Tryz.func126 rfl mixed Tryz.ntmps126 Tryz.results126 (by kernel_rfl) rfl (.inr rfl) fun us hw0 hw=>?_
 simp only[go_sem]
 refine LoopA.mk 1 0 [0,1,5] (A:=Nat×List (List Cl)×Int×Int) (fun x=>⟨66,[(0,.pin (.c (.ref 0)) (mkV false us)),(1,.c (.v (.int .i64 x.2.2.1))),(5,.c (.v (.int .i64 x.1)))],[⟨78,7,x.2.1,true,true⟩]⟩)
  (MkP DPred.o Ae xs k l (A_ Ae xs l)) (fun x=>xs.length-x.1) (0,xs.map DPred.o,k,l-xs.length) ⟨⟨rfl,Ba (cloE_map fun d=>by exact QE d)⟩,rfl,MkP.start (fun d=>QE d) h0⟩ ?_
 rintro⟨i,R,k1,l1⟩ hP
 have hn:=hP.2.1
 dsimp only at hn
 simp only[go_sem,hn]
 refine cndC.mk (fun h=>?_) (fun h=>?_)
 ·have hi:i<xs.length:=by simpa using h
  obtain⟨q1,q2,q3,q4,q5,q6⟩:=hP.room hi h0
  have q7:=(ET xs[i] l1 q1 (by omega)).2
  have d1:=q1
  rw[ED] at d1
  obtain⟨a1_0,b1_0,e1_0⟩:=AP d1
  have w1_0:=(CZ xs[i].v _ a1_0 (by omega)).2
  have d2:=a1_0
  rw[Di] at d2
  obtain⟨a2_0,b2_0,e2_0⟩:=AP d2
  have w2_0:=(Au a2_0 (by omega)).2
  have eq2:AZ xs[i].v l1=(CV xs[i].v.s.size l1):=(Di xs[i].v l1).trans (e2_0)
  obtain⟨a1_1,b1_1,e1_1⟩:=AP b1_0
  have w1_1:=(CQ xs[i].l (fun x _=>ET x) a1_1 (by omega)).2
  have P9:Ae xs[i] l1=(A_ Ae xs[i].l (AZ xs[i].v l1)):=(ED xs[i] l1).trans ((e1_0).trans (e1_1))
  have hset:=set_self (R:=R) (i:=i) q3
  rw[DPred.o_eq] at q2
  simp only[DVal.c_eq,List.cons_append,List.nil_append] at q2
  have h30:((3:Int)=0)=False:=by simp
  simp only[go_sem,q2,q3,hset,List.set_set,List.length_set,h30,wrap_i64 (n:=k1+1) (by omega) (by omega),wrap_i64 (n:=k1+1+1) (by omega) (by omega),wrap_i64 (n:=k1+1+1+1) (by omega) (by omega),wrap_i64 (n:=k1+1+1+1+1) (by omega) (by omega),wrap_i64 (n:=k1+1+1+1+1+1) (by omega) (by omega),wrap_i64 (n:=(i:Int)+1) (by omega) (by omega)]
  refine CallK.mk _ (ES (k1+1+1+1+1+1) (by omega) (by omega)) fun _=>?_
  simp only[go_sem,q2,q3,hset,List.set_set,List.length_set,h30,wrap_i64 (n:=k1+1) (by omega) (by omega),wrap_i64 (n:=k1+1+1) (by omega) (by omega),wrap_i64 (n:=k1+1+1+1) (by omega) (by omega),wrap_i64 (n:=k1+1+1+1+1) (by omega) (by omega),wrap_i64 (n:=k1+1+1+1+1+1) (by omega) (by omega),wrap_i64 (n:=k1+1+1+1+1+1+1) (by omega) (by omega),wrap_i64 (n:=(i:Int)+1) (by omega) (by omega)]
  refine MutK.mk false (zs:=[.ref 1]) (hx xs[i] (List.getElem_mem hi) (k1+1+1+1+1+1+1) (AZ xs[i].v l1) (by omega) a1_1 (by omega) (by omega)) rfl ⟨rfl,rfl,rfl,rfl,Gu _,by simp,trivial⟩ rfl (.inr rfl) fun cl' rs hM=>?_
  obtain⟨R1,m1,rfl,rfl,g1_1,g1_2,g1_3⟩:=hM
  refine⟨⟨rfl,⟨rfl,rfl⟩,trivial⟩, ?_⟩
  simp only[go_sem,q2,q3,hset,List.set_set,List.length_set,h30,wrap_i64 (n:=k1+1) (by omega) (by omega),wrap_i64 (n:=k1+1+1) (by omega) (by omega),wrap_i64 (n:=k1+1+1+1) (by omega) (by omega),wrap_i64 (n:=k1+1+1+1+1) (by omega) (by omega),wrap_i64 (n:=k1+1+1+1+1+1) (by omega) (by omega),wrap_i64 (n:=k1+1+1+1+1+1+1) (by omega) (by omega),wrap_i64 (n:=(i:Int)+1) (by omega) (by omega)]
  refine⟨(i+1,R.set i [.v (.int .i64 (k1)),.v (.int .i64 (k1+1)),.v (.int .i64 (k1+1+1)),.v (.int .i64 (k1+1+1+1)),.v (.int .i64 (k1+1+1+1+1)),.v (.string (Gs (k1+1+1+1+1+1))),.ow 78 7 R1],m1,Ae xs[i] l1),.inr ⟨i,R, ?rowr,[.v (.int .i64 (k1)),.v (.int .i64 (k1+1)),.v (.int .i64 (k1+1+1)),.v (.int .i64 (k1+1+1+1)),.v (.int .i64 (k1+1+1+1+1)),.v (.string (Gs (k1+1+1+1+1+1))),.ow 78 7 R1], ?ob,⟨Nat.zero_lt_one, ?e1, ?e2,q3, ?e3⟩, ?own,⟨rfl, ?tr⟩, ?eq⟩, ?P, ?mu⟩
  case e1=>exact rfl
  case e2=>exact rfl
  case e3=>exact rfl
  case own=>exact⟨rfl,rfl,rfl,rfl,rfl,rfl,rfl,rfl,rfl,rfl,rfl,rfl,rfl,rfl,rfl,rfl,BC g1_3,by simp,fun l hl=>by omega⟩
  case eq=>exact rfl
  case mu=>simp only; omega
  case P=>exact hP.step hi h0 (by simp only[CO,DX,Bool.and_true,Bool.true_and,g1_3]) (by omega) (by omega) q7
  case tr=>exact Ba (Gq hP.2.2.2.1 (by simp only[CO,DX,Bool.and_true,Bool.true_and,g1_3]))
 ·have hi:i=xs.length:=by have:=hP.1; simp at h; dsimp only at this; omega
  obtain⟨y1,y2⟩:=hP.done 78 7 hi
  simp only[go_sem]
  exact⟨[.ref 0],[.ow 78 7 R],[.c (.v (.int .i64 k1))],rfl,.inr rfl,⟨rfl,rfl,rfl,rfl,BC y1,by simp,trivial⟩,by simp only[CO,DX,y1,Bool.and_true],rfl,rfl,y2⟩
theorem LP:∀ (n:Nat) (xs:List DPred),(∀ x∈xs,SizeOf.sizeOf x≤n)→∀ (k l:Int),0≤k→0≤A_ Ae xs l→l≤1048576→k+64*l≤1099511627776→MCtr Tryz.prog 126 false [.ow 78 7 (xs.map DPred.o)] [.c (.v (.int .i64 k))] (aO 78 7 k l (A_ Ae xs l))
 | 0,xs,h,k,l,h1,h2,h3,h4=>Om xs (fun x hx=>by have:=h x hx; cases x; simp at this) k h1 l h2 h3 h4
 | n+1,xs,h,k,l,h1,h2,h3,h4=>Om xs (fun x hx k l g1 g2 g3 g4=>LP n x.l (fun y hy=>by
   have h1:SizeOf.sizeOf y<SizeOf.sizeOf x.l:=List.sizeOf_lt_of_mem hy
   have h2:SizeOf.sizeOf x.l<SizeOf.sizeOf x:=by cases x; simp[DPred.l]; omega
   have:=h x hx
   omega) k l g1 g2 g3 g4) k h1 l h2 h3 h4
theorem J5 (xs:List DPred) (k:Int) (hk:0≤k) (l:Int) (h0:0≤(A_ Ae xs l)) (hl:l≤1048576) (hb:k+64*l≤1099511627776):MCtr Tryz.prog 126 false [.ow 78 7 (xs.map DPred.o)] [.c (.v (.int .i64 k))] (aO 78 7 k l (A_ Ae xs l)):=LP (SizeOf.sizeOf xs) xs (fun x hx=>Nat.le_of_lt (List.sizeOf_lt_of_mem hx)) k l hk h0 hl hb
theorem WL (xs:List DSlot) (k:Int) (hk:0≤k) (l:Int) (h0:0≤(A_ Dl xs l)) (hl:l≤1048576) (hb:k+64*l≤1099511627776):MCtr Tryz.prog 123 false [.ow 162 2 (xs.map DSlot.o)] [.c (.v (.int .i64 k))] (aO 162 2 k l (A_ Dl xs l)):=by
 have hxl:=(Au (AP h0).1 hl).1
 refine MCtr.mk (fn:=Tryz.f123) Tryz.call123 Tryz.func123 rfl mixed Tryz.ntmps123 Tryz.results123 (by kernel_rfl) rfl (.inr rfl) fun us hw0 hw=>?_
 simp only[go_sem]
 refine LoopA.mk 1 0 [0,1,5] (A:=Nat×List (List Cl)×Int×Int) (fun x=>⟨27,[(0,.pin (.c (.ref 0)) (mkV false us)),(1,.c (.v (.int .i64 x.2.2.1))),(5,.c (.v (.int .i64 x.1)))],[⟨162,2,x.2.1,true,true⟩]⟩)
  (MkP DSlot.o Dl xs k l (A_ Dl xs l)) (fun x=>xs.length-x.1) (0,xs.map DSlot.o,k,l-xs.length) ⟨⟨rfl,Ba (cloE_map fun d=>by exact QF d)⟩,rfl,MkP.start (fun d=>QF d) h0⟩ ?_
 rintro⟨i,R,k1,l1⟩ hP
 have hn:=hP.2.1
 dsimp only at hn
 simp only[go_sem,hn]
 refine cndC.mk (fun h=>?_) (fun h=>?_)
 ·have hi:i<xs.length:=by simpa using h
  obtain⟨q1,q2,q3,q4,q5,q6⟩:=hP.room hi h0
  have q7:=(Ny xs[i] l1 q1 (by omega)).2
  have d1:=q1
  rw[ML] at d1
  obtain⟨a1_0,b1_0,e1_0⟩:=AP d1
  have w1_0:=(CQ xs[i].l (fun x _=>CZ x) a1_0 (by omega)).2
  have P9:Dl xs[i] l1=(A_ AZ xs[i].l l1):=(ML xs[i] l1).trans (e1_0)
  have hset:=set_self (R:=R) (i:=i) q3
  rw[DSlot.o_eq] at q2
  have h30:((3:Int)=0)=False:=by simp
  simp only[go_sem,q2,q3,hset,List.set_set,List.length_set,h30,wrap_i64 (n:=k1+1) (by omega) (by omega),wrap_i64 (n:=(i:Int)+1) (by omega) (by omega)]
  refine MutK.mk false (zs:=[.ref 1]) (JE xs[i].l (k1+1) (by omega) l1 a1_0 (by omega) (by omega)) rfl ⟨rfl,rfl,rfl,rfl,Bl _,by simp,trivial⟩ rfl (.inr rfl) fun cl' rs hM=>?_
  obtain⟨R1,m1,rfl,rfl,g1_1,g1_2,g1_3⟩:=hM
  refine⟨⟨rfl,⟨rfl,rfl⟩,trivial⟩, ?_⟩
  simp only[go_sem,q2,q3,hset,List.set_set,List.length_set,h30,wrap_i64 (n:=k1+1) (by omega) (by omega),wrap_i64 (n:=(i:Int)+1) (by omega) (by omega)]
  refine⟨(i+1,R.set i [.v (.int .i64 (k1)),.ow 72 3 R1],m1,Dl xs[i] l1),.inr ⟨i,R, ?rowr,[.v (.int .i64 (k1)),.ow 72 3 R1], ?ob,⟨Nat.zero_lt_one, ?e1, ?e2,q3, ?e3⟩, ?own,⟨rfl, ?tr⟩, ?eq⟩, ?P, ?mu⟩
  case e1=>exact rfl
  case e2=>exact rfl
  case e3=>exact rfl
  case own=>exact⟨rfl,rfl,rfl,rfl,rfl,rfl,BC g1_3,by simp,fun l hl=>by omega⟩
  case eq=>exact rfl
  case mu=>simp only; omega
  case P=>exact hP.step hi h0 (by simp only[CO,DX,Bool.and_true,Bool.true_and,g1_3]) (by omega) (by omega) q7
  case tr=>exact Ba (Gq hP.2.2.2.1 (by simp only[CO,DX,Bool.and_true,Bool.true_and,g1_3]))
 ·have hi:i=xs.length:=by have:=hP.1; simp at h; dsimp only at this; omega
  obtain⟨y1,y2⟩:=hP.done 162 2 hi
  simp only[go_sem]
  exact⟨[.ref 0],[.ow 162 2 R],[.c (.v (.int .i64 k1))],rfl,.inr rfl,⟨rfl,rfl,rfl,rfl,BC y1,by simp,trivial⟩,by simp only[CO,DX,y1,Bool.and_true],rfl,rfl,y2⟩
theorem YR (xs:List DBuf) (k:Int) (hk:0≤k) (l:Int) (h0:0≤(A_ DC xs l)) (hl:l≤1048576) (hb:k+64*l≤1099511627776):MCtr Tryz.prog 78 false [.ow 101 5 (xs.map DBuf.o)] [.c (.v (.int .i64 k))] (aO 101 5 k l (A_ DC xs l)):=by
 have hxl:=(Au (AP h0).1 hl).1
 refine MCtr.mk (fn:=Tryz.f78) Tryz.call78 Tryz.func78 rfl mixed Tryz.ntmps78 Tryz.results78 (by kernel_rfl) rfl (.inr rfl) fun us hw0 hw=>?_
 simp only[go_sem]
 refine LoopA.mk 1 0 [0,1,5] (A:=Nat×List (List Cl)×Int×Int) (fun x=>⟨50,[(0,.pin (.c (.ref 0)) (mkV false us)),(1,.c (.v (.int .i64 x.2.2.1))),(5,.c (.v (.int .i64 x.1)))],[⟨101,5,x.2.1,true,true⟩]⟩)
  (MkP DBuf.o DC xs k l (A_ DC xs l)) (fun x=>xs.length-x.1) (0,xs.map DBuf.o,k,l-xs.length) ⟨⟨rfl,Ba (cloE_map fun d=>by exact YQ d)⟩,rfl,MkP.start (fun d=>YQ d) h0⟩ ?_
 rintro⟨i,R,k1,l1⟩ hP
 have hn:=hP.2.1
 dsimp only at hn
 simp only[go_sem,hn]
 refine cndC.mk (fun h=>?_) (fun h=>?_)
 ·have hi:i<xs.length:=by simpa using h
  obtain⟨q1,q2,q3,q4,q5,q6⟩:=hP.room hi h0
  have q7:=(QG xs[i] l1 q1 (by omega)).2
  have d1:=q1
  rw[Ou] at d1
  obtain⟨a1_0,b1_0,e1_0⟩:=AP d1
  have w1_0:=(Qu xs[i].c0 _ a1_0 (by omega)).2
  have d2:=a1_0
  rw[J7] at d2
  obtain⟨a2_0,b2_0,e2_0⟩:=AP d2
  have w2_0:=(CQ xs[i].c0.l (fun x _=>Ny x) a2_0 (by omega)).2
  have eq2:Fg xs[i].c0 l1=(A_ Dl xs[i].c0.l l1):=(J7 xs[i].c0 l1).trans (e2_0)
  obtain⟨a1_1,b1_1,e1_1⟩:=AP b1_0
  have w1_1:=(Au a1_1 (by omega)).2
  have P9:DC xs[i] l1=(CV xs[i].g.length (Fg xs[i].c0 l1)):=(Ou xs[i] l1).trans ((e1_0).trans (e1_1))
  have hset:=set_self (R:=R) (i:=i) q3
  rw[DBuf.o_eq] at q2
  simp only[DChunk.o_eq,List.cons_append,List.nil_append] at q2
  have h30:((3:Int)=0)=False:=by simp
  simp only[go_sem,q2,q3,hset,List.set_set,List.length_set,h30,wrap_i64 (n:=k1+1) (by omega) (by omega),wrap_i64 (n:=k1+1+1) (by omega) (by omega),wrap_i64 (n:=k1+1+1+1) (by omega) (by omega),wrap_i64 (n:=(i:Int)+1) (by omega) (by omega)]
  refine MutK.mk false (zs:=[.ref 1]) (WL xs[i].c0.l (k1+1+1+1) (by omega) l1 a2_0 (by omega) (by omega)) rfl ⟨rfl,rfl,rfl,rfl,Wu _,by simp,trivial⟩ rfl (.inr rfl) fun cl' rs hM=>?_
  obtain⟨R1,m1,rfl,rfl,g1_1,g1_2,g1_3⟩:=hM
  refine⟨⟨rfl,⟨rfl,rfl⟩,trivial⟩, ?_⟩
  simp only[go_sem,q2,q3,hset,List.set_set,List.length_set,h30,wrap_i64 (n:=k1+1) (by omega) (by omega),wrap_i64 (n:=k1+1+1) (by omega) (by omega),wrap_i64 (n:=k1+1+1+1) (by omega) (by omega),wrap_i64 (n:=(i:Int)+1) (by omega) (by omega)]
  refine MutK.mk false (zs:=[.ref 2]) (WJ xs[i].g (m1) (by omega) (Fg xs[i].c0 l1) a1_1 (by omega) (by omega)) rfl ⟨rfl,rfl,rfl,rfl,Bz _,by simp,trivial⟩ rfl (.inr rfl) fun cl' rs hM=>?_
  obtain⟨R2,m2,rfl,rfl,g2_1,g2_2,g2_3⟩:=hM
  refine⟨⟨rfl,⟨rfl,rfl⟩,trivial⟩, ?_⟩
  simp only[go_sem,q2,q3,hset,List.set_set,List.length_set,h30,wrap_i64 (n:=k1+1) (by omega) (by omega),wrap_i64 (n:=k1+1+1) (by omega) (by omega),wrap_i64 (n:=k1+1+1+1) (by omega) (by omega),wrap_i64 (n:=(i:Int)+1) (by omega) (by omega)]
  refine⟨(i+1,R.set i [.v (.int .i64 (k1)),.v (.int .i64 (k1+1)),.v (.int .i64 (k1+1+1)),.ow 162 2 R1,.ow 5 1 R2],m2,DC xs[i] l1),.inr ⟨i,R, ?rowr,[.v (.int .i64 (k1)),.v (.int .i64 (k1+1)),.v (.int .i64 (k1+1+1)),.ow 162 2 R1,.ow 5 1 R2], ?ob,⟨Nat.zero_lt_one, ?e1, ?e2,q3, ?e3⟩, ?own,⟨rfl, ?tr⟩, ?eq⟩, ?P, ?mu⟩
  case e1=>exact rfl
  case e2=>exact rfl
  case e3=>exact rfl
  case own=>exact⟨rfl,rfl,rfl,rfl,rfl,rfl,rfl,rfl,rfl,rfl,BC g1_3,by simp,rfl,rfl,rfl,rfl,BC g2_3,by simp,fun l hl=>by omega⟩
  case eq=>exact rfl
  case mu=>simp only; omega
  case P=>exact hP.step hi h0 (by simp only[CO,DX,Bool.and_true,Bool.true_and,g1_3,g2_3]) (by omega) (by omega) q7
  case tr=>exact Ba (Gq hP.2.2.2.1 (by simp only[CO,DX,Bool.and_true,Bool.true_and,g1_3,g2_3]))
 ·have hi:i=xs.length:=by have:=hP.1; simp at h; dsimp only at this; omega
  obtain⟨y1,y2⟩:=hP.done 101 5 hi
  simp only[go_sem]
  exact⟨[.ref 0],[.ow 101 5 R],[.c (.v (.int .i64 k1))],rfl,.inr rfl,⟨rfl,rfl,rfl,rfl,BC y1,by simp,trivial⟩,by simp only[CO,DX,y1,Bool.and_true],rfl,rfl,y2⟩
theorem WM (xs:List DDead) (k:Int) (hk:0≤k) (l:Int) (h0:0≤(CV xs.length l)) (hl:l≤1048576) (hb:k+64*l≤1099511627776):MCtr Tryz.prog 80 false [.ow 168 3 (xs.map DDead.c)] [.c (.v (.int .i64 k))] (aO 168 3 k l (CV xs.length l)):=by
 have hsz:=aP xs l h0
 rw[← hsz] at h0 ⊢
 have hxl:=(Au (AP h0).1 hl).1
 refine MCtr.mk (fn:=Tryz.f80) Tryz.call80 Tryz.func80 rfl mixed Tryz.ntmps80 Tryz.results80 (by kernel_rfl) rfl (.inr rfl) fun us hw0 hw=>?_
 simp only[go_sem]
 refine LoopK.mk 1 [0,1,5] (A:=Nat×List (List Cl)×Int×Int) (fun x=>⟨34,[(0,.pin (.c (.ref 0)) (mkV false us)),(1,.c (.v (.int .i64 x.2.2.1))),(5,.c (.v (.int .i64 x.1)))],[⟨168,3,x.2.1,true,true⟩]⟩)
  (MkP DDead.c (fun _ l=>l) xs k l (A_ (fun _ l=>l) xs l)) (fun x=>xs.length-x.1) (0,xs.map DDead.c,k,l-xs.length) ⟨⟨rfl,Ba (cloE_map fun d=>by rfl)⟩,rfl,MkP.start (fun d=>rfl) h0⟩ ?_
 rintro⟨i,R,k1,l1⟩ hP
 have hn:=hP.2.1
 dsimp only at hn
 simp only[go_sem,hn]
 refine cndC.mk (fun h=>?_) (fun h=>?_)
 ·have hi:i<xs.length:=by simpa using h
  obtain⟨q1,q2,q3,q4,q5,q6⟩:=hP.room hi h0
  try dsimp only at q1
  have hset:=set_self (R:=R) (i:=i) q3
  rw[DDead.c_eq] at q2
  have h30:((3:Int)=0)=False:=by simp
  simp only[go_sem,q2,q3,hset,List.set_set,List.length_set,h30,wrap_i64 (n:=k1+1) (by omega) (by omega),wrap_i64 (n:=k1+1+1) (by omega) (by omega),wrap_i64 (n:=k1+1+1+1) (by omega) (by omega),wrap_i64 (n:=(i:Int)+1) (by omega) (by omega)]
  refine⟨(i+1,R.set i [.v (.int .i64 (k1)),.v (.int .i64 (k1+1)),.v (.int .i64 (k1+1+1))],k1+1+1+1,l1),⟨rfl, ?tr⟩, ?eq, ?P, ?mu⟩
  case eq=>exact rfl
  case mu=>simp only; omega
  case P=>exact hP.step hi h0 (by simp only[CO,DX,Bool.and_true,Bool.true_and]) (by omega) (by omega) (Int.le_refl _)
  case tr=>exact Ba (Gq hP.2.2.2.1 (by simp only[CO,DX,Bool.and_true,Bool.true_and]))
 ·have hi:i=xs.length:=by have:=hP.1; simp at h; dsimp only at this; omega
  obtain⟨y1,y2⟩:=hP.done 168 3 hi
  simp only[go_sem]
  exact⟨[.ref 0],[.ow 168 3 R],[.c (.v (.int .i64 k1))],rfl,.inr rfl,⟨rfl,rfl,rfl,rfl,BC y1,by simp,trivial⟩,by simp only[CO,DX,y1,Bool.and_true],rfl,rfl,y2⟩
theorem Qq (xs:List DRef) (k:Int) (hk:0≤k) (l:Int) (h0:0≤(CV xs.length l)) (hl:l≤1048576) (hb:k+64*l≤1099511627776):MCtr Tryz.prog 122 false [.ow 56 5 (xs.map DRef.c)] [.c (.v (.int .i64 k))] (aO 56 5 k l (CV xs.length l)):=by
 have hsz:=aP xs l h0
 rw[← hsz] at h0 ⊢
 have hxl:=(Au (AP h0).1 hl).1
 refine MCtr.mk (fn:=Tryz.f122) Tryz.call122 Tryz.func122 rfl mixed Tryz.ntmps122 Tryz.results122 (by kernel_rfl) rfl (.inr rfl) fun us hw0 hw=>?_
 simp only[go_sem]
 refine LoopK.mk 1 [0,1,5] (A:=Nat×List (List Cl)×Int×Int) (fun x=>⟨48,[(0,.pin (.c (.ref 0)) (mkV false us)),(1,.c (.v (.int .i64 x.2.2.1))),(5,.c (.v (.int .i64 x.1)))],[⟨56,5,x.2.1,true,true⟩]⟩)
  (MkP DRef.c (fun _ l=>l) xs k l (A_ (fun _ l=>l) xs l)) (fun x=>xs.length-x.1) (0,xs.map DRef.c,k,l-xs.length) ⟨⟨rfl,Ba (cloE_map fun d=>by rfl)⟩,rfl,MkP.start (fun d=>rfl) h0⟩ ?_
 rintro⟨i,R,k1,l1⟩ hP
 have hn:=hP.2.1
 dsimp only at hn
 simp only[go_sem,hn]
 refine cndC.mk (fun h=>?_) (fun h=>?_)
 ·have hi:i<xs.length:=by simpa using h
  obtain⟨q1,q2,q3,q4,q5,q6⟩:=hP.room hi h0
  try dsimp only at q1
  have hset:=set_self (R:=R) (i:=i) q3
  rw[DRef.c_eq] at q2
  have h30:((3:Int)=0)=False:=by simp
  simp only[go_sem,q2,q3,hset,List.set_set,List.length_set,h30,wrap_i64 (n:=k1+1) (by omega) (by omega),wrap_i64 (n:=k1+1+1) (by omega) (by omega),wrap_i64 (n:=k1+1+1+1) (by omega) (by omega),wrap_i64 (n:=k1+1+1+1+1) (by omega) (by omega),wrap_i64 (n:=k1+1+1+1+1+1) (by omega) (by omega),wrap_i64 (n:=(i:Int)+1) (by omega) (by omega)]
  refine⟨(i+1,R.set i [.v (.int .i64 (k1)),.v (.int .i64 (k1+1)),.v (.int .i64 (k1+1+1)),.v (.int .i64 (k1+1+1+1)),.v (.int .i64 (k1+1+1+1+1))],k1+1+1+1+1+1,l1),⟨rfl, ?tr⟩, ?eq, ?P, ?mu⟩
  case eq=>exact rfl
  case mu=>simp only; omega
  case P=>exact hP.step hi h0 (by simp only[CO,DX,Bool.and_true,Bool.true_and]) (by omega) (by omega) (Int.le_refl _)
  case tr=>exact Ba (Gq hP.2.2.2.1 (by simp only[CO,DX,Bool.and_true,Bool.true_and]))
 ·have hi:i=xs.length:=by have:=hP.1; simp at h; dsimp only at this; omega
  obtain⟨y1,y2⟩:=hP.done 56 5 hi
  simp only[go_sem]
  exact⟨[.ref 0],[.ow 56 5 R],[.c (.v (.int .i64 k1))],rfl,.inr rfl,⟨rfl,rfl,rfl,rfl,BC y1,by simp,trivial⟩,by simp only[CO,DX,y1,Bool.and_true],rfl,rfl,y2⟩
theorem WN (xs:List DTask) (k:Int) (hk:0≤k) (l:Int) (h0:0≤(A_ DR xs l)) (hl:l≤1048576) (hb:k+64*l≤1099511627776):MCtr Tryz.prog 81 false [.ow 172 25 (xs.map DTask.o)] [.c (.v (.int .i64 k))] (aO 172 25 k l (A_ DR xs l)):=by
 have hxl:=(Au (AP h0).1 hl).1
 refine MCtr.mk (fn:=Tryz.f81) Tryz.call81 Tryz.func81 rfl mixed Tryz.ntmps81 Tryz.results81 (by kernel_rfl) rfl (.inr rfl) fun us hw0 hw=>?_
 simp only[go_sem]
 refine LoopA.mk 1 0 [0,1,5] (A:=Nat×List (List Cl)×Int×Int) (fun x=>⟨211,[(0,.pin (.c (.ref 0)) (mkV false us)),(1,.c (.v (.int .i64 x.2.2.1))),(5,.c (.v (.int .i64 x.1)))],[⟨172,25,x.2.1,true,true⟩]⟩)
  (MkP DTask.o DR xs k l (A_ DR xs l)) (fun x=>xs.length-x.1) (0,xs.map DTask.o,k,l-xs.length) ⟨⟨rfl,Ba (cloE_map fun d=>by exact VS d)⟩,rfl,MkP.start (fun d=>VS d) h0⟩ ?_
 rintro⟨i,R,k1,l1⟩ hP
 have hn:=hP.2.1
 dsimp only at hn
 simp only[go_sem,hn]
 refine cndC.mk (fun h=>?_) (fun h=>?_)
 ·have hi:i<xs.length:=by simpa using h
  obtain⟨q1,q2,q3,q4,q5,q6⟩:=hP.room hi h0
  have q7:=(N7 xs[i] l1 q1 (by omega)).2
  have d1:=q1
  rw[MM] at d1
  obtain⟨a1_0,b1_0,e1_0⟩:=AP d1
  have w1_0:=(CQ xs[i].r (fun x _=>CZ x) a1_0 (by omega)).2
  obtain⟨a1_1,b1_1,e1_1⟩:=AP b1_0
  have w1_1:=(H5 xs[i].q _ a1_1 (by omega)).2
  have d2:=a1_1
  rw[FV] at d2
  obtain⟨a2_0,b2_0,e2_0⟩:=AP d2
  have w2_0:=(ET xs[i].q.p _ a2_0 (by omega)).2
  have d3:=a2_0
  rw[ED] at d3
  obtain⟨a3_0,b3_0,e3_0⟩:=AP d3
  have w3_0:=(CZ xs[i].q.p.v _ a3_0 (by omega)).2
  have d4:=a3_0
  rw[Di] at d4
  obtain⟨a4_0,b4_0,e4_0⟩:=AP d4
  have w4_0:=(Au a4_0 (by omega)).2
  have eq4:AZ xs[i].q.p.v (A_ AZ xs[i].r l1)=(CV xs[i].q.p.v.s.size (A_ AZ xs[i].r l1)):=(Di xs[i].q.p.v (A_ AZ xs[i].r l1)).trans (e4_0)
  obtain⟨a3_1,b3_1,e3_1⟩:=AP b3_0
  have w3_1:=(CQ xs[i].q.p.l (fun x _=>ET x) a3_1 (by omega)).2
  have eq3:Ae xs[i].q.p (A_ AZ xs[i].r l1)=(A_ Ae xs[i].q.p.l (AZ xs[i].q.p.v (A_ AZ xs[i].r l1))):=(ED xs[i].q.p (A_ AZ xs[i].r l1)).trans ((e3_0).trans (e3_1))
  obtain⟨a2_1,b2_1,e2_1⟩:=AP b2_0
  have w2_1:=(Au a2_1 (by omega)).2
  have eq2:BH xs[i].q (A_ AZ xs[i].r l1)=(CV xs[i].q.out.length (Ae xs[i].q.p (A_ AZ xs[i].r l1))):=(FV xs[i].q (A_ AZ xs[i].r l1)).trans ((e2_0).trans (e2_1))
  obtain⟨a1_2,b1_2,e1_2⟩:=AP b1_1
  have w1_2:=(Au a1_2 (by omega)).2
  obtain⟨a1_3,b1_3,e1_3⟩:=AP b1_2
  have w1_3:=(CQ xs[i].got (fun x _=>Jn x) a1_3 (by omega)).2
  have P9:DR xs[i] l1=(A_ DY xs[i].got (CV xs[i].l.length (BH xs[i].q (A_ AZ xs[i].r l1)))):=(MM xs[i] l1).trans ((e1_0).trans ((e1_1).trans ((e1_2).trans (e1_3))))
  have hset:=set_self (R:=R) (i:=i) q3
  rw[DTask.o_eq] at q2
  simp only[DPred.o_eq,DQuery.o_eq,DVal.c_eq,List.cons_append,List.nil_append] at q2
  have h30:((3:Int)=0)=False:=by simp
  simp only[go_sem,q2,q3,hset,List.set_set,List.length_set,h30,wrap_i64 (n:=k1+1) (by omega) (by omega),wrap_i64 (n:=k1+1+1) (by omega) (by omega),wrap_i64 (n:=k1+1+1+1) (by omega) (by omega),wrap_i64 (n:=(i:Int)+1) (by omega) (by omega)]
  refine MutK.mk false (zs:=[.ref 1]) (JE xs[i].r (k1+1+1+1) (by omega) l1 a1_0 (by omega) (by omega)) rfl ⟨rfl,rfl,rfl,rfl,Bl _,by simp,trivial⟩ rfl (.inr rfl) fun cl' rs hM=>?_
  obtain⟨R1,m1,rfl,rfl,g1_1,g1_2,g1_3⟩:=hM
  refine⟨⟨rfl,⟨rfl,rfl⟩,trivial⟩, ?_⟩
  simp only[go_sem,q2,q3,hset,List.set_set,List.length_set,h30,wrap_i64 (n:=k1+1) (by omega) (by omega),wrap_i64 (n:=k1+1+1) (by omega) (by omega),wrap_i64 (n:=k1+1+1+1) (by omega) (by omega),wrap_i64 (n:=m1+1) (by omega) (by omega),wrap_i64 (n:=m1+1+1) (by omega) (by omega),wrap_i64 (n:=m1+1+1+1) (by omega) (by omega),wrap_i64 (n:=m1+1+1+1+1) (by omega) (by omega),wrap_i64 (n:=m1+1+1+1+1+1) (by omega) (by omega),wrap_i64 (n:=m1+1+1+1+1+1+1) (by omega) (by omega),wrap_i64 (n:=m1+1+1+1+1+1+1+1) (by omega) (by omega),wrap_i64 (n:=(i:Int)+1) (by omega) (by omega)]
  refine CallK.mk _ (ES (m1+1+1+1+1+1+1+1) (by omega) (by omega)) fun _=>?_
  simp only[go_sem,q2,q3,hset,List.set_set,List.length_set,h30,wrap_i64 (n:=k1+1) (by omega) (by omega),wrap_i64 (n:=k1+1+1) (by omega) (by omega),wrap_i64 (n:=k1+1+1+1) (by omega) (by omega),wrap_i64 (n:=m1+1) (by omega) (by omega),wrap_i64 (n:=m1+1+1) (by omega) (by omega),wrap_i64 (n:=m1+1+1+1) (by omega) (by omega),wrap_i64 (n:=m1+1+1+1+1) (by omega) (by omega),wrap_i64 (n:=m1+1+1+1+1+1) (by omega) (by omega),wrap_i64 (n:=m1+1+1+1+1+1+1) (by omega) (by omega),wrap_i64 (n:=m1+1+1+1+1+1+1+1) (by omega) (by omega),wrap_i64 (n:=m1+1+1+1+1+1+1+1+1) (by omega) (by omega),wrap_i64 (n:=(i:Int)+1) (by omega) (by omega)]
  refine MutK.mk false (zs:=[.ref 2]) (J5 xs[i].q.p.l (m1+1+1+1+1+1+1+1+1) (by omega) (AZ xs[i].q.p.v (A_ AZ xs[i].r l1)) a3_1 (by omega) (by omega)) rfl ⟨rfl,rfl,rfl,rfl,Gu _,by simp,trivial⟩ rfl (.inr rfl) fun cl' rs hM=>?_
  obtain⟨R2,m2,rfl,rfl,g2_1,g2_2,g2_3⟩:=hM
  refine⟨⟨rfl,⟨rfl,rfl⟩,trivial⟩, ?_⟩
  simp only[go_sem,q2,q3,hset,List.set_set,List.length_set,h30,wrap_i64 (n:=k1+1) (by omega) (by omega),wrap_i64 (n:=k1+1+1) (by omega) (by omega),wrap_i64 (n:=k1+1+1+1) (by omega) (by omega),wrap_i64 (n:=m1+1) (by omega) (by omega),wrap_i64 (n:=m1+1+1) (by omega) (by omega),wrap_i64 (n:=m1+1+1+1) (by omega) (by omega),wrap_i64 (n:=m1+1+1+1+1) (by omega) (by omega),wrap_i64 (n:=m1+1+1+1+1+1) (by omega) (by omega),wrap_i64 (n:=m1+1+1+1+1+1+1) (by omega) (by omega),wrap_i64 (n:=m1+1+1+1+1+1+1+1) (by omega) (by omega),wrap_i64 (n:=m1+1+1+1+1+1+1+1+1) (by omega) (by omega),wrap_i64 (n:=m2+1) (by omega) (by omega),wrap_i64 (n:=(i:Int)+1) (by omega) (by omega)]
  refine MutK.mk false (zs:=[.ref 3]) (Gf xs[i].q.out (m2+1) (by omega) (Ae xs[i].q.p (A_ AZ xs[i].r l1)) a2_1 (by omega) (by omega)) rfl ⟨rfl,rfl,rfl,rfl,Bj _,by simp,trivial⟩ rfl (.inr rfl) fun cl' rs hM=>?_
  obtain⟨R3,m3,rfl,rfl,g3_1,g3_2,g3_3⟩:=hM
  refine⟨⟨rfl,⟨rfl,rfl⟩,trivial⟩, ?_⟩
  simp only[go_sem,q2,q3,hset,List.set_set,List.length_set,h30,wrap_i64 (n:=k1+1) (by omega) (by omega),wrap_i64 (n:=k1+1+1) (by omega) (by omega),wrap_i64 (n:=k1+1+1+1) (by omega) (by omega),wrap_i64 (n:=m1+1) (by omega) (by omega),wrap_i64 (n:=m1+1+1) (by omega) (by omega),wrap_i64 (n:=m1+1+1+1) (by omega) (by omega),wrap_i64 (n:=m1+1+1+1+1) (by omega) (by omega),wrap_i64 (n:=m1+1+1+1+1+1) (by omega) (by omega),wrap_i64 (n:=m1+1+1+1+1+1+1) (by omega) (by omega),wrap_i64 (n:=m1+1+1+1+1+1+1+1) (by omega) (by omega),wrap_i64 (n:=m1+1+1+1+1+1+1+1+1) (by omega) (by omega),wrap_i64 (n:=m2+1) (by omega) (by omega),wrap_i64 (n:=m3+1) (by omega) (by omega),wrap_i64 (n:=m3+1+1) (by omega) (by omega),wrap_i64 (n:=(i:Int)+1) (by omega) (by omega)]
  refine MutK.mk false (zs:=[.ref 4]) (Qq xs[i].l (m3+1+1) (by omega) (BH xs[i].q (A_ AZ xs[i].r l1)) a1_2 (by omega) (by omega)) rfl ⟨rfl,rfl,rfl,rfl,QI _,by simp,trivial⟩ rfl (.inr rfl) fun cl' rs hM=>?_
  obtain⟨R4,m4,rfl,rfl,g4_1,g4_2,g4_3⟩:=hM
  refine⟨⟨rfl,⟨rfl,rfl⟩,trivial⟩, ?_⟩
  simp only[go_sem,q2,q3,hset,List.set_set,List.length_set,h30,wrap_i64 (n:=k1+1) (by omega) (by omega),wrap_i64 (n:=k1+1+1) (by omega) (by omega),wrap_i64 (n:=k1+1+1+1) (by omega) (by omega),wrap_i64 (n:=m1+1) (by omega) (by omega),wrap_i64 (n:=m1+1+1) (by omega) (by omega),wrap_i64 (n:=m1+1+1+1) (by omega) (by omega),wrap_i64 (n:=m1+1+1+1+1) (by omega) (by omega),wrap_i64 (n:=m1+1+1+1+1+1) (by omega) (by omega),wrap_i64 (n:=m1+1+1+1+1+1+1) (by omega) (by omega),wrap_i64 (n:=m1+1+1+1+1+1+1+1) (by omega) (by omega),wrap_i64 (n:=m1+1+1+1+1+1+1+1+1) (by omega) (by omega),wrap_i64 (n:=m2+1) (by omega) (by omega),wrap_i64 (n:=m3+1) (by omega) (by omega),wrap_i64 (n:=m3+1+1) (by omega) (by omega),wrap_i64 (n:=m4+1) (by omega) (by omega),wrap_i64 (n:=m4+1+1) (by omega) (by omega),wrap_i64 (n:=m4+1+1+1) (by omega) (by omega),wrap_i64 (n:=m4+1+1+1+1) (by omega) (by omega),wrap_i64 (n:=m4+1+1+1+1+1) (by omega) (by omega),wrap_i64 (n:=m4+1+1+1+1+1+1) (by omega) (by omega),wrap_i64 (n:=(i:Int)+1) (by omega) (by omega)]
  refine MutK.mk false (zs:=[.ref 5]) (Qp xs[i].got (m4+1+1+1+1+1+1) (by omega) (CV xs[i].l.length (BH xs[i].q (A_ AZ xs[i].r l1))) a1_3 (by omega) (by omega)) rfl ⟨rfl,rfl,rfl,rfl,AX _,by simp,trivial⟩ rfl (.inr rfl) fun cl' rs hM=>?_
  obtain⟨R5,m5,rfl,rfl,g5_1,g5_2,g5_3⟩:=hM
  refine⟨⟨rfl,⟨rfl,rfl⟩,trivial⟩, ?_⟩
  simp only[go_sem,q2,q3,hset,List.set_set,List.length_set,h30,wrap_i64 (n:=k1+1) (by omega) (by omega),wrap_i64 (n:=k1+1+1) (by omega) (by omega),wrap_i64 (n:=k1+1+1+1) (by omega) (by omega),wrap_i64 (n:=m1+1) (by omega) (by omega),wrap_i64 (n:=m1+1+1) (by omega) (by omega),wrap_i64 (n:=m1+1+1+1) (by omega) (by omega),wrap_i64 (n:=m1+1+1+1+1) (by omega) (by omega),wrap_i64 (n:=m1+1+1+1+1+1) (by omega) (by omega),wrap_i64 (n:=m1+1+1+1+1+1+1) (by omega) (by omega),wrap_i64 (n:=m1+1+1+1+1+1+1+1) (by omega) (by omega),wrap_i64 (n:=m1+1+1+1+1+1+1+1+1) (by omega) (by omega),wrap_i64 (n:=m2+1) (by omega) (by omega),wrap_i64 (n:=m3+1) (by omega) (by omega),wrap_i64 (n:=m3+1+1) (by omega) (by omega),wrap_i64 (n:=m4+1) (by omega) (by omega),wrap_i64 (n:=m4+1+1) (by omega) (by omega),wrap_i64 (n:=m4+1+1+1) (by omega) (by omega),wrap_i64 (n:=m4+1+1+1+1) (by omega) (by omega),wrap_i64 (n:=m4+1+1+1+1+1) (by omega) (by omega),wrap_i64 (n:=m4+1+1+1+1+1+1) (by omega) (by omega),wrap_i64 (n:=(i:Int)+1) (by omega) (by omega)]
  refine⟨(i+1,R.set i [.v (.int .i64 (k1)),.v (.int .i64 (k1+1)),.v (.int .i64 (k1+1+1)),.ow 72 3 R1,.v (.int .i64 (m1)),.v (.int .i64 (m1+1)),.v (.int .i64 (m1+1+1)),.v (.int .i64 (m1+1+1+1)),.v (.int .i64 (m1+1+1+1+1)),.v (.int .i64 (m1+1+1+1+1+1)),.v (.int .i64 (m1+1+1+1+1+1+1)),.v (.string (Gs (m1+1+1+1+1+1+1+1))),.ow 78 7 R2,.v (.int .i64 (m2)),.ow 3 1 R3,.v (.int .i64 (m3)),.v (.int .i64 (m3+1)),.ow 56 5 R4,.v (.int .i64 (m4)),.v (.int .i64 (m4+1)),.v (.int .i64 (m4+1+1)),.v (.int .i64 (m4+1+1+1)),.v (.int .i64 (m4+1+1+1+1)),.v (.bool (IntKind.i64.wrap ((m4+1+1+1+1+1).tmod 3)==0)),.ow 121 2 R5],m5,DR xs[i] l1),.inr ⟨i,R, ?rowr,[.v (.int .i64 (k1)),.v (.int .i64 (k1+1)),.v (.int .i64 (k1+1+1)),.ow 72 3 R1,.v (.int .i64 (m1)),.v (.int .i64 (m1+1)),.v (.int .i64 (m1+1+1)),.v (.int .i64 (m1+1+1+1)),.v (.int .i64 (m1+1+1+1+1)),.v (.int .i64 (m1+1+1+1+1+1)),.v (.int .i64 (m1+1+1+1+1+1+1)),.v (.string (Gs (m1+1+1+1+1+1+1+1))),.ow 78 7 R2,.v (.int .i64 (m2)),.ow 3 1 R3,.v (.int .i64 (m3)),.v (.int .i64 (m3+1)),.ow 56 5 R4,.v (.int .i64 (m4)),.v (.int .i64 (m4+1)),.v (.int .i64 (m4+1+1)),.v (.int .i64 (m4+1+1+1)),.v (.int .i64 (m4+1+1+1+1)),.v (.bool (IntKind.i64.wrap ((m4+1+1+1+1+1).tmod 3)==0)),.ow 121 2 R5], ?ob,⟨Nat.zero_lt_one, ?e1, ?e2,q3, ?e3⟩, ?own,⟨rfl, ?tr⟩, ?eq⟩, ?P, ?mu⟩
  case e1=>exact rfl
  case e2=>exact rfl
  case e3=>exact rfl
  case own=>exact⟨rfl,rfl,rfl,rfl,rfl,rfl,rfl,rfl,rfl,rfl,BC g1_3,by simp,rfl,rfl,rfl,rfl,rfl,rfl,rfl,rfl,rfl,rfl,rfl,rfl,rfl,rfl,rfl,rfl,rfl,rfl,rfl,rfl,BC g2_3,by simp,rfl,rfl,rfl,rfl,rfl,rfl,BC g3_3,by simp,rfl,rfl,rfl,rfl,rfl,rfl,rfl,rfl,BC g4_3,by simp,rfl,rfl,rfl,rfl,rfl,rfl,rfl,rfl,rfl,rfl,rfl,rfl,rfl,rfl,rfl,rfl,BC g5_3,by simp,fun l hl=>by omega⟩
  case eq=>exact rfl
  case mu=>simp only; omega
  case P=>exact hP.step hi h0 (by simp only[CO,DX,Bool.and_true,Bool.true_and,g1_3,g2_3,g3_3,g4_3,g5_3]) (by omega) (by omega) q7
  case tr=>exact Ba (Gq hP.2.2.2.1 (by simp only[CO,DX,Bool.and_true,Bool.true_and,g1_3,g2_3,g3_3,g4_3,g5_3]))
 ·have hi:i=xs.length:=by have:=hP.1; simp at h; dsimp only at this; omega
  obtain⟨y1,y2⟩:=hP.done 172 25 hi
  simp only[go_sem]
  exact⟨[.ref 0],[.ow 172 25 R],[.c (.v (.int .i64 k1))],rfl,.inr rfl,⟨rfl,rfl,rfl,rfl,BC y1,by simp,trivial⟩,by simp only[CO,DX,y1,Bool.and_true],rfl,rfl,y2⟩
theorem WO (xs:List DDeed) (k:Int) (hk:0≤k) (l:Int) (h0:0≤(A_ Dn xs l)) (hl:l≤1048576) (hb:k+64*l≤1099511627776):MCtr Tryz.prog 82 false [.ow 175 25 (xs.map DDeed.o)] [.c (.v (.int .i64 k))] (aO 175 25 k l (A_ Dn xs l)):=by
 have hxl:=(Au (AP h0).1 hl).1
 refine MCtr.mk (fn:=Tryz.f82) Tryz.call82 Tryz.func82 rfl mixed Tryz.ntmps82 Tryz.results82 (by kernel_rfl) rfl (.inr rfl) fun us hw0 hw=>?_
 simp only[go_sem]
 refine LoopA.mk 1 0 [0,1,5] (A:=Nat×List (List Cl)×Int×Int) (fun x=>⟨221,[(0,.pin (.c (.ref 0)) (mkV false us)),(1,.c (.v (.int .i64 x.2.2.1))),(5,.c (.v (.int .i64 x.1)))],[⟨175,25,x.2.1,true,true⟩]⟩)
  (MkP DDeed.o Dn xs k l (A_ Dn xs l)) (fun x=>xs.length-x.1) (0,xs.map DDeed.o,k,l-xs.length) ⟨⟨rfl,Ba (cloE_map fun d=>by exact VT d)⟩,rfl,MkP.start (fun d=>VT d) h0⟩ ?_
 rintro⟨i,R,k1,l1⟩ hP
 have hn:=hP.2.1
 dsimp only at hn
 simp only[go_sem,hn]
 refine cndC.mk (fun h=>?_) (fun h=>?_)
 ·have hi:i<xs.length:=by simpa using h
  obtain⟨q1,q2,q3,q4,q5,q6⟩:=hP.room hi h0
  have q7:=(N9 xs[i] l1 q1 (by omega)).2
  have d1:=q1
  rw[MN] at d1
  obtain⟨a1_0,b1_0,e1_0⟩:=AP d1
  have w1_0:=(CQ xs[i].r (fun x _=>CZ x) a1_0 (by omega)).2
  obtain⟨a1_1,b1_1,e1_1⟩:=AP b1_0
  have w1_1:=(H5 xs[i].q _ a1_1 (by omega)).2
  have d2:=a1_1
  rw[FV] at d2
  obtain⟨a2_0,b2_0,e2_0⟩:=AP d2
  have w2_0:=(ET xs[i].q.p _ a2_0 (by omega)).2
  have d3:=a2_0
  rw[ED] at d3
  obtain⟨a3_0,b3_0,e3_0⟩:=AP d3
  have w3_0:=(CZ xs[i].q.p.v _ a3_0 (by omega)).2
  have d4:=a3_0
  rw[Di] at d4
  obtain⟨a4_0,b4_0,e4_0⟩:=AP d4
  have w4_0:=(Au a4_0 (by omega)).2
  have eq4:AZ xs[i].q.p.v (A_ AZ xs[i].r l1)=(CV xs[i].q.p.v.s.size (A_ AZ xs[i].r l1)):=(Di xs[i].q.p.v (A_ AZ xs[i].r l1)).trans (e4_0)
  obtain⟨a3_1,b3_1,e3_1⟩:=AP b3_0
  have w3_1:=(CQ xs[i].q.p.l (fun x _=>ET x) a3_1 (by omega)).2
  have eq3:Ae xs[i].q.p (A_ AZ xs[i].r l1)=(A_ Ae xs[i].q.p.l (AZ xs[i].q.p.v (A_ AZ xs[i].r l1))):=(ED xs[i].q.p (A_ AZ xs[i].r l1)).trans ((e3_0).trans (e3_1))
  obtain⟨a2_1,b2_1,e2_1⟩:=AP b2_0
  have w2_1:=(Au a2_1 (by omega)).2
  have eq2:BH xs[i].q (A_ AZ xs[i].r l1)=(CV xs[i].q.out.length (Ae xs[i].q.p (A_ AZ xs[i].r l1))):=(FV xs[i].q (A_ AZ xs[i].r l1)).trans ((e2_0).trans (e2_1))
  obtain⟨a1_2,b1_2,e1_2⟩:=AP b1_1
  have w1_2:=(Ov xs[i].res _ a1_2 (by omega)).2
  have d5:=a1_2
  rw[JF] at d5
  obtain⟨a5_0,b5_0,e5_0⟩:=AP d5
  have w5_0:=(CQ xs[i].res.rows (fun x _=>Jn x) a5_0 (by omega)).2
  obtain⟨a5_1,b5_1,e5_1⟩:=AP b5_0
  have w5_1:=(CZ xs[i].res.v _ a5_1 (by omega)).2
  have d6:=a5_1
  rw[Di] at d6
  obtain⟨a6_0,b6_0,e6_0⟩:=AP d6
  have w6_0:=(Au a6_0 (by omega)).2
  have eq6:AZ xs[i].res.v (A_ DY xs[i].res.rows (BH xs[i].q (A_ AZ xs[i].r l1)))=(CV xs[i].res.v.s.size (A_ DY xs[i].res.rows (BH xs[i].q (A_ AZ xs[i].r l1)))):=(Di xs[i].res.v (A_ DY xs[i].res.rows (BH xs[i].q (A_ AZ xs[i].r l1)))).trans (e6_0)
  have eq5:GH xs[i].res (BH xs[i].q (A_ AZ xs[i].r l1))=(AZ xs[i].res.v (A_ DY xs[i].res.rows (BH xs[i].q (A_ AZ xs[i].r l1)))):=(JF xs[i].res (BH xs[i].q (A_ AZ xs[i].r l1))).trans ((e5_0).trans (e5_1))
  have P9:Dn xs[i] l1=(GH xs[i].res (BH xs[i].q (A_ AZ xs[i].r l1))):=(MN xs[i] l1).trans ((e1_0).trans ((e1_1).trans (e1_2)))
  have hset:=set_self (R:=R) (i:=i) q3
  rw[DDeed.o_eq] at q2
  simp only[DPred.o_eq,DQuery.o_eq,DResult.o_eq,DVal.c_eq,List.cons_append,List.nil_append] at q2
  have h30:((3:Int)=0)=False:=by simp
  simp only[go_sem,q2,q3,hset,List.set_set,List.length_set,h30,wrap_i64 (n:=k1+1) (by omega) (by omega),wrap_i64 (n:=k1+1+1) (by omega) (by omega),wrap_i64 (n:=(i:Int)+1) (by omega) (by omega)]
  refine MutK.mk false (zs:=[.ref 1]) (JE xs[i].r (k1+1+1) (by omega) l1 a1_0 (by omega) (by omega)) rfl ⟨rfl,rfl,rfl,rfl,Bl _,by simp,trivial⟩ rfl (.inr rfl) fun cl' rs hM=>?_
  obtain⟨R1,m1,rfl,rfl,g1_1,g1_2,g1_3⟩:=hM
  refine⟨⟨rfl,⟨rfl,rfl⟩,trivial⟩, ?_⟩
  simp only[go_sem,q2,q3,hset,List.set_set,List.length_set,h30,wrap_i64 (n:=k1+1) (by omega) (by omega),wrap_i64 (n:=k1+1+1) (by omega) (by omega),wrap_i64 (n:=m1+1) (by omega) (by omega),wrap_i64 (n:=m1+1+1) (by omega) (by omega),wrap_i64 (n:=m1+1+1+1) (by omega) (by omega),wrap_i64 (n:=m1+1+1+1+1) (by omega) (by omega),wrap_i64 (n:=m1+1+1+1+1+1) (by omega) (by omega),wrap_i64 (n:=m1+1+1+1+1+1+1) (by omega) (by omega),wrap_i64 (n:=m1+1+1+1+1+1+1+1) (by omega) (by omega),wrap_i64 (n:=(i:Int)+1) (by omega) (by omega)]
  refine CallK.mk _ (ES (m1+1+1+1+1+1+1+1) (by omega) (by omega)) fun _=>?_
  simp only[go_sem,q2,q3,hset,List.set_set,List.length_set,h30,wrap_i64 (n:=k1+1) (by omega) (by omega),wrap_i64 (n:=k1+1+1) (by omega) (by omega),wrap_i64 (n:=m1+1) (by omega) (by omega),wrap_i64 (n:=m1+1+1) (by omega) (by omega),wrap_i64 (n:=m1+1+1+1) (by omega) (by omega),wrap_i64 (n:=m1+1+1+1+1) (by omega) (by omega),wrap_i64 (n:=m1+1+1+1+1+1) (by omega) (by omega),wrap_i64 (n:=m1+1+1+1+1+1+1) (by omega) (by omega),wrap_i64 (n:=m1+1+1+1+1+1+1+1) (by omega) (by omega),wrap_i64 (n:=m1+1+1+1+1+1+1+1+1) (by omega) (by omega),wrap_i64 (n:=(i:Int)+1) (by omega) (by omega)]
  refine MutK.mk false (zs:=[.ref 2]) (J5 xs[i].q.p.l (m1+1+1+1+1+1+1+1+1) (by omega) (AZ xs[i].q.p.v (A_ AZ xs[i].r l1)) a3_1 (by omega) (by omega)) rfl ⟨rfl,rfl,rfl,rfl,Gu _,by simp,trivial⟩ rfl (.inr rfl) fun cl' rs hM=>?_
  obtain⟨R2,m2,rfl,rfl,g2_1,g2_2,g2_3⟩:=hM
  refine⟨⟨rfl,⟨rfl,rfl⟩,trivial⟩, ?_⟩
  simp only[go_sem,q2,q3,hset,List.set_set,List.length_set,h30,wrap_i64 (n:=k1+1) (by omega) (by omega),wrap_i64 (n:=k1+1+1) (by omega) (by omega),wrap_i64 (n:=m1+1) (by omega) (by omega),wrap_i64 (n:=m1+1+1) (by omega) (by omega),wrap_i64 (n:=m1+1+1+1) (by omega) (by omega),wrap_i64 (n:=m1+1+1+1+1) (by omega) (by omega),wrap_i64 (n:=m1+1+1+1+1+1) (by omega) (by omega),wrap_i64 (n:=m1+1+1+1+1+1+1) (by omega) (by omega),wrap_i64 (n:=m1+1+1+1+1+1+1+1) (by omega) (by omega),wrap_i64 (n:=m1+1+1+1+1+1+1+1+1) (by omega) (by omega),wrap_i64 (n:=m2+1) (by omega) (by omega),wrap_i64 (n:=(i:Int)+1) (by omega) (by omega)]
  refine MutK.mk false (zs:=[.ref 3]) (Gf xs[i].q.out (m2+1) (by omega) (Ae xs[i].q.p (A_ AZ xs[i].r l1)) a2_1 (by omega) (by omega)) rfl ⟨rfl,rfl,rfl,rfl,Bj _,by simp,trivial⟩ rfl (.inr rfl) fun cl' rs hM=>?_
  obtain⟨R3,m3,rfl,rfl,g3_1,g3_2,g3_3⟩:=hM
  refine⟨⟨rfl,⟨rfl,rfl⟩,trivial⟩, ?_⟩
  simp only[go_sem,q2,q3,hset,List.set_set,List.length_set,h30,wrap_i64 (n:=k1+1) (by omega) (by omega),wrap_i64 (n:=k1+1+1) (by omega) (by omega),wrap_i64 (n:=m1+1) (by omega) (by omega),wrap_i64 (n:=m1+1+1) (by omega) (by omega),wrap_i64 (n:=m1+1+1+1) (by omega) (by omega),wrap_i64 (n:=m1+1+1+1+1) (by omega) (by omega),wrap_i64 (n:=m1+1+1+1+1+1) (by omega) (by omega),wrap_i64 (n:=m1+1+1+1+1+1+1) (by omega) (by omega),wrap_i64 (n:=m1+1+1+1+1+1+1+1) (by omega) (by omega),wrap_i64 (n:=m1+1+1+1+1+1+1+1+1) (by omega) (by omega),wrap_i64 (n:=m2+1) (by omega) (by omega),wrap_i64 (n:=(i:Int)+1) (by omega) (by omega)]
  refine MutK.mk false (zs:=[.ref 4]) (Qp xs[i].res.rows (m3) (by omega) (BH xs[i].q (A_ AZ xs[i].r l1)) a5_0 (by omega) (by omega)) rfl ⟨rfl,rfl,rfl,rfl,AX _,by simp,trivial⟩ rfl (.inr rfl) fun cl' rs hM=>?_
  obtain⟨R4,m4,rfl,rfl,g4_1,g4_2,g4_3⟩:=hM
  refine⟨⟨rfl,⟨rfl,rfl⟩,trivial⟩, ?_⟩
  simp only[go_sem,q2,q3,hset,List.set_set,List.length_set,h30,wrap_i64 (n:=k1+1) (by omega) (by omega),wrap_i64 (n:=k1+1+1) (by omega) (by omega),wrap_i64 (n:=m1+1) (by omega) (by omega),wrap_i64 (n:=m1+1+1) (by omega) (by omega),wrap_i64 (n:=m1+1+1+1) (by omega) (by omega),wrap_i64 (n:=m1+1+1+1+1) (by omega) (by omega),wrap_i64 (n:=m1+1+1+1+1+1) (by omega) (by omega),wrap_i64 (n:=m1+1+1+1+1+1+1) (by omega) (by omega),wrap_i64 (n:=m1+1+1+1+1+1+1+1) (by omega) (by omega),wrap_i64 (n:=m1+1+1+1+1+1+1+1+1) (by omega) (by omega),wrap_i64 (n:=m2+1) (by omega) (by omega),wrap_i64 (n:=m4+1) (by omega) (by omega),wrap_i64 (n:=m4+1+1) (by omega) (by omega),wrap_i64 (n:=m4+1+1+1) (by omega) (by omega),wrap_i64 (n:=m4+1+1+1+1) (by omega) (by omega),wrap_i64 (n:=(i:Int)+1) (by omega) (by omega)]
  refine CallK.mk _ (ES (m4+1+1+1+1) (by omega) (by omega)) fun _=>?_
  simp only[go_sem,q2,q3,hset,List.set_set,List.length_set,h30,wrap_i64 (n:=k1+1) (by omega) (by omega),wrap_i64 (n:=k1+1+1) (by omega) (by omega),wrap_i64 (n:=m1+1) (by omega) (by omega),wrap_i64 (n:=m1+1+1) (by omega) (by omega),wrap_i64 (n:=m1+1+1+1) (by omega) (by omega),wrap_i64 (n:=m1+1+1+1+1) (by omega) (by omega),wrap_i64 (n:=m1+1+1+1+1+1) (by omega) (by omega),wrap_i64 (n:=m1+1+1+1+1+1+1) (by omega) (by omega),wrap_i64 (n:=m1+1+1+1+1+1+1+1) (by omega) (by omega),wrap_i64 (n:=m1+1+1+1+1+1+1+1+1) (by omega) (by omega),wrap_i64 (n:=m2+1) (by omega) (by omega),wrap_i64 (n:=m4+1) (by omega) (by omega),wrap_i64 (n:=m4+1+1) (by omega) (by omega),wrap_i64 (n:=m4+1+1+1) (by omega) (by omega),wrap_i64 (n:=m4+1+1+1+1) (by omega) (by omega),wrap_i64 (n:=m4+1+1+1+1+1) (by omega) (by omega),wrap_i64 (n:=m4+1+1+1+1+1+1) (by omega) (by omega),wrap_i64 (n:=m4+1+1+1+1+1+1+1) (by omega) (by omega),wrap_i64 (n:=m4+1+1+1+1+1+1+1+1) (by omega) (by omega),wrap_i64 (n:=m4+1+1+1+1+1+1+1+1+1) (by omega) (by omega),wrap_i64 (n:=m4+1+1+1+1+1+1+1+1+1+1) (by omega) (by omega),wrap_i64 (n:=(i:Int)+1) (by omega) (by omega)]
  refine⟨(i+1,R.set i [.v (.int .i64 (k1)),.v (.int .i64 (k1+1)),.ow 72 3 R1,.v (.int .i64 (m1)),.v (.int .i64 (m1+1)),.v (.int .i64 (m1+1+1)),.v (.int .i64 (m1+1+1+1)),.v (.int .i64 (m1+1+1+1+1)),.v (.int .i64 (m1+1+1+1+1+1)),.v (.int .i64 (m1+1+1+1+1+1+1)),.v (.string (Gs (m1+1+1+1+1+1+1+1))),.ow 78 7 R2,.v (.int .i64 (m2)),.ow 3 1 R3,.ow 121 2 R4,.v (.int .i64 (m4)),.v (.bool (IntKind.i64.wrap ((m4+1).tmod 3)==0)),.v (.int .i64 (m4+1+1)),.v (.int .i64 (m4+1+1+1)),.v (.string (Gs (m4+1+1+1+1))),.v (.int .i64 (m4+1+1+1+1+1)),.v (.int .i64 (m4+1+1+1+1+1+1)),.v (.int .i64 (m4+1+1+1+1+1+1+1)),.v (.int .i64 (m4+1+1+1+1+1+1+1+1)),.v (.int .i64 (m4+1+1+1+1+1+1+1+1+1))],m4+1+1+1+1+1+1+1+1+1+1,Dn xs[i] l1),.inr ⟨i,R, ?rowr,[.v (.int .i64 (k1)),.v (.int .i64 (k1+1)),.ow 72 3 R1,.v (.int .i64 (m1)),.v (.int .i64 (m1+1)),.v (.int .i64 (m1+1+1)),.v (.int .i64 (m1+1+1+1)),.v (.int .i64 (m1+1+1+1+1)),.v (.int .i64 (m1+1+1+1+1+1)),.v (.int .i64 (m1+1+1+1+1+1+1)),.v (.string (Gs (m1+1+1+1+1+1+1+1))),.ow 78 7 R2,.v (.int .i64 (m2)),.ow 3 1 R3,.ow 121 2 R4,.v (.int .i64 (m4)),.v (.bool (IntKind.i64.wrap ((m4+1).tmod 3)==0)),.v (.int .i64 (m4+1+1)),.v (.int .i64 (m4+1+1+1)),.v (.string (Gs (m4+1+1+1+1))),.v (.int .i64 (m4+1+1+1+1+1)),.v (.int .i64 (m4+1+1+1+1+1+1)),.v (.int .i64 (m4+1+1+1+1+1+1+1)),.v (.int .i64 (m4+1+1+1+1+1+1+1+1)),.v (.int .i64 (m4+1+1+1+1+1+1+1+1+1))], ?ob,⟨Nat.zero_lt_one, ?e1, ?e2,q3, ?e3⟩, ?own,⟨rfl, ?tr⟩, ?eq⟩, ?P, ?mu⟩
  case e1=>exact rfl
  case e2=>exact rfl
  case e3=>exact rfl
  case own=>exact⟨rfl,rfl,rfl,rfl,rfl,rfl,rfl,rfl,BC g1_3,by simp,rfl,rfl,rfl,rfl,rfl,rfl,rfl,rfl,rfl,rfl,rfl,rfl,rfl,rfl,rfl,rfl,rfl,rfl,rfl,rfl,BC g2_3,by simp,rfl,rfl,rfl,rfl,rfl,rfl,BC g3_3,by simp,rfl,rfl,rfl,rfl,BC g4_3,by simp,rfl,rfl,rfl,rfl,rfl,rfl,rfl,rfl,rfl,rfl,rfl,rfl,rfl,rfl,rfl,rfl,rfl,rfl,rfl,rfl,fun l hl=>by omega⟩
  case eq=>exact rfl
  case mu=>simp only; omega
  case P=>exact hP.step hi h0 (by simp only[CO,DX,Bool.and_true,Bool.true_and,g1_3,g2_3,g3_3,g4_3]) (by omega) (by omega) q7
  case tr=>exact Ba (Gq hP.2.2.2.1 (by simp only[CO,DX,Bool.and_true,Bool.true_and,g1_3,g2_3,g3_3,g4_3]))
 ·have hi:i=xs.length:=by have:=hP.1; simp at h; dsimp only at this; omega
  obtain⟨y1,y2⟩:=hP.done 175 25 hi
  simp only[go_sem]
  exact⟨[.ref 0],[.ow 175 25 R],[.c (.v (.int .i64 k1))],rfl,.inr rfl,⟨rfl,rfl,rfl,rfl,BC y1,by simp,trivial⟩,by simp only[CO,DX,y1,Bool.and_true],rfl,rfl,y2⟩
end Go.Proofs.YthoeeoddgkjkkaaGreat
/- The laws' marks of structs: by program (gen_data.py). -/
namespace Go.Proofs.YthoeeoddgkjkkaaGreat
set_option linter.unusedSimpArgs false
set_option linter.unusedVariables false
open Go.Vm
set_option maxHeartbeats 2000000
set_option maxRecDepth 10000
def sS (d:DPred) (k l:Int) (cl':List Cl) (rs:List AV):Prop:=∃ (R0:List (List Cl)) (k':Int),cl' = [.v (.int .i64 d.kind),.v (.int .i64 d.col),.v (.int .i64 d.op),.v (.int .i64 d.v.ty),.v (.int .i64 d.v.n),.v (.string d.v.s),.ow 78 7 R0]∧rs = [.c (.v (.int .i64 k'))]∧k≤k'∧k'+64*Ae d l≤k+64*l∧D_ R0=true
theorem YS (d:DPred) (k:Int) (hk:0≤k) (l:Int) (h0:0≤Ae d l) (hl:l≤1048576) (hb:k+64*l≤1099511627776):MCtr Tryz.prog 93 true d.o [.c (.v (.int .i64 k))] (sS d k l):=by
 have d1:=h0
 rw[ED] at d1
 obtain⟨a1_0,b1_0,e1_0⟩:=AP d1
 have w1_0:=(CZ d.v _ a1_0 (by omega)).2
 have d2:=a1_0
 rw[Di] at d2
 obtain⟨a2_0,b2_0,e2_0⟩:=AP d2
 have w2_0:=(Au a2_0 (by omega)).2
 have eq2:AZ d.v l=(CV d.v.s.size l):=(Di d.v l).trans (e2_0)
 obtain⟨a1_1,b1_1,e1_1⟩:=AP b1_0
 have w1_1:=(CQ d.l (fun x _=>ET x) a1_1 (by omega)).2
 have P9:Ae d l=(A_ Ae d.l (AZ d.v l)):=(ED d l).trans ((e1_0).trans (e1_1))
 refine MCtr.mk (fn:=Tryz.f93) Tryz.call93 Tryz.func93 rfl mixed Tryz.ntmps93 Tryz.results93 (by kernel_rfl) rfl (.inl rfl) fun us hw0 hw=>?_
 simp only[go_sem]
 refine MutK.mk false (zs:=[.ref 0]) (J5 d.l (k) (by omega) (AZ d.v l) a1_1 (by omega) (by omega)) rfl ⟨rfl,rfl,rfl,rfl,Gu _,by simp,trivial⟩ rfl (.inr rfl) fun cl' rs hM=>?_
 obtain⟨R0,m0,rfl,rfl,g0_1,g0_2,g0_3⟩:=hM
 refine⟨⟨rfl,⟨rfl,rfl⟩,trivial⟩, ?_⟩
 simp only[go_sem]
 exact⟨[.v (.int .i64 d.kind),.v (.int .i64 d.col),.v (.int .i64 d.op),.v (.int .i64 d.v.ty),.v (.int .i64 d.v.n),.v (.string d.v.s),.ref 0],[.v (.int .i64 d.kind),.v (.int .i64 d.col),.v (.int .i64 d.op),.v (.int .i64 d.v.ty),.v (.int .i64 d.v.n),.v (.string d.v.s),.ow 78 7 R0],[.c (.v (.int .i64 m0))],rfl,.inl rfl,⟨rfl,rfl,rfl,rfl,rfl,rfl,rfl,rfl,rfl,rfl,rfl,rfl,rfl,rfl,rfl,rfl,BC g0_3,by simp,trivial⟩,by simp only[CO,DX,Bool.and_true,Bool.true_and,g0_3],rfl,rfl,R0,m0,rfl,rfl,by omega,by omega,g0_3⟩
def nU (d:DQuery) (k l:Int) (cl':List Cl) (rs:List AV):Prop:=∃ (R0 R1:List (List Cl)) (k':Int),cl' = [.v (.int .i64 d.kind),.v (.int .i64 d.p.kind),.v (.int .i64 d.p.col),.v (.int .i64 d.p.op),.v (.int .i64 d.p.v.ty),.v (.int .i64 d.p.v.n),.v (.string d.p.v.s),.ow 78 7 R0,.v (.int .i64 d.col),.ow 3 1 R1]∧rs = [.c (.v (.int .i64 k'))]∧k≤k'∧k'+64*BH d l≤k+64*l∧D_ R0=true∧D_ R1=true
theorem Oo (d:DQuery) (k:Int) (hk:0≤k) (l:Int) (h0:0≤BH d l) (hl:l≤1048576) (hb:k+64*l≤1099511627776):MCtr Tryz.prog 33 true d.o [.c (.v (.int .i64 k))] (nU d k l):=by
 have d1:=h0
 rw[FV] at d1
 obtain⟨a1_0,b1_0,e1_0⟩:=AP d1
 have w1_0:=(ET d.p _ a1_0 (by omega)).2
 have d2:=a1_0
 rw[ED] at d2
 obtain⟨a2_0,b2_0,e2_0⟩:=AP d2
 have w2_0:=(CZ d.p.v _ a2_0 (by omega)).2
 have d3:=a2_0
 rw[Di] at d3
 obtain⟨a3_0,b3_0,e3_0⟩:=AP d3
 have w3_0:=(Au a3_0 (by omega)).2
 have eq3:AZ d.p.v l=(CV d.p.v.s.size l):=(Di d.p.v l).trans (e3_0)
 obtain⟨a2_1,b2_1,e2_1⟩:=AP b2_0
 have w2_1:=(CQ d.p.l (fun x _=>ET x) a2_1 (by omega)).2
 have eq2:Ae d.p l=(A_ Ae d.p.l (AZ d.p.v l)):=(ED d.p l).trans ((e2_0).trans (e2_1))
 obtain⟨a1_1,b1_1,e1_1⟩:=AP b1_0
 have w1_1:=(Au a1_1 (by omega)).2
 have P9:BH d l=(CV d.out.length (Ae d.p l)):=(FV d l).trans ((e1_0).trans (e1_1))
 refine MCtr.mk (fn:=Tryz.f33) Tryz.call33 Tryz.func33 rfl mixed Tryz.ntmps33 Tryz.results33 (by kernel_rfl) rfl (.inl rfl) fun us hw0 hw=>?_
 simp only[go_sem]
 refine MutK.mk true (zs:=[.v (.int .i64 d.p.kind),.v (.int .i64 d.p.col),.v (.int .i64 d.p.op),.v (.int .i64 d.p.v.ty),.v (.int .i64 d.p.v.n),.v (.string d.p.v.s),.ref 0]) (cl:=[.v (.int .i64 d.p.kind),.v (.int .i64 d.p.col),.v (.int .i64 d.p.op),.v (.int .i64 d.p.v.ty),.v (.int .i64 d.p.v.n),.v (.string d.p.v.s),.ow 78 7 (d.p.l.map DPred.o)]) (by simpa only[go_sem] using(YS d.p (k) (by omega) _ a1_0 (by omega) (by omega))) rfl ⟨rfl,rfl,rfl,rfl,rfl,rfl,rfl,rfl,rfl,rfl,rfl,rfl,rfl,rfl,rfl,rfl,Gu _,by simp,trivial⟩ rfl (.inl rfl) fun cl' rs hM=>?_
 obtain⟨R0,m0,rfl,rfl,g0_1,g0_2,g0_3⟩:=hM
 refine⟨⟨rfl,rfl,rfl,rfl,rfl,rfl,rfl,⟨rfl,rfl⟩,trivial⟩, ?_⟩
 simp only[go_sem]
 refine MutK.mk false (zs:=[.ref 1]) (Gf d.out (m0) (by omega) (Ae d.p l) a1_1 (by omega) (by omega)) rfl ⟨rfl,rfl,rfl,rfl,Bj _,by simp,trivial⟩ rfl (.inr rfl) fun cl' rs hM=>?_
 obtain⟨R1,m1,rfl,rfl,g1_1,g1_2,g1_3⟩:=hM
 refine⟨⟨rfl,⟨rfl,rfl⟩,trivial⟩, ?_⟩
 simp only[go_sem]
 exact⟨[.v (.int .i64 d.kind),.v (.int .i64 d.p.kind),.v (.int .i64 d.p.col),.v (.int .i64 d.p.op),.v (.int .i64 d.p.v.ty),.v (.int .i64 d.p.v.n),.v (.string d.p.v.s),.ref 0,.v (.int .i64 d.col),.ref 1],[.v (.int .i64 d.kind),.v (.int .i64 d.p.kind),.v (.int .i64 d.p.col),.v (.int .i64 d.p.op),.v (.int .i64 d.p.v.ty),.v (.int .i64 d.p.v.n),.v (.string d.p.v.s),.ow 78 7 R0,.v (.int .i64 d.col),.ow 3 1 R1],[.c (.v (.int .i64 m1))],rfl,.inl rfl,⟨rfl,rfl,rfl,rfl,rfl,rfl,rfl,rfl,rfl,rfl,rfl,rfl,rfl,rfl,rfl,rfl,rfl,rfl,BC g0_3,by simp,rfl,rfl,rfl,rfl,rfl,rfl,BC g1_3,by simp,trivial⟩,by simp only[CO,DX,Bool.and_true,Bool.true_and,g0_3,g1_3],rfl,rfl,R0,R1,m1,rfl,rfl,by omega,by omega,g0_3,g1_3⟩
def AAk (d:DDir) (k l:Int) (cl':List Cl) (rs:List AV):Prop:=∃ (R0:List (List Cl)) (k':Int),cl' = [.v (.int .i64 d.ver),.ow 56 5 R0]∧rs = [.c (.v (.int .i64 k'))]∧k≤k'∧k'+64*Dx d l≤k+64*l∧D_ R0=true
theorem aQ (d:DDir) (k:Int) (hk:0≤k) (l:Int) (h0:0≤Dx d l) (hl:l≤1048576) (hb:k+64*l≤1099511627776):MCtr Tryz.prog 77 true d.o [.c (.v (.int .i64 k))] (AAk d k l):=by
 have d1:=h0
 rw[Jm] at d1
 obtain⟨a1_0,b1_0,e1_0⟩:=AP d1
 have w1_0:=(Au a1_0 (by omega)).2
 have P9:Dx d l=(CV d.l.length l):=(Jm d l).trans (e1_0)
 refine MCtr.mk (fn:=Tryz.f77) Tryz.call77 Tryz.func77 rfl mixed Tryz.ntmps77 Tryz.results77 (by kernel_rfl) rfl (.inl rfl) fun us hw0 hw=>?_
 simp only[go_sem]
 refine MutK.mk false (zs:=[.ref 0]) (Qq d.l (k) (by omega) l a1_0 (by omega) (by omega)) rfl ⟨rfl,rfl,rfl,rfl,QI _,by simp,trivial⟩ rfl (.inr rfl) fun cl' rs hM=>?_
 obtain⟨R0,m0,rfl,rfl,g0_1,g0_2,g0_3⟩:=hM
 refine⟨⟨rfl,⟨rfl,rfl⟩,trivial⟩, ?_⟩
 simp only[go_sem]
 exact⟨[.v (.int .i64 d.ver),.ref 0],[.v (.int .i64 d.ver),.ow 56 5 R0],[.c (.v (.int .i64 m0))],rfl,.inl rfl,⟨rfl,rfl,rfl,rfl,rfl,rfl,BC g0_3,by simp,trivial⟩,by simp only[CO,DX,Bool.and_true,Bool.true_and,g0_3],rfl,rfl,R0,m0,rfl,rfl,by omega,by omega,g0_3⟩
def sU (d:DConf) (k l:Int) (cl':List Cl) (rs:List AV):Prop:=∃ (R0:List (List Cl)) (k':Int),cl' = [.ow 3 1 R0,.v (.int .i64 d.slots),.v (.int .i64 d.bufs)]∧rs = [.c (.v (.int .i64 k'))]∧k≤k'∧k'+64*Be d l≤k+64*l∧D_ R0=true
theorem YT (d:DConf) (k:Int) (hk:0≤k) (l:Int) (h0:0≤Be d l) (hl:l≤1048576) (hb:k+64*l≤1099511627776):MCtr Tryz.prog 76 true d.o [.c (.v (.int .i64 k))] (sU d k l):=by
 have d1:=h0
 rw[Ig] at d1
 obtain⟨a1_0,b1_0,e1_0⟩:=AP d1
 have w1_0:=(Au a1_0 (by omega)).2
 have P9:Be d l=(CV d.cols.length l):=(Ig d l).trans (e1_0)
 refine MCtr.mk (fn:=Tryz.f76) Tryz.call76 Tryz.func76 rfl mixed Tryz.ntmps76 Tryz.results76 (by kernel_rfl) rfl (.inl rfl) fun us hw0 hw=>?_
 simp only[go_sem]
 refine MutK.mk false (zs:=[.ref 0]) (Gf d.cols (k) (by omega) l a1_0 (by omega) (by omega)) rfl ⟨rfl,rfl,rfl,rfl,Bj _,by simp,trivial⟩ rfl (.inr rfl) fun cl' rs hM=>?_
 obtain⟨R0,m0,rfl,rfl,g0_1,g0_2,g0_3⟩:=hM
 refine⟨⟨rfl,⟨rfl,rfl⟩,trivial⟩, ?_⟩
 simp only[go_sem]
 exact⟨[.ref 0,.v (.int .i64 d.slots),.v (.int .i64 d.bufs)],[.ow 3 1 R0,.v (.int .i64 d.slots),.v (.int .i64 d.bufs)],[.c (.v (.int .i64 m0))],rfl,.inl rfl,⟨rfl,rfl,rfl,rfl,BC g0_3,by simp,rfl,rfl,rfl,rfl,trivial⟩,by simp only[CO,DX,Bool.and_true,Bool.true_and,g0_3],rfl,rfl,R0,m0,rfl,rfl,by omega,by omega,g0_3⟩
def nV (d:DWorld) (k l:Int) (cl':List Cl) (rs:List AV):Prop:=∃ (R0 R1 R2 R3 R4 R5 R6 R7:List (List Cl)) (k':Int),cl' = [.ow 3 1 R0,.v (.int .i64 d.c0.slots),.v (.int .i64 d.c0.bufs),.v (.int .i64 d.time),.v (.int .i64 d.t),.v (.int .i64 d.e),.v (.int .i64 d.d.ver),.ow 56 5 R1,.ow 101 5 R2,.ow 3 1 R3,.ow 168 3 R4,.ow 3 1 R5,.ow 172 25 R6,.ow 175 25 R7]∧rs = [.c (.v (.int .i64 k'))]∧k≤k'∧k'+64*Fh d l≤k+64*l∧D_ R0=true∧D_ R1=true∧D_ R2=true∧D_ R3=true∧D_ R4=true∧D_ R5=true∧D_ R6=true∧D_ R7=true
theorem Oq (d:DWorld) (k:Int) (hk:0≤k) (l:Int) (h0:0≤Fh d l) (hl:l≤1048576) (hb:k+64*l≤1099511627776):MCtr Tryz.prog 22 true d.o [.c (.v (.int .i64 k))] (nV d k l):=by
 have d1:=h0
 rw[J8] at d1
 obtain⟨a1_0,b1_0,e1_0⟩:=AP d1
 have w1_0:=(TJ d.c0 _ a1_0 (by omega)).2
 have d2:=a1_0
 rw[Ig] at d2
 obtain⟨a2_0,b2_0,e2_0⟩:=AP d2
 have w2_0:=(Au a2_0 (by omega)).2
 have eq2:Be d.c0 l=(CV d.c0.cols.length l):=(Ig d.c0 l).trans (e2_0)
 obtain⟨a1_1,b1_1,e1_1⟩:=AP b1_0
 have w1_1:=(VU d.d _ a1_1 (by omega)).2
 have d3:=a1_1
 rw[Jm] at d3
 obtain⟨a3_0,b3_0,e3_0⟩:=AP d3
 have w3_0:=(Au a3_0 (by omega)).2
 have eq3:Dx d.d (Be d.c0 l)=(CV d.d.l.length (Be d.c0 l)):=(Jm d.d (Be d.c0 l)).trans (e3_0)
 obtain⟨a1_2,b1_2,e1_2⟩:=AP b1_1
 have w1_2:=(CQ d.b (fun x _=>QG x) a1_2 (by omega)).2
 obtain⟨a1_3,b1_3,e1_3⟩:=AP b1_2
 have w1_3:=(Au a1_3 (by omega)).2
 obtain⟨a1_4,b1_4,e1_4⟩:=AP b1_3
 have w1_4:=(Au a1_4 (by omega)).2
 obtain⟨a1_5,b1_5,e1_5⟩:=AP b1_4
 have w1_5:=(Au a1_5 (by omega)).2
 obtain⟨a1_6,b1_6,e1_6⟩:=AP b1_5
 have w1_6:=(CQ d.tasks (fun x _=>N7 x) a1_6 (by omega)).2
 obtain⟨a1_7,b1_7,e1_7⟩:=AP b1_6
 have w1_7:=(CQ d.deeds (fun x _=>N9 x) a1_7 (by omega)).2
 have P9:Fh d l=(A_ Dn d.deeds (A_ DR d.tasks (CV d.p.length (CV d.x.length (CV d.m.length (A_ DC d.b (Dx d.d (Be d.c0 l)))))))):=(J8 d l).trans ((e1_0).trans ((e1_1).trans ((e1_2).trans ((e1_3).trans ((e1_4).trans ((e1_5).trans ((e1_6).trans (e1_7))))))))
 refine MCtr.mk (fn:=Tryz.f22) Tryz.call22 Tryz.func22 rfl mixed Tryz.ntmps22 Tryz.results22 (by kernel_rfl) rfl (.inl rfl) fun us hw0 hw=>?_
 simp only[go_sem]
 refine MutK.mk true (zs:=[.ref 0,.v (.int .i64 d.c0.slots),.v (.int .i64 d.c0.bufs)]) (cl:=[.ow 3 1 (d.c0.cols.map intC),.v (.int .i64 d.c0.slots),.v (.int .i64 d.c0.bufs)]) (by simpa only[go_sem] using(YT d.c0 (k) (by omega) _ a1_0 (by omega) (by omega))) rfl ⟨rfl,rfl,rfl,rfl,Bj _,by simp,rfl,rfl,rfl,rfl,trivial⟩ rfl (.inl rfl) fun cl' rs hM=>?_
 obtain⟨R0,m0,rfl,rfl,g0_1,g0_2,g0_3⟩:=hM
 refine⟨⟨rfl,⟨rfl,rfl⟩,rfl,rfl,trivial⟩, ?_⟩
 simp only[go_sem]
 refine MutK.mk true (zs:=[.v (.int .i64 d.d.ver),.ref 1]) (cl:=[.v (.int .i64 d.d.ver),.ow 56 5 (d.d.l.map DRef.c)]) (by simpa only[go_sem] using(aQ d.d (m0) (by omega) _ a1_1 (by omega) (by omega))) rfl ⟨rfl,rfl,rfl,rfl,rfl,rfl,QI _,by simp,trivial⟩ rfl (.inl rfl) fun cl' rs hM=>?_
 obtain⟨R1,m1,rfl,rfl,g1_1,g1_2,g1_3⟩:=hM
 refine⟨⟨rfl,rfl,⟨rfl,rfl⟩,trivial⟩, ?_⟩
 simp only[go_sem]
 refine MutK.mk false (zs:=[.ref 2]) (YR d.b (m1) (by omega) (Dx d.d (Be d.c0 l)) a1_2 (by omega) (by omega)) rfl ⟨rfl,rfl,rfl,rfl,Wv _,by simp,trivial⟩ rfl (.inr rfl) fun cl' rs hM=>?_
 obtain⟨R2,m2,rfl,rfl,g2_1,g2_2,g2_3⟩:=hM
 refine⟨⟨rfl,⟨rfl,rfl⟩,trivial⟩, ?_⟩
 simp only[go_sem]
 refine MutK.mk false (zs:=[.ref 3]) (Gf d.m (m2) (by omega) (A_ DC d.b (Dx d.d (Be d.c0 l))) a1_3 (by omega) (by omega)) rfl ⟨rfl,rfl,rfl,rfl,Bj _,by simp,trivial⟩ rfl (.inr rfl) fun cl' rs hM=>?_
 obtain⟨R3,m3,rfl,rfl,g3_1,g3_2,g3_3⟩:=hM
 refine⟨⟨rfl,⟨rfl,rfl⟩,trivial⟩, ?_⟩
 simp only[go_sem]
 refine MutK.mk false (zs:=[.ref 4]) (WM d.x (m3) (by omega) (CV d.m.length (A_ DC d.b (Dx d.d (Be d.c0 l)))) a1_4 (by omega) (by omega)) rfl ⟨rfl,rfl,rfl,rfl,Wx _,by simp,trivial⟩ rfl (.inr rfl) fun cl' rs hM=>?_
 obtain⟨R4,m4,rfl,rfl,g4_1,g4_2,g4_3⟩:=hM
 refine⟨⟨rfl,⟨rfl,rfl⟩,trivial⟩, ?_⟩
 simp only[go_sem]
 refine MutK.mk false (zs:=[.ref 5]) (Gf d.p (m4) (by omega) (CV d.x.length (CV d.m.length (A_ DC d.b (Dx d.d (Be d.c0 l))))) a1_5 (by omega) (by omega)) rfl ⟨rfl,rfl,rfl,rfl,Bj _,by simp,trivial⟩ rfl (.inr rfl) fun cl' rs hM=>?_
 obtain⟨R5,m5,rfl,rfl,g5_1,g5_2,g5_3⟩:=hM
 refine⟨⟨rfl,⟨rfl,rfl⟩,trivial⟩, ?_⟩
 simp only[go_sem]
 refine MutK.mk false (zs:=[.ref 6]) (WN d.tasks (m5) (by omega) (CV d.p.length (CV d.x.length (CV d.m.length (A_ DC d.b (Dx d.d (Be d.c0 l)))))) a1_6 (by omega) (by omega)) rfl ⟨rfl,rfl,rfl,rfl,SH _,by simp,trivial⟩ rfl (.inr rfl) fun cl' rs hM=>?_
 obtain⟨R6,m6,rfl,rfl,g6_1,g6_2,g6_3⟩:=hM
 refine⟨⟨rfl,⟨rfl,rfl⟩,trivial⟩, ?_⟩
 simp only[go_sem]
 refine MutK.mk false (zs:=[.ref 7]) (WO d.deeds (m6) (by omega) (A_ DR d.tasks (CV d.p.length (CV d.x.length (CV d.m.length (A_ DC d.b (Dx d.d (Be d.c0 l))))))) a1_7 (by omega) (by omega)) rfl ⟨rfl,rfl,rfl,rfl,SI _,by simp,trivial⟩ rfl (.inr rfl) fun cl' rs hM=>?_
 obtain⟨R7,m7,rfl,rfl,g7_1,g7_2,g7_3⟩:=hM
 refine⟨⟨rfl,⟨rfl,rfl⟩,trivial⟩, ?_⟩
 simp only[go_sem]
 exact⟨[.ref 0,.v (.int .i64 d.c0.slots),.v (.int .i64 d.c0.bufs),.v (.int .i64 d.time),.v (.int .i64 d.t),.v (.int .i64 d.e),.v (.int .i64 d.d.ver),.ref 1,.ref 2,.ref 3,.ref 4,.ref 5,.ref 6,.ref 7],[.ow 3 1 R0,.v (.int .i64 d.c0.slots),.v (.int .i64 d.c0.bufs),.v (.int .i64 d.time),.v (.int .i64 d.t),.v (.int .i64 d.e),.v (.int .i64 d.d.ver),.ow 56 5 R1,.ow 101 5 R2,.ow 3 1 R3,.ow 168 3 R4,.ow 3 1 R5,.ow 172 25 R6,.ow 175 25 R7],[.c (.v (.int .i64 m7))],rfl,.inl rfl,⟨rfl,rfl,rfl,rfl,BC g0_3,by simp,rfl,rfl,rfl,rfl,rfl,rfl,rfl,rfl,rfl,rfl,rfl,rfl,rfl,rfl,rfl,rfl,BC g1_3,by simp,rfl,rfl,rfl,rfl,BC g2_3,by simp,rfl,rfl,rfl,rfl,BC g3_3,by simp,rfl,rfl,rfl,rfl,BC g4_3,by simp,rfl,rfl,rfl,rfl,BC g5_3,by simp,rfl,rfl,rfl,rfl,BC g6_3,by simp,rfl,rfl,rfl,rfl,BC g7_3,by simp,trivial⟩,by simp only[CO,DX,Bool.and_true,Bool.true_and,g0_3,g1_3,g2_3,g3_3,g4_3,g5_3,g6_3,g7_3],rfl,rfl,R0,R1,R2,R3,R4,R5,R6,R7,m7,rfl,rfl,by omega,by omega,g0_3,g1_3,g2_3,g3_3,g4_3,g5_3,g6_3,g7_3⟩
end Go.Proofs.YthoeeoddgkjkkaaGreat
