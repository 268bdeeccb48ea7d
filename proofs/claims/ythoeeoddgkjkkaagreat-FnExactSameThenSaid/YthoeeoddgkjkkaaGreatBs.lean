/- Marks: ints and texts; what a marked slice is. -/
import Derived.Test.YthoeeoddgkjkkaaGreatOa
namespace Go.Proofs.YthoeeoddgkjkkaaGreat
set_option linter.unusedSimpArgs false
set_option linter.unusedVariables false
set_option linter.unusedSimpArgs false
set_option linter.unusedVariables false
open Go.Vm
set_option maxHeartbeats 1000000
set_option maxRecDepth 10000
theorem cloE_map {α : Type} {f : α → List Cl} {l : List α} (h : ∀ x,cloL (f x) = true) : cloE (l.map f) = true:=cloE_of fun x hx=>by
 obtain ⟨y,_,rfl⟩:=List.mem_map.1 hx
 exact h y
theorem clo_noRefOb {N ty sz : Nat} {R : List (List Cl)} {wr live : Bool} (h : cloE R = true) : noRefOb N ⟨ty,sz,R,wr,live⟩ = true:=by
 simp only [noRefOb,Bool.or_eq_true]
 exact .inr (List.all_eq_true.2 fun x hx=>nr_noRef (cloL_nr (cloE_mem h x hx)))
theorem clo_set {R : List (List Cl)} {i : Nat} {x : List Cl} (h : cloE R = true) (hx : cloL x = true) : cloE (R.set i x) = true:=cloE_of fun y hy=>by
 rcases List.mem_or_eq_of_mem_set hy with h' | rfl
 ·exact cloE_mem h y h'
 ·exact hx
theorem set_self {R : List (List Cl)} {i : Nat} (hi : i < R.length) (x : List Cl) : (R.set i x)[i]? = some x:=by simp [hi]
def MkS (ty sz : Nat) (k l l' : Int) (cl' : List Cl) (rs : List AV) : Prop:=∃ (R : List (List Cl)) (k' : Int),cl' = [.ow ty sz R] ∧ rs = [.c (.v (.int .i64 k'))] ∧ k ≤ k' ∧ k' + 64 * l' ≤ k + 64 * l ∧ cloE R = true
def MkP {α : Type} (f : α → List Cl) (sz : α → Int → Int) (xs : List α) (k l lf : Int) (x : Nat × List (List Cl) × Int × Int) : Prop :=
 x.1 ≤ xs.length ∧ x.2.1.length = xs.length ∧ (∀ (j : Nat) (h : j < xs.length),x.1 ≤ j → x.2.1[j]? = some (f xs[j])) ∧ cloE x.2.1 = true ∧ k ≤ x.2.2.1 ∧ x.2.2.1 + 64 * x.2.2.2 ≤ k + 64 * (l - xs.length + x.1) ∧ szL sz (xs.drop x.1) x.2.2.2 = lf ∧ x.2.2.2 ≤ l
theorem szI_val {n : Nat} {l : Int} (h : 0 ≤ szI n l) : szI n l = l - n:=by
 unfold szI at h ⊢
 split at h
 ·omega
 ·rename_i h2; rw [if_neg h2]
theorem MkP.start {α : Type} {f : α → List Cl} {sz : α → Int → Int} {xs : List α} {k l : Int} (hf : ∀ x,cloL (f x) = true) (h0 : 0 ≤ szS sz xs l) : MkP f sz xs k l (szS sz xs l) (0,xs.map f,k,l - xs.length):=by
 obtain ⟨s1,s2,s3⟩:=sq_fit h0
 have e:=szI_val s1
 refine ⟨Nat.zero_le _,by simp,fun j h _=>by simp [h],cloE_map hf,Int.le_refl _,by simp only; omega, ?_,by simp only; omega⟩
 simp only [List.drop_zero]
 rw [← e]
 exact s3.symm
theorem MkP.room {α : Type} {f : α → List Cl} {sz : α → Int → Int} {xs : List α} {k l lf : Int} {i : Nat} {R : List (List Cl)} {k1 l1 : Int} (h : MkP f sz xs k l lf (i,R,k1,l1)) (hi : i < xs.length) (h0 : 0 ≤ lf) :
  0 ≤ sz xs[i] l1 ∧ R[i]? = some (f xs[i]) ∧ i < R.length ∧ k ≤ k1 ∧ k1 + 64 * l1 ≤ k + 64 * l - 64 ∧ l1 ≤ l:=by
 obtain ⟨a1,a2,a3,a4,a5,a6,a7,a8⟩:=h
 dsimp only at *
 rw [List.drop_eq_getElem_cons hi,szL] at a7
 rw [← a7] at h0
 obtain ⟨s1,s2,s3⟩:=sq_fit h0
 exact ⟨s1,a3 i hi (Nat.le_refl _),by omega,a5,by omega,a8⟩
theorem MkP.step {α : Type} {f : α → List Cl} {sz : α → Int → Int} {xs : List α} {k l lf : Int} {i : Nat} {R : List (List Cl)} {k1 l1 : Int} (h : MkP f sz xs k l lf (i,R,k1,l1)) (hi : i < xs.length) (h0 : 0 ≤ lf) {row : List Cl} {k2 : Int} (hr : cloL row = true) (hk : k1 ≤ k2) (hk2 : k2 + 64 * sz xs[i] l1 ≤ k1 + 64 * l1 + 64) (hl : sz xs[i] l1 ≤ l1) :
  MkP f sz xs k l lf (i + 1,R.set i row,k2,sz xs[i] l1):=by
 obtain ⟨a1,a2,a3,a4,a5,a6,a7,a8⟩:=h
 dsimp only at *
 rw [List.drop_eq_getElem_cons hi,szL] at a7
 have h0':=h0
 rw [← a7] at h0'
 obtain ⟨s1,s2,s3⟩:=sq_fit h0'
 refine ⟨hi,by simpa using a2,fun j hj hij=>?_,clo_set a4 hr,by simp only; omega,by simp only; omega,by simp only; rw [← s3]; exact a7,by simp only; omega⟩
 simp only at hij ⊢
 rw [List.getElem?_set_ne (by omega)]
 exact a3 j hj (by omega)
theorem MkP.done {α : Type} {f : α → List Cl} {sz : α → Int → Int} {xs : List α} {k l lf : Int} {i : Nat} {R : List (List Cl)} {k1 l1 : Int} (ty n : Nat) (h : MkP f sz xs k l lf (i,R,k1,l1)) (hi : i = xs.length) : cloE R = true ∧ MkS ty n k l lf [.ow ty n R] [.c (.v (.int .i64 k1))]:=by
 obtain ⟨a1,a2,a3,a4,a5,a6,a7,a8⟩:=h
 dsimp only at *
 subst hi
 rw [List.drop_length] at a7
 simp only [szL] at a7
 exact ⟨a4,R,k1,rfl,rfl,a5,by omega,a4⟩
theorem MCtr.mono {P : Program} {f : FuncId} {g : Bool} {cl : List Cl} {args : List AV} {Q Q' : List Cl → List AV → Prop} (h : MCtr P f g cl args Q) (hQ : ∀ cl' rs,Q cl' rs → Q' cl' rs) : MCtr P f g cl args Q' :=
 ⟨h.1,h.2.1,fun w St us G vs h1 h2 h3 h4=>(h.2.2 w St us G vs h1 h2 h3 h4).mono fun e w' hb=>by
  obtain ⟨cl',rs,rv,G',h0,hr⟩:=hb
  exact ⟨cl',rs,rv,G',hQ _ _ h0,hr⟩⟩
def markI (k : Int) (n : Nat) : List Int:=(List.range n).map fun (j : Nat)=>k + (j : Int)
theorem markIntS_spec (xs : List Int) (k : Int) (hk : 0 ≤ k) (hb : k + xs.length ≤ 1099511627776) :
  MCtr Tryz.prog 79 false [.ow 3 1 (xs.map intC)] [.c (.v (.int .i64 k))] (fun cl' rs=>cl' = [.ow 3 1 ((markI k xs.length).map intC)] ∧ rs = [.c (.v (.int .i64 (k + xs.length)))]):=by
 refine MCtr.mk (fn:=Tryz.f79) Tryz.call79 Tryz.func79 rfl mixed Tryz.ntmps79 Tryz.results79 (by kernel_rfl) rfl (.inr rfl) fun us hw0 hw=>?_
 simp only [go_sem]
 refine LoopK.mk 1 [0,1,5] (A:=Nat × List Int) (fun x=>⟨19,[(0,.pin (.c (.ref 0)) (mkV false us)),(1,.c (.v (.int .i64 (k + x.1)))),(5,.c (.v (.int .i64 x.1)))],[⟨3,1,x.2.map intC,true,true⟩]⟩)
  (fun x=>x.1 ≤ xs.length ∧ x.2.length = xs.length ∧ ∀ j : Nat,j < x.1 → x.2[j]? = some (k + (j : Int))) (fun x=>xs.length - x.1) (0,xs) ⟨⟨rfl,by simp only [List.take_succ_cons,List.take_zero,List.all_cons,List.all_nil,Bool.and_true]; exact clo_noRefOb (cloE_map fun _=>rfl)⟩,by simp [trim,eget],by simp,rfl,fun j hj=>by omega⟩ ?_
 rintro ⟨i,ys⟩ ⟨h1,h2,h3⟩
 dsimp only at h1 h2 h3
 simp only [go_sem,List.length_map]
 refine cndC.mk (fun h=>?_) (fun h=>?_)
 ·have hi : i < ys.length:=by simpa using h
  have hset : ∀ n : Int,(ys.map intC).set i [Cl.v (.int .i64 n)] = (ys.set i n).map intC:=fun n=>by rw [List.map_set]; rfl
  have e1 : (ys.map intC)[i]? = some [.v (.int .i64 ys[i])]:=by simp [hi,intC]
  simp only [go_sem,List.length_map,e1,hi,hset,wrap_i64 (n:=(k + (i : Int)) + 1) (by omega) (by omega),wrap_i64 (n:=(i : Int) + 1) (by omega) (by omega)]
  refine ⟨(i + 1,ys.set i (k + i)),⟨rfl, ?_⟩, ?_,⟨by simp only; omega,by simp only [List.length_set]; exact h2,fun j hj=>?_⟩,by simp only; omega⟩
  ·simp only [List.take_succ_cons,List.take_zero,List.all_cons,List.all_nil,Bool.and_true]; exact clo_noRefOb (cloE_map fun _=>rfl)
  ·simp [trim,eget]; omega
  ·simp only at hj ⊢
   rw [List.getElem?_set]
   by_cases e : i = j
   ·subst e; simp [hi]
   ·simp only [e,if_false]; exact h3 j (by omega)
 ·have hi : i = xs.length:=by simp at h; omega
  subst hi
  have : ys = markI k xs.length:=by
   unfold markI
   apply List.ext_getElem?
   intro j
   rcases Nat.lt_or_ge j xs.length with hj | hj
   ·rw [h3 j hj]; simp [hj]
   ·rw [List.getElem?_eq_none (by omega),List.getElem?_eq_none (by simpa using hj)]
  subst this
  simp only [go_sem]
  exact ⟨[.ref 0],[.ow 3 1 ((markI k xs.length).map intC)],[.c (.v (.int .i64 (k + xs.length)))],rfl,.inr rfl,⟨rfl,rfl,rfl,rfl,nr_int _,by simp,trivial⟩,by simp only [cloL,cloC,Bool.and_true]; exact cloE_map fun _=>rfl,rfl,rfl,rfl,rfl⟩
def markD : Nat → Int → ByteArray → ByteArray
 | 0,_,out=>out
 | n + 1,k,out=>if k > 0 then markD n (k.tdiv 10) (strOfNums [IntKind.u8.wrap (48 + k.tmod 10)] ++ out) else out
def markTx (k : Int) : ByteArray:=if k ≤ 0 then ByteArray.mk #[109,48] else ByteArray.mk #[109] ++ markD 19 k (ByteArray.mk #[])
theorem strOf1 (n : Int) : (strOfNums [n]).size = 1:=by rw [strOfNums_size]; rfl
theorem markText_spec (k : Int) (hk : 0 ≤ k) (hb : k ≤ 4000000000000000000) : Ctr Tryz.prog 125 [.c (.v (.int .i64 k))] [.val (.c (.v (.string (markTx k))))]:=by
 refine Ctr.mk Tryz.call125 Tryz.func125 rfl mixed Tryz.ntmps125 Tryz.results125 (by kernel_rfl) rfl fun hw=>?_
 by_cases h0 : k ≤ 0
 ·simp only [go_sem,h0,markTx]
 ·simp only [go_sem,h0,markTx]
  refine LoopK.mk 0 [0,3] (A:=Nat × Int × ByteArray) (fun x=>⟨20,[(0,.c (.v (.int .i64 x.2.1))),(3,.c (.v (.string x.2.2)))],[]⟩)
   (fun x=>markD x.1 x.2.1 x.2.2 = markD 19 k (ByteArray.mk #[]) ∧ 0 ≤ x.2.1 ∧ x.2.1.toNat < 10 ^ x.1 ∧ x.2.2.size + x.1 ≤ 19 ∧ x.2.1 ≤ k) (fun x=>x.1) (19,k,ByteArray.mk #[]) ⟨⟨rfl,rfl⟩,by simp [trim,eget],rfl,hk,by show k.toNat < 10 ^ 19; omega,by show _ ≤ _; simp [ByteArray.size],Int.le_refl _⟩ ?_
  rintro ⟨n,j,out⟩ ⟨h1,h2,h3,h4,h5⟩
  dsimp only at h1 h2 h3 h4 h5
  simp only [go_sem]
  refine cndC.mk (fun h=>?_) (fun h=>?_)
  ·have hj : 0 < j:=by simpa using h
   cases n with
   | zero=>simp at h3; omega
   | succ n =>
    have hm1 : 0 ≤ j.tmod 10:=Int.tmod_nonneg 10 h2
    have hm2 : j.tmod 10 < 10:=Int.tmod_lt_of_pos j (by omega)
    have hd1 : 0 ≤ j.tdiv 10:=Int.tdiv_nonneg h2 (by omega)
    have hd2 : j.tdiv 10 ≤ j:=Int.tdiv_le_self _ h2
    have hd3 : (j.tdiv 10).toNat < 10 ^ n:=by
     rw [Int.tdiv_eq_ediv_of_nonneg h2]
     rw [Nat.pow_succ] at h3
     omega
    have hb2 : j.toNat < 10 ^ 19:=Nat.lt_of_lt_of_le h3 (Nat.pow_le_pow_right (by omega) (by omega))
    have h10 : ((10 : Int) = 0) = False:=by simp
    have hsz : (strOfNums [IntKind.u8.wrap (48 + j.tmod 10)]).size + out.size ≤ maxLen:=by rw [strOf1]; simp only [maxLen]; omega
    simp only [go_sem,wrap_i64 (n:=j.tmod 10) (by omega) (by omega),wrap_i64 (n:=48 + j.tmod 10) (by omega) (by omega),wrap_i64 (n:=j.tdiv 10) (by omega) (by omega),hsz,h10,Option.getD_some]
    refine ⟨(n,j.tdiv 10,_),⟨rfl,rfl⟩,rfl,⟨?_,hd1,hd3, ?_,by simp only; omega⟩,by simp only; omega⟩
    ·rw [← h1]
     show _ = if j > 0 then _ else _
     rw [if_pos hj]
    ·simp only [ByteArray.size_append,strOf1]; omega
  ·have hj : j = 0:=by simp at h; omega
   subst hj
   have hd : ∀ n out,markD n 0 out = out:=fun n out=>by cases n <;> rfl
   rw [hd] at h1
   have hsz : (#[109] : Array UInt8).size + (markD 19 k (ByteArray.mk #[])).size ≤ maxLen:=by rw [← h1]; show 1 + _ ≤ 9223372036854775807; omega
   simp only [go_sem,h1,hsz]
theorem szL_id {α : Type} : ∀ (xs : List α) (l : Int),0 ≤ l → szL (fun _ l=>l) xs l = l
 | [],l,_=>rfl
 | x :: xs,l,h=>by
  simp only [szL]
  rw [sq_pos (by omega)]
  exact szL_id xs l h
theorem szS_id {α : Type} (xs : List α) (l : Int) (h : 0 ≤ szI xs.length l) : szS (fun _ l=>l) xs l = szI xs.length l:=by
 unfold szS
 rw [sq_pos (by omega)]
 exact szL_id xs _ h
theorem clo_all1 {N ty sz : Nat} {R : List (List Cl)} {wr live : Bool} (h : cloE R = true) : [(⟨ty,sz,R,wr,live⟩ : Ob)].all (noRefOb N) = true:=by
 simp only [List.all_cons,List.all_nil,Bool.and_true]
 exact clo_noRefOb h
theorem markIntS_sp (xs : List Int) (k : Int) (hk : 0 ≤ k) (l : Int) (h0 : 0 ≤ szI xs.length l) (hl : l ≤ 1048576) (hb : k + 64 * l ≤ 1099511627776) :
  MCtr Tryz.prog 79 false [.ow 3 1 (xs.map intC)] [.c (.v (.int .i64 k))] (MkS 3 1 k l (szI xs.length l)):=by
 have e:=szI_val h0
 refine MCtr.mono (markIntS_spec xs k hk (by omega)) fun cl' rs h=>?_
 obtain ⟨rfl,rfl⟩:=h
 exact ⟨_,_,rfl,rfl,by omega,by omega,cloE_map fun _=>rfl⟩
end Go.Proofs.YthoeeoddgkjkkaaGreat
/- The laws' marks: by program (gen_data.py). -/
namespace Go.Proofs.YthoeeoddgkjkkaaGreat
set_option linter.unusedSimpArgs false
set_option linter.unusedVariables false
open Go.Vm
set_option maxHeartbeats 2000000
set_option maxRecDepth 10000
theorem clo_int (l : List Int) : cloE (l.map intC) = true:=cloE_map fun _=>rfl
theorem clo_byte (l : List Int) : cloE (l.map byteC) = true:=cloE_map fun _=>rfl
theorem clo_Val (l : List DVal) : cloE (l.map DVal.c) = true:=cloE_map fun _=>rfl
theorem clo_DRow (d : DRow) : cloL d.o = true:=by
 rw [DRow.o_eq]
 simp [cloL,cloC,clo_Val]
theorem clo_Row (l : List DRow) : cloE (l.map DRow.o) = true:=cloE_map clo_DRow
theorem clo_DPred_fuel : ∀ (n : Nat) (d : DPred),SizeOf.sizeOf d ≤ n → cloL d.o = true
 | 0,d,h=>by cases d; simp at h
 | n + 1,d,h=>by
  have hm : cloE (d.l.map DPred.o) = true:=cloE_of fun y hy=>by
   obtain ⟨x,hx,rfl⟩:=List.mem_map.1 hy
   refine clo_DPred_fuel n x ?_
   have h1 : SizeOf.sizeOf x < SizeOf.sizeOf d.l:=List.sizeOf_lt_of_mem hx
   have h2 : SizeOf.sizeOf d.l < SizeOf.sizeOf d:=by cases d; simp [DPred.l]; omega
   omega
  rw [DPred.o_eq]
  simp [cloL,cloC,hm,DVal.c_eq]
theorem clo_DPred (d : DPred) : cloL d.o = true:=clo_DPred_fuel _ d (Nat.le_refl _)
theorem clo_Pred (l : List DPred) : cloE (l.map DPred.o) = true:=cloE_map clo_DPred
theorem clo_DSlot (d : DSlot) : cloL d.o = true:=by
 rw [DSlot.o_eq]
 simp [cloL,cloC,clo_Val]
theorem clo_Slot (l : List DSlot) : cloE (l.map DSlot.o) = true:=cloE_map clo_DSlot
theorem clo_DBuf (d : DBuf) : cloL d.o = true:=by
 rw [DBuf.o_eq]
 simp [cloL,cloC,DChunk.o_eq,clo_Slot,clo_byte]
theorem clo_Ref (l : List DRef) : cloE (l.map DRef.c) = true:=cloE_map fun _=>rfl
theorem clo_DTask (d : DTask) : cloL d.o = true:=by
 rw [DTask.o_eq]
 simp [cloL,cloC,DPred.o_eq,DQuery.o_eq,DVal.c_eq,clo_Pred,clo_Ref,clo_Row,clo_Val,clo_int]
theorem clo_DDeed (d : DDeed) : cloL d.o = true:=by
 rw [DDeed.o_eq]
 simp [cloL,cloC,DPred.o_eq,DQuery.o_eq,DResult.o_eq,DVal.c_eq,clo_Pred,clo_Row,clo_Val,clo_int]
theorem markByteS_sp (xs : List Int) (k : Int) (hk : 0 ≤ k) (l : Int) (h0 : 0 ≤ szI xs.length l) (hl : l ≤ 1048576) (hb : k + 64 * l ≤ 1099511627776) : MCtr Tryz.prog 124 false [.ow 5 1 (xs.map byteC)] [.c (.v (.int .i64 k))] (MkS 5 1 k l (szI xs.length l)):=by
 have hsz:=szS_id xs l h0
 rw [← hsz] at h0 ⊢
 have hxl:=(szI_fit (sq_fit h0).1 hl).1
 refine MCtr.mk (fn:=Tryz.f124) Tryz.call124 Tryz.func124 rfl mixed Tryz.ntmps124 Tryz.results124 (by kernel_rfl) rfl (.inr rfl) fun us hw0 hw=>?_
 simp only [go_sem]
 refine LoopK.mk 1 [0,1,5] (A:=Nat × List (List Cl) × Int × Int) (fun x=>⟨20,[(0,.pin (.c (.ref 0)) (mkV false us)),(1,.c (.v (.int .i64 x.2.2.1))),(5,.c (.v (.int .i64 x.1)))],[⟨5,1,x.2.1,true,true⟩]⟩)
  (MkP byteC (fun _ l=>l) xs k l (szS (fun _ l=>l) xs l)) (fun x=>xs.length - x.1) (0,xs.map byteC,k,l - xs.length) ⟨⟨rfl,clo_all1 (cloE_map fun d=>rfl)⟩,rfl,MkP.start (fun d=>rfl) h0⟩ ?_
 rintro ⟨i,R,k1,l1⟩ hP
 have hn:=hP.2.1
 dsimp only at hn
 simp only [go_sem,hn]
 refine cndC.mk (fun h=>?_) (fun h=>?_)
 ·have hi : i < xs.length:=by simpa using h
  obtain ⟨q1,q2,q3,q4,q5,q6⟩:=hP.room hi h0
  try dsimp only at q1
  have hset:=set_self (R:=R) (i:=i) q3
  rw [byteC_eq] at q2
  simp only [go_sem,q2,q3,hset,List.set_set,List.length_set,wrap_i64 (n:=k1 + 1) (by omega) (by omega),wrap_i64 (n:=(i : Int) + 1) (by omega) (by omega)]
  refine ⟨(i + 1,R.set i ?row,k1 + 1,l1),⟨rfl, ?tr⟩, ?eq, ?P, ?mu⟩
  case eq=>exact rfl
  case mu=>simp only; omega
  case P=>exact hP.step hi h0 rfl (by omega) (by omega) (Int.le_refl _)
  case tr=>exact clo_all1 (clo_set hP.2.2.2.1 rfl)
 ·have hi : i = xs.length:=by have:=hP.1; simp at h; dsimp only at this; omega
  obtain ⟨y1,y2⟩:=hP.done 5 1 hi
  simp only [go_sem]
  exact ⟨[.ref 0],[.ow 5 1 R],[.c (.v (.int .i64 k1))],rfl,.inr rfl,⟨rfl,rfl,rfl,rfl,cloE_nr y1,by simp,trivial⟩,by simp only [cloL,cloC,y1,Bool.and_true],rfl,rfl,y2⟩
theorem markValS_sp (xs : List DVal) (k : Int) (hk : 0 ≤ k) (l : Int) (h0 : 0 ≤ (szS szVal xs l)) (hl : l ≤ 1048576) (hb : k + 64 * l ≤ 1099511627776) : MCtr Tryz.prog 83 false [.ow 72 3 (xs.map DVal.c)] [.c (.v (.int .i64 k))] (MkS 72 3 k l (szS szVal xs l)):=by
 have hxl:=(szI_fit (sq_fit h0).1 hl).1
 refine MCtr.mk (fn:=Tryz.f83) Tryz.call83 Tryz.func83 rfl mixed Tryz.ntmps83 Tryz.results83 (by kernel_rfl) rfl (.inr rfl) fun us hw0 hw=>?_
 simp only [go_sem]
 refine LoopK.mk 1 [0,1,5] (A:=Nat × List (List Cl) × Int × Int) (fun x=>⟨35,[(0,.pin (.c (.ref 0)) (mkV false us)),(1,.c (.v (.int .i64 x.2.2.1))),(5,.c (.v (.int .i64 x.1)))],[⟨72,3,x.2.1,true,true⟩]⟩)
  (MkP DVal.c szVal xs k l (szS szVal xs l)) (fun x=>xs.length - x.1) (0,xs.map DVal.c,k,l - xs.length) ⟨⟨rfl,clo_all1 (cloE_map fun d=>by rfl)⟩,rfl,MkP.start (fun d=>rfl) h0⟩ ?_
 rintro ⟨i,R,k1,l1⟩ hP
 have hn:=hP.2.1
 dsimp only at hn
 simp only [go_sem,hn]
 refine cndC.mk (fun h=>?_) (fun h=>?_)
 ·have hi : i < xs.length:=by simpa using h
  obtain ⟨q1,q2,q3,q4,q5,q6⟩:=hP.room hi h0
  have q7:=(szVal_fit xs[i] l1 q1 (by omega)).2
  have d1:=q1
  rw [szVal_eq] at d1
  obtain ⟨a1_0,b1_0,e1_0⟩:=sq_fit d1
  have w1_0:=(szI_fit a1_0 (by omega)).2
  have eq1 : szVal xs[i] l1 = (szI xs[i].s.size l1):=(szVal_eq xs[i] l1).trans (e1_0)
  have hset:=set_self (R:=R) (i:=i) q3
  rw [DVal.c_eq] at q2
  have h30 : ((3 : Int) = 0) = False:=by simp
  simp only [go_sem,q2,q3,hset,List.set_set,List.length_set,h30,wrap_i64 (n:=k1 + 1) (by omega) (by omega),wrap_i64 (n:=k1 + 1 + 1) (by omega) (by omega),wrap_i64 (n:=(i : Int) + 1) (by omega) (by omega)]
  refine CallK.mk _ (markText_spec (k1 + 1 + 1) (by omega) (by omega)) fun _=>?_
  simp only [go_sem,q2,q3,hset,List.set_set,List.length_set,h30,wrap_i64 (n:=k1 + 1) (by omega) (by omega),wrap_i64 (n:=k1 + 1 + 1) (by omega) (by omega),wrap_i64 (n:=k1 + 1 + 1 + 1) (by omega) (by omega),wrap_i64 (n:=(i : Int) + 1) (by omega) (by omega)]
  refine ⟨(i + 1,R.set i [.v (.int .i64 (k1)),.v (.int .i64 (k1 + 1)),.v (.string (markTx (k1 + 1 + 1)))],k1 + 1 + 1 + 1,szVal xs[i] l1),⟨rfl, ?tr⟩, ?eq, ?P, ?mu⟩
  case eq=>exact rfl
  case mu=>simp only; omega
  case P=>exact hP.step hi h0 (by simp only [cloL,cloC,Bool.and_true,Bool.true_and]) (by omega) (by omega) q7
  case tr=>exact clo_all1 (clo_set hP.2.2.2.1 (by simp only [cloL,cloC,Bool.and_true,Bool.true_and]))
 ·have hi : i = xs.length:=by have:=hP.1; simp at h; dsimp only at this; omega
  obtain ⟨y1,y2⟩:=hP.done 72 3 hi
  simp only [go_sem]
  exact ⟨[.ref 0],[.ow 72 3 R],[.c (.v (.int .i64 k1))],rfl,.inr rfl,⟨rfl,rfl,rfl,rfl,cloE_nr y1,by simp,trivial⟩,by simp only [cloL,cloC,y1,Bool.and_true],rfl,rfl,y2⟩
theorem markRowS_sp (xs : List DRow) (k : Int) (hk : 0 ≤ k) (l : Int) (h0 : 0 ≤ (szS szRow xs l)) (hl : l ≤ 1048576) (hb : k + 64 * l ≤ 1099511627776) : MCtr Tryz.prog 23 false [.ow 121 2 (xs.map DRow.o)] [.c (.v (.int .i64 k))] (MkS 121 2 k l (szS szRow xs l)):=by
 have hxl:=(szI_fit (sq_fit h0).1 hl).1
 refine MCtr.mk (fn:=Tryz.f23) Tryz.call23 Tryz.func23 rfl mixed Tryz.ntmps23 Tryz.results23 (by kernel_rfl) rfl (.inr rfl) fun us hw0 hw=>?_
 simp only [go_sem]
 refine LoopA.mk 1 0 [0,1,5] (A:=Nat × List (List Cl) × Int × Int) (fun x=>⟨27,[(0,.pin (.c (.ref 0)) (mkV false us)),(1,.c (.v (.int .i64 x.2.2.1))),(5,.c (.v (.int .i64 x.1)))],[⟨121,2,x.2.1,true,true⟩]⟩)
  (MkP DRow.o szRow xs k l (szS szRow xs l)) (fun x=>xs.length - x.1) (0,xs.map DRow.o,k,l - xs.length) ⟨⟨rfl,clo_all1 (cloE_map fun d=>by exact clo_DRow d)⟩,rfl,MkP.start (fun d=>clo_DRow d) h0⟩ ?_
 rintro ⟨i,R,k1,l1⟩ hP
 have hn:=hP.2.1
 dsimp only at hn
 simp only [go_sem,hn]
 refine cndC.mk (fun h=>?_) (fun h=>?_)
 ·have hi : i < xs.length:=by simpa using h
  obtain ⟨q1,q2,q3,q4,q5,q6⟩:=hP.room hi h0
  have q7:=(szRow_fit xs[i] l1 q1 (by omega)).2
  have d1:=q1
  rw [szRow_eq] at d1
  obtain ⟨a1_0,b1_0,e1_0⟩:=sq_fit d1
  have w1_0:=(szS_fit xs[i].l (fun x _=>szVal_fit x) a1_0 (by omega)).2
  have eq1 : szRow xs[i] l1 = (szS szVal xs[i].l l1):=(szRow_eq xs[i] l1).trans (e1_0)
  have hset:=set_self (R:=R) (i:=i) q3
  rw [DRow.o_eq] at q2
  have h30 : ((3 : Int) = 0) = False:=by simp
  simp only [go_sem,q2,q3,hset,List.set_set,List.length_set,h30,wrap_i64 (n:=k1 + 1) (by omega) (by omega),wrap_i64 (n:=(i : Int) + 1) (by omega) (by omega)]
  refine MutK.mk false (zs:=[.ref 1]) (markValS_sp xs[i].l (k1 + 1) (by omega) l1 a1_0 (by omega) (by omega)) rfl ⟨rfl,rfl,rfl,rfl,nr_Val _,by simp,trivial⟩ rfl (.inr rfl) fun cl' rs hM=>?_
  obtain ⟨R1,m1,rfl,rfl,g1_1,g1_2,g1_3⟩:=hM
  refine ⟨⟨rfl,⟨rfl,rfl⟩,trivial⟩, ?_⟩
  simp only [go_sem,q2,q3,hset,List.set_set,List.length_set,h30,wrap_i64 (n:=k1 + 1) (by omega) (by omega),wrap_i64 (n:=(i : Int) + 1) (by omega) (by omega)]
  refine ⟨(i + 1,R.set i [.v (.int .i64 (k1)),.ow 72 3 R1],m1,szRow xs[i] l1),.inr ⟨i,R, ?rowr,[.v (.int .i64 (k1)),.ow 72 3 R1], ?ob,⟨Nat.zero_lt_one, ?e1, ?e2,q3, ?e3⟩, ?own,⟨rfl, ?tr⟩, ?eq⟩, ?P, ?mu⟩
  case e1=>exact rfl
  case e2=>exact rfl
  case e3=>exact rfl
  case own=>exact ⟨rfl,rfl,rfl,rfl,rfl,rfl,cloE_nr g1_3,by simp,fun l hl=>by omega⟩
  case eq=>exact rfl
  case mu=>simp only; omega
  case P=>exact hP.step hi h0 (by simp only [cloL,cloC,Bool.and_true,Bool.true_and,g1_3]) (by omega) (by omega) q7
  case tr=>exact clo_all1 (clo_set hP.2.2.2.1 (by simp only [cloL,cloC,Bool.and_true,Bool.true_and,g1_3]))
 ·have hi : i = xs.length:=by have:=hP.1; simp at h; dsimp only at this; omega
  obtain ⟨y1,y2⟩:=hP.done 121 2 hi
  simp only [go_sem]
  exact ⟨[.ref 0],[.ow 121 2 R],[.c (.v (.int .i64 k1))],rfl,.inr rfl,⟨rfl,rfl,rfl,rfl,cloE_nr y1,by simp,trivial⟩,by simp only [cloL,cloC,y1,Bool.and_true],rfl,rfl,y2⟩
theorem markPredS_of (xs : List DPred) (hx : ∀ x ∈ xs,∀ k l,0 ≤ k → 0 ≤ szS szPred x.l l → l ≤ 1048576 → k + 64 * l ≤ 1099511627776 → MCtr Tryz.prog 126 false [.ow 78 7 (x.l.map DPred.o)] [.c (.v (.int .i64 k))] (MkS 78 7 k l (szS szPred x.l l))) (k : Int) (hk : 0 ≤ k) (l : Int) (h0 : 0 ≤ (szS szPred xs l)) (hl : l ≤ 1048576) (hb : k + 64 * l ≤ 1099511627776) : MCtr Tryz.prog 126 false [.ow 78 7 (xs.map DPred.o)] [.c (.v (.int .i64 k))] (MkS 78 7 k l (szS szPred xs l)):=by
 have hxl:=(szI_fit (sq_fit h0).1 hl).1
 refine MCtr.mk (fn:=Tryz.f126) Tryz.call126 Tryz.func126 rfl mixed Tryz.ntmps126 Tryz.results126 (by kernel_rfl) rfl (.inr rfl) fun us hw0 hw=>?_
 simp only [go_sem]
 refine LoopA.mk 1 0 [0,1,5] (A:=Nat × List (List Cl) × Int × Int) (fun x=>⟨66,[(0,.pin (.c (.ref 0)) (mkV false us)),(1,.c (.v (.int .i64 x.2.2.1))),(5,.c (.v (.int .i64 x.1)))],[⟨78,7,x.2.1,true,true⟩]⟩)
  (MkP DPred.o szPred xs k l (szS szPred xs l)) (fun x=>xs.length - x.1) (0,xs.map DPred.o,k,l - xs.length) ⟨⟨rfl,clo_all1 (cloE_map fun d=>by exact clo_DPred d)⟩,rfl,MkP.start (fun d=>clo_DPred d) h0⟩ ?_
 rintro ⟨i,R,k1,l1⟩ hP
 have hn:=hP.2.1
 dsimp only at hn
 simp only [go_sem,hn]
 refine cndC.mk (fun h=>?_) (fun h=>?_)
 ·have hi : i < xs.length:=by simpa using h
  obtain ⟨q1,q2,q3,q4,q5,q6⟩:=hP.room hi h0
  have q7:=(szPred_fit xs[i] l1 q1 (by omega)).2
  have d1:=q1
  rw [szPred_eq] at d1
  obtain ⟨a1_0,b1_0,e1_0⟩:=sq_fit d1
  have w1_0:=(szVal_fit xs[i].v _ a1_0 (by omega)).2
  have d2:=a1_0
  rw [szVal_eq] at d2
  obtain ⟨a2_0,b2_0,e2_0⟩:=sq_fit d2
  have w2_0:=(szI_fit a2_0 (by omega)).2
  have eq2 : szVal xs[i].v l1 = (szI xs[i].v.s.size l1):=(szVal_eq xs[i].v l1).trans (e2_0)
  obtain ⟨a1_1,b1_1,e1_1⟩:=sq_fit b1_0
  have w1_1:=(szS_fit xs[i].l (fun x _=>szPred_fit x) a1_1 (by omega)).2
  have eq1 : szPred xs[i] l1 = (szS szPred xs[i].l (szVal xs[i].v l1)):=(szPred_eq xs[i] l1).trans ((e1_0).trans (e1_1))
  have hset:=set_self (R:=R) (i:=i) q3
  rw [DPred.o_eq] at q2
  simp only [DVal.c_eq,List.cons_append,List.nil_append] at q2
  have h30 : ((3 : Int) = 0) = False:=by simp
  simp only [go_sem,q2,q3,hset,List.set_set,List.length_set,h30,wrap_i64 (n:=k1 + 1) (by omega) (by omega),wrap_i64 (n:=k1 + 1 + 1) (by omega) (by omega),wrap_i64 (n:=k1 + 1 + 1 + 1) (by omega) (by omega),wrap_i64 (n:=k1 + 1 + 1 + 1 + 1) (by omega) (by omega),wrap_i64 (n:=k1 + 1 + 1 + 1 + 1 + 1) (by omega) (by omega),wrap_i64 (n:=(i : Int) + 1) (by omega) (by omega)]
  refine CallK.mk _ (markText_spec (k1 + 1 + 1 + 1 + 1 + 1) (by omega) (by omega)) fun _=>?_
  simp only [go_sem,q2,q3,hset,List.set_set,List.length_set,h30,wrap_i64 (n:=k1 + 1) (by omega) (by omega),wrap_i64 (n:=k1 + 1 + 1) (by omega) (by omega),wrap_i64 (n:=k1 + 1 + 1 + 1) (by omega) (by omega),wrap_i64 (n:=k1 + 1 + 1 + 1 + 1) (by omega) (by omega),wrap_i64 (n:=k1 + 1 + 1 + 1 + 1 + 1) (by omega) (by omega),wrap_i64 (n:=k1 + 1 + 1 + 1 + 1 + 1 + 1) (by omega) (by omega),wrap_i64 (n:=(i : Int) + 1) (by omega) (by omega)]
  refine MutK.mk false (zs:=[.ref 1]) (hx xs[i] (List.getElem_mem hi) (k1 + 1 + 1 + 1 + 1 + 1 + 1) (szVal xs[i].v l1) (by omega) a1_1 (by omega) (by omega)) rfl ⟨rfl,rfl,rfl,rfl,nr_Pred _,by simp,trivial⟩ rfl (.inr rfl) fun cl' rs hM=>?_
  obtain ⟨R1,m1,rfl,rfl,g1_1,g1_2,g1_3⟩:=hM
  refine ⟨⟨rfl,⟨rfl,rfl⟩,trivial⟩, ?_⟩
  simp only [go_sem,q2,q3,hset,List.set_set,List.length_set,h30,wrap_i64 (n:=k1 + 1) (by omega) (by omega),wrap_i64 (n:=k1 + 1 + 1) (by omega) (by omega),wrap_i64 (n:=k1 + 1 + 1 + 1) (by omega) (by omega),wrap_i64 (n:=k1 + 1 + 1 + 1 + 1) (by omega) (by omega),wrap_i64 (n:=k1 + 1 + 1 + 1 + 1 + 1) (by omega) (by omega),wrap_i64 (n:=k1 + 1 + 1 + 1 + 1 + 1 + 1) (by omega) (by omega),wrap_i64 (n:=(i : Int) + 1) (by omega) (by omega)]
  refine ⟨(i + 1,R.set i [.v (.int .i64 (k1)),.v (.int .i64 (k1 + 1)),.v (.int .i64 (k1 + 1 + 1)),.v (.int .i64 (k1 + 1 + 1 + 1)),.v (.int .i64 (k1 + 1 + 1 + 1 + 1)),.v (.string (markTx (k1 + 1 + 1 + 1 + 1 + 1))),.ow 78 7 R1],m1,szPred xs[i] l1),.inr ⟨i,R, ?rowr,[.v (.int .i64 (k1)),.v (.int .i64 (k1 + 1)),.v (.int .i64 (k1 + 1 + 1)),.v (.int .i64 (k1 + 1 + 1 + 1)),.v (.int .i64 (k1 + 1 + 1 + 1 + 1)),.v (.string (markTx (k1 + 1 + 1 + 1 + 1 + 1))),.ow 78 7 R1], ?ob,⟨Nat.zero_lt_one, ?e1, ?e2,q3, ?e3⟩, ?own,⟨rfl, ?tr⟩, ?eq⟩, ?P, ?mu⟩
  case e1=>exact rfl
  case e2=>exact rfl
  case e3=>exact rfl
  case own=>exact ⟨rfl,rfl,rfl,rfl,rfl,rfl,rfl,rfl,rfl,rfl,rfl,rfl,rfl,rfl,rfl,rfl,cloE_nr g1_3,by simp,fun l hl=>by omega⟩
  case eq=>exact rfl
  case mu=>simp only; omega
  case P=>exact hP.step hi h0 (by simp only [cloL,cloC,Bool.and_true,Bool.true_and,g1_3]) (by omega) (by omega) q7
  case tr=>exact clo_all1 (clo_set hP.2.2.2.1 (by simp only [cloL,cloC,Bool.and_true,Bool.true_and,g1_3]))
 ·have hi : i = xs.length:=by have:=hP.1; simp at h; dsimp only at this; omega
  obtain ⟨y1,y2⟩:=hP.done 78 7 hi
  simp only [go_sem]
  exact ⟨[.ref 0],[.ow 78 7 R],[.c (.v (.int .i64 k1))],rfl,.inr rfl,⟨rfl,rfl,rfl,rfl,cloE_nr y1,by simp,trivial⟩,by simp only [cloL,cloC,y1,Bool.and_true],rfl,rfl,y2⟩
theorem markPredS_fuel : ∀ (n : Nat) (xs : List DPred),(∀ x ∈ xs,SizeOf.sizeOf x ≤ n) → ∀ (k l : Int),0 ≤ k → 0 ≤ szS szPred xs l → l ≤ 1048576 → k + 64 * l ≤ 1099511627776 → MCtr Tryz.prog 126 false [.ow 78 7 (xs.map DPred.o)] [.c (.v (.int .i64 k))] (MkS 78 7 k l (szS szPred xs l))
 | 0,xs,h,k,l,h1,h2,h3,h4=>markPredS_of xs (fun x hx=>by have:=h x hx; cases x; simp at this) k h1 l h2 h3 h4
 | n + 1,xs,h,k,l,h1,h2,h3,h4=>markPredS_of xs (fun x hx k l g1 g2 g3 g4=>markPredS_fuel n x.l (fun y hy=>by
   have h1 : SizeOf.sizeOf y < SizeOf.sizeOf x.l:=List.sizeOf_lt_of_mem hy
   have h2 : SizeOf.sizeOf x.l < SizeOf.sizeOf x:=by cases x; simp [DPred.l]; omega
   have:=h x hx
   omega) k l g1 g2 g3 g4) k h1 l h2 h3 h4
theorem markPredS_sp (xs : List DPred) (k : Int) (hk : 0 ≤ k) (l : Int) (h0 : 0 ≤ (szS szPred xs l)) (hl : l ≤ 1048576) (hb : k + 64 * l ≤ 1099511627776) : MCtr Tryz.prog 126 false [.ow 78 7 (xs.map DPred.o)] [.c (.v (.int .i64 k))] (MkS 78 7 k l (szS szPred xs l)):=markPredS_fuel (SizeOf.sizeOf xs) xs (fun x hx=>Nat.le_of_lt (List.sizeOf_lt_of_mem hx)) k l hk h0 hl hb
theorem markSlotS_sp (xs : List DSlot) (k : Int) (hk : 0 ≤ k) (l : Int) (h0 : 0 ≤ (szS szSlot xs l)) (hl : l ≤ 1048576) (hb : k + 64 * l ≤ 1099511627776) : MCtr Tryz.prog 123 false [.ow 162 2 (xs.map DSlot.o)] [.c (.v (.int .i64 k))] (MkS 162 2 k l (szS szSlot xs l)):=by
 have hxl:=(szI_fit (sq_fit h0).1 hl).1
 refine MCtr.mk (fn:=Tryz.f123) Tryz.call123 Tryz.func123 rfl mixed Tryz.ntmps123 Tryz.results123 (by kernel_rfl) rfl (.inr rfl) fun us hw0 hw=>?_
 simp only [go_sem]
 refine LoopA.mk 1 0 [0,1,5] (A:=Nat × List (List Cl) × Int × Int) (fun x=>⟨27,[(0,.pin (.c (.ref 0)) (mkV false us)),(1,.c (.v (.int .i64 x.2.2.1))),(5,.c (.v (.int .i64 x.1)))],[⟨162,2,x.2.1,true,true⟩]⟩)
  (MkP DSlot.o szSlot xs k l (szS szSlot xs l)) (fun x=>xs.length - x.1) (0,xs.map DSlot.o,k,l - xs.length) ⟨⟨rfl,clo_all1 (cloE_map fun d=>by exact clo_DSlot d)⟩,rfl,MkP.start (fun d=>clo_DSlot d) h0⟩ ?_
 rintro ⟨i,R,k1,l1⟩ hP
 have hn:=hP.2.1
 dsimp only at hn
 simp only [go_sem,hn]
 refine cndC.mk (fun h=>?_) (fun h=>?_)
 ·have hi : i < xs.length:=by simpa using h
  obtain ⟨q1,q2,q3,q4,q5,q6⟩:=hP.room hi h0
  have q7:=(szSlot_fit xs[i] l1 q1 (by omega)).2
  have d1:=q1
  rw [szSlot_eq] at d1
  obtain ⟨a1_0,b1_0,e1_0⟩:=sq_fit d1
  have w1_0:=(szS_fit xs[i].l (fun x _=>szVal_fit x) a1_0 (by omega)).2
  have eq1 : szSlot xs[i] l1 = (szS szVal xs[i].l l1):=(szSlot_eq xs[i] l1).trans (e1_0)
  have hset:=set_self (R:=R) (i:=i) q3
  rw [DSlot.o_eq] at q2
  have h30 : ((3 : Int) = 0) = False:=by simp
  simp only [go_sem,q2,q3,hset,List.set_set,List.length_set,h30,wrap_i64 (n:=k1 + 1) (by omega) (by omega),wrap_i64 (n:=(i : Int) + 1) (by omega) (by omega)]
  refine MutK.mk false (zs:=[.ref 1]) (markValS_sp xs[i].l (k1 + 1) (by omega) l1 a1_0 (by omega) (by omega)) rfl ⟨rfl,rfl,rfl,rfl,nr_Val _,by simp,trivial⟩ rfl (.inr rfl) fun cl' rs hM=>?_
  obtain ⟨R1,m1,rfl,rfl,g1_1,g1_2,g1_3⟩:=hM
  refine ⟨⟨rfl,⟨rfl,rfl⟩,trivial⟩, ?_⟩
  simp only [go_sem,q2,q3,hset,List.set_set,List.length_set,h30,wrap_i64 (n:=k1 + 1) (by omega) (by omega),wrap_i64 (n:=(i : Int) + 1) (by omega) (by omega)]
  refine ⟨(i + 1,R.set i [.v (.int .i64 (k1)),.ow 72 3 R1],m1,szSlot xs[i] l1),.inr ⟨i,R, ?rowr,[.v (.int .i64 (k1)),.ow 72 3 R1], ?ob,⟨Nat.zero_lt_one, ?e1, ?e2,q3, ?e3⟩, ?own,⟨rfl, ?tr⟩, ?eq⟩, ?P, ?mu⟩
  case e1=>exact rfl
  case e2=>exact rfl
  case e3=>exact rfl
  case own=>exact ⟨rfl,rfl,rfl,rfl,rfl,rfl,cloE_nr g1_3,by simp,fun l hl=>by omega⟩
  case eq=>exact rfl
  case mu=>simp only; omega
  case P=>exact hP.step hi h0 (by simp only [cloL,cloC,Bool.and_true,Bool.true_and,g1_3]) (by omega) (by omega) q7
  case tr=>exact clo_all1 (clo_set hP.2.2.2.1 (by simp only [cloL,cloC,Bool.and_true,Bool.true_and,g1_3]))
 ·have hi : i = xs.length:=by have:=hP.1; simp at h; dsimp only at this; omega
  obtain ⟨y1,y2⟩:=hP.done 162 2 hi
  simp only [go_sem]
  exact ⟨[.ref 0],[.ow 162 2 R],[.c (.v (.int .i64 k1))],rfl,.inr rfl,⟨rfl,rfl,rfl,rfl,cloE_nr y1,by simp,trivial⟩,by simp only [cloL,cloC,y1,Bool.and_true],rfl,rfl,y2⟩
theorem markBufS_sp (xs : List DBuf) (k : Int) (hk : 0 ≤ k) (l : Int) (h0 : 0 ≤ (szS szBuf xs l)) (hl : l ≤ 1048576) (hb : k + 64 * l ≤ 1099511627776) : MCtr Tryz.prog 78 false [.ow 101 5 (xs.map DBuf.o)] [.c (.v (.int .i64 k))] (MkS 101 5 k l (szS szBuf xs l)):=by
 have hxl:=(szI_fit (sq_fit h0).1 hl).1
 refine MCtr.mk (fn:=Tryz.f78) Tryz.call78 Tryz.func78 rfl mixed Tryz.ntmps78 Tryz.results78 (by kernel_rfl) rfl (.inr rfl) fun us hw0 hw=>?_
 simp only [go_sem]
 refine LoopA.mk 1 0 [0,1,5] (A:=Nat × List (List Cl) × Int × Int) (fun x=>⟨50,[(0,.pin (.c (.ref 0)) (mkV false us)),(1,.c (.v (.int .i64 x.2.2.1))),(5,.c (.v (.int .i64 x.1)))],[⟨101,5,x.2.1,true,true⟩]⟩)
  (MkP DBuf.o szBuf xs k l (szS szBuf xs l)) (fun x=>xs.length - x.1) (0,xs.map DBuf.o,k,l - xs.length) ⟨⟨rfl,clo_all1 (cloE_map fun d=>by exact clo_DBuf d)⟩,rfl,MkP.start (fun d=>clo_DBuf d) h0⟩ ?_
 rintro ⟨i,R,k1,l1⟩ hP
 have hn:=hP.2.1
 dsimp only at hn
 simp only [go_sem,hn]
 refine cndC.mk (fun h=>?_) (fun h=>?_)
 ·have hi : i < xs.length:=by simpa using h
  obtain ⟨q1,q2,q3,q4,q5,q6⟩:=hP.room hi h0
  have q7:=(szBuf_fit xs[i] l1 q1 (by omega)).2
  have d1:=q1
  rw [szBuf_eq] at d1
  obtain ⟨a1_0,b1_0,e1_0⟩:=sq_fit d1
  have w1_0:=(szChunk_fit xs[i].c0 _ a1_0 (by omega)).2
  have d2:=a1_0
  rw [szChunk_eq] at d2
  obtain ⟨a2_0,b2_0,e2_0⟩:=sq_fit d2
  have w2_0:=(szS_fit xs[i].c0.l (fun x _=>szSlot_fit x) a2_0 (by omega)).2
  have eq2 : szChunk xs[i].c0 l1 = (szS szSlot xs[i].c0.l l1):=(szChunk_eq xs[i].c0 l1).trans (e2_0)
  obtain ⟨a1_1,b1_1,e1_1⟩:=sq_fit b1_0
  have w1_1:=(szI_fit a1_1 (by omega)).2
  have eq1 : szBuf xs[i] l1 = (szI xs[i].g.length (szChunk xs[i].c0 l1)):=(szBuf_eq xs[i] l1).trans ((e1_0).trans (e1_1))
  have hset:=set_self (R:=R) (i:=i) q3
  rw [DBuf.o_eq] at q2
  simp only [DChunk.o_eq,List.cons_append,List.nil_append] at q2
  have h30 : ((3 : Int) = 0) = False:=by simp
  simp only [go_sem,q2,q3,hset,List.set_set,List.length_set,h30,wrap_i64 (n:=k1 + 1) (by omega) (by omega),wrap_i64 (n:=k1 + 1 + 1) (by omega) (by omega),wrap_i64 (n:=k1 + 1 + 1 + 1) (by omega) (by omega),wrap_i64 (n:=(i : Int) + 1) (by omega) (by omega)]
  refine MutK.mk false (zs:=[.ref 1]) (markSlotS_sp xs[i].c0.l (k1 + 1 + 1 + 1) (by omega) l1 a2_0 (by omega) (by omega)) rfl ⟨rfl,rfl,rfl,rfl,nr_Slot _,by simp,trivial⟩ rfl (.inr rfl) fun cl' rs hM=>?_
  obtain ⟨R1,m1,rfl,rfl,g1_1,g1_2,g1_3⟩:=hM
  refine ⟨⟨rfl,⟨rfl,rfl⟩,trivial⟩, ?_⟩
  simp only [go_sem,q2,q3,hset,List.set_set,List.length_set,h30,wrap_i64 (n:=k1 + 1) (by omega) (by omega),wrap_i64 (n:=k1 + 1 + 1) (by omega) (by omega),wrap_i64 (n:=k1 + 1 + 1 + 1) (by omega) (by omega),wrap_i64 (n:=(i : Int) + 1) (by omega) (by omega)]
  refine MutK.mk false (zs:=[.ref 2]) (markByteS_sp xs[i].g (m1) (by omega) (szChunk xs[i].c0 l1) a1_1 (by omega) (by omega)) rfl ⟨rfl,rfl,rfl,rfl,nr_byte _,by simp,trivial⟩ rfl (.inr rfl) fun cl' rs hM=>?_
  obtain ⟨R2,m2,rfl,rfl,g2_1,g2_2,g2_3⟩:=hM
  refine ⟨⟨rfl,⟨rfl,rfl⟩,trivial⟩, ?_⟩
  simp only [go_sem,q2,q3,hset,List.set_set,List.length_set,h30,wrap_i64 (n:=k1 + 1) (by omega) (by omega),wrap_i64 (n:=k1 + 1 + 1) (by omega) (by omega),wrap_i64 (n:=k1 + 1 + 1 + 1) (by omega) (by omega),wrap_i64 (n:=(i : Int) + 1) (by omega) (by omega)]
  refine ⟨(i + 1,R.set i [.v (.int .i64 (k1)),.v (.int .i64 (k1 + 1)),.v (.int .i64 (k1 + 1 + 1)),.ow 162 2 R1,.ow 5 1 R2],m2,szBuf xs[i] l1),.inr ⟨i,R, ?rowr,[.v (.int .i64 (k1)),.v (.int .i64 (k1 + 1)),.v (.int .i64 (k1 + 1 + 1)),.ow 162 2 R1,.ow 5 1 R2], ?ob,⟨Nat.zero_lt_one, ?e1, ?e2,q3, ?e3⟩, ?own,⟨rfl, ?tr⟩, ?eq⟩, ?P, ?mu⟩
  case e1=>exact rfl
  case e2=>exact rfl
  case e3=>exact rfl
  case own=>exact ⟨rfl,rfl,rfl,rfl,rfl,rfl,rfl,rfl,rfl,rfl,cloE_nr g1_3,by simp,rfl,rfl,rfl,rfl,cloE_nr g2_3,by simp,fun l hl=>by omega⟩
  case eq=>exact rfl
  case mu=>simp only; omega
  case P=>exact hP.step hi h0 (by simp only [cloL,cloC,Bool.and_true,Bool.true_and,g1_3,g2_3]) (by omega) (by omega) q7
  case tr=>exact clo_all1 (clo_set hP.2.2.2.1 (by simp only [cloL,cloC,Bool.and_true,Bool.true_and,g1_3,g2_3]))
 ·have hi : i = xs.length:=by have:=hP.1; simp at h; dsimp only at this; omega
  obtain ⟨y1,y2⟩:=hP.done 101 5 hi
  simp only [go_sem]
  exact ⟨[.ref 0],[.ow 101 5 R],[.c (.v (.int .i64 k1))],rfl,.inr rfl,⟨rfl,rfl,rfl,rfl,cloE_nr y1,by simp,trivial⟩,by simp only [cloL,cloC,y1,Bool.and_true],rfl,rfl,y2⟩
theorem markDeadS_sp (xs : List DDead) (k : Int) (hk : 0 ≤ k) (l : Int) (h0 : 0 ≤ (szI xs.length l)) (hl : l ≤ 1048576) (hb : k + 64 * l ≤ 1099511627776) : MCtr Tryz.prog 80 false [.ow 168 3 (xs.map DDead.c)] [.c (.v (.int .i64 k))] (MkS 168 3 k l (szI xs.length l)):=by
 have hsz:=szS_id xs l h0
 rw [← hsz] at h0 ⊢
 have hxl:=(szI_fit (sq_fit h0).1 hl).1
 refine MCtr.mk (fn:=Tryz.f80) Tryz.call80 Tryz.func80 rfl mixed Tryz.ntmps80 Tryz.results80 (by kernel_rfl) rfl (.inr rfl) fun us hw0 hw=>?_
 simp only [go_sem]
 refine LoopK.mk 1 [0,1,5] (A:=Nat × List (List Cl) × Int × Int) (fun x=>⟨34,[(0,.pin (.c (.ref 0)) (mkV false us)),(1,.c (.v (.int .i64 x.2.2.1))),(5,.c (.v (.int .i64 x.1)))],[⟨168,3,x.2.1,true,true⟩]⟩)
  (MkP DDead.c (fun _ l=>l) xs k l (szS (fun _ l=>l) xs l)) (fun x=>xs.length - x.1) (0,xs.map DDead.c,k,l - xs.length) ⟨⟨rfl,clo_all1 (cloE_map fun d=>by rfl)⟩,rfl,MkP.start (fun d=>rfl) h0⟩ ?_
 rintro ⟨i,R,k1,l1⟩ hP
 have hn:=hP.2.1
 dsimp only at hn
 simp only [go_sem,hn]
 refine cndC.mk (fun h=>?_) (fun h=>?_)
 ·have hi : i < xs.length:=by simpa using h
  obtain ⟨q1,q2,q3,q4,q5,q6⟩:=hP.room hi h0
  try dsimp only at q1
  have hset:=set_self (R:=R) (i:=i) q3
  rw [DDead.c_eq] at q2
  have h30 : ((3 : Int) = 0) = False:=by simp
  simp only [go_sem,q2,q3,hset,List.set_set,List.length_set,h30,wrap_i64 (n:=k1 + 1) (by omega) (by omega),wrap_i64 (n:=k1 + 1 + 1) (by omega) (by omega),wrap_i64 (n:=k1 + 1 + 1 + 1) (by omega) (by omega),wrap_i64 (n:=(i : Int) + 1) (by omega) (by omega)]
  refine ⟨(i + 1,R.set i [.v (.int .i64 (k1)),.v (.int .i64 (k1 + 1)),.v (.int .i64 (k1 + 1 + 1))],k1 + 1 + 1 + 1,l1),⟨rfl, ?tr⟩, ?eq, ?P, ?mu⟩
  case eq=>exact rfl
  case mu=>simp only; omega
  case P=>exact hP.step hi h0 (by simp only [cloL,cloC,Bool.and_true,Bool.true_and]) (by omega) (by omega) (Int.le_refl _)
  case tr=>exact clo_all1 (clo_set hP.2.2.2.1 (by simp only [cloL,cloC,Bool.and_true,Bool.true_and]))
 ·have hi : i = xs.length:=by have:=hP.1; simp at h; dsimp only at this; omega
  obtain ⟨y1,y2⟩:=hP.done 168 3 hi
  simp only [go_sem]
  exact ⟨[.ref 0],[.ow 168 3 R],[.c (.v (.int .i64 k1))],rfl,.inr rfl,⟨rfl,rfl,rfl,rfl,cloE_nr y1,by simp,trivial⟩,by simp only [cloL,cloC,y1,Bool.and_true],rfl,rfl,y2⟩
theorem markRefS_sp (xs : List DRef) (k : Int) (hk : 0 ≤ k) (l : Int) (h0 : 0 ≤ (szI xs.length l)) (hl : l ≤ 1048576) (hb : k + 64 * l ≤ 1099511627776) : MCtr Tryz.prog 122 false [.ow 56 5 (xs.map DRef.c)] [.c (.v (.int .i64 k))] (MkS 56 5 k l (szI xs.length l)):=by
 have hsz:=szS_id xs l h0
 rw [← hsz] at h0 ⊢
 have hxl:=(szI_fit (sq_fit h0).1 hl).1
 refine MCtr.mk (fn:=Tryz.f122) Tryz.call122 Tryz.func122 rfl mixed Tryz.ntmps122 Tryz.results122 (by kernel_rfl) rfl (.inr rfl) fun us hw0 hw=>?_
 simp only [go_sem]
 refine LoopK.mk 1 [0,1,5] (A:=Nat × List (List Cl) × Int × Int) (fun x=>⟨48,[(0,.pin (.c (.ref 0)) (mkV false us)),(1,.c (.v (.int .i64 x.2.2.1))),(5,.c (.v (.int .i64 x.1)))],[⟨56,5,x.2.1,true,true⟩]⟩)
  (MkP DRef.c (fun _ l=>l) xs k l (szS (fun _ l=>l) xs l)) (fun x=>xs.length - x.1) (0,xs.map DRef.c,k,l - xs.length) ⟨⟨rfl,clo_all1 (cloE_map fun d=>by rfl)⟩,rfl,MkP.start (fun d=>rfl) h0⟩ ?_
 rintro ⟨i,R,k1,l1⟩ hP
 have hn:=hP.2.1
 dsimp only at hn
 simp only [go_sem,hn]
 refine cndC.mk (fun h=>?_) (fun h=>?_)
 ·have hi : i < xs.length:=by simpa using h
  obtain ⟨q1,q2,q3,q4,q5,q6⟩:=hP.room hi h0
  try dsimp only at q1
  have hset:=set_self (R:=R) (i:=i) q3
  rw [DRef.c_eq] at q2
  have h30 : ((3 : Int) = 0) = False:=by simp
  simp only [go_sem,q2,q3,hset,List.set_set,List.length_set,h30,wrap_i64 (n:=k1 + 1) (by omega) (by omega),wrap_i64 (n:=k1 + 1 + 1) (by omega) (by omega),wrap_i64 (n:=k1 + 1 + 1 + 1) (by omega) (by omega),wrap_i64 (n:=k1 + 1 + 1 + 1 + 1) (by omega) (by omega),wrap_i64 (n:=k1 + 1 + 1 + 1 + 1 + 1) (by omega) (by omega),wrap_i64 (n:=(i : Int) + 1) (by omega) (by omega)]
  refine ⟨(i + 1,R.set i [.v (.int .i64 (k1)),.v (.int .i64 (k1 + 1)),.v (.int .i64 (k1 + 1 + 1)),.v (.int .i64 (k1 + 1 + 1 + 1)),.v (.int .i64 (k1 + 1 + 1 + 1 + 1))],k1 + 1 + 1 + 1 + 1 + 1,l1),⟨rfl, ?tr⟩, ?eq, ?P, ?mu⟩
  case eq=>exact rfl
  case mu=>simp only; omega
  case P=>exact hP.step hi h0 (by simp only [cloL,cloC,Bool.and_true,Bool.true_and]) (by omega) (by omega) (Int.le_refl _)
  case tr=>exact clo_all1 (clo_set hP.2.2.2.1 (by simp only [cloL,cloC,Bool.and_true,Bool.true_and]))
 ·have hi : i = xs.length:=by have:=hP.1; simp at h; dsimp only at this; omega
  obtain ⟨y1,y2⟩:=hP.done 56 5 hi
  simp only [go_sem]
  exact ⟨[.ref 0],[.ow 56 5 R],[.c (.v (.int .i64 k1))],rfl,.inr rfl,⟨rfl,rfl,rfl,rfl,cloE_nr y1,by simp,trivial⟩,by simp only [cloL,cloC,y1,Bool.and_true],rfl,rfl,y2⟩
theorem markTaskS_sp (xs : List DTask) (k : Int) (hk : 0 ≤ k) (l : Int) (h0 : 0 ≤ (szS szTask xs l)) (hl : l ≤ 1048576) (hb : k + 64 * l ≤ 1099511627776) : MCtr Tryz.prog 81 false [.ow 172 25 (xs.map DTask.o)] [.c (.v (.int .i64 k))] (MkS 172 25 k l (szS szTask xs l)):=by
 have hxl:=(szI_fit (sq_fit h0).1 hl).1
 refine MCtr.mk (fn:=Tryz.f81) Tryz.call81 Tryz.func81 rfl mixed Tryz.ntmps81 Tryz.results81 (by kernel_rfl) rfl (.inr rfl) fun us hw0 hw=>?_
 simp only [go_sem]
 refine LoopA.mk 1 0 [0,1,5] (A:=Nat × List (List Cl) × Int × Int) (fun x=>⟨211,[(0,.pin (.c (.ref 0)) (mkV false us)),(1,.c (.v (.int .i64 x.2.2.1))),(5,.c (.v (.int .i64 x.1)))],[⟨172,25,x.2.1,true,true⟩]⟩)
  (MkP DTask.o szTask xs k l (szS szTask xs l)) (fun x=>xs.length - x.1) (0,xs.map DTask.o,k,l - xs.length) ⟨⟨rfl,clo_all1 (cloE_map fun d=>by exact clo_DTask d)⟩,rfl,MkP.start (fun d=>clo_DTask d) h0⟩ ?_
 rintro ⟨i,R,k1,l1⟩ hP
 have hn:=hP.2.1
 dsimp only at hn
 simp only [go_sem,hn]
 refine cndC.mk (fun h=>?_) (fun h=>?_)
 ·have hi : i < xs.length:=by simpa using h
  obtain ⟨q1,q2,q3,q4,q5,q6⟩:=hP.room hi h0
  have q7:=(szTask_fit xs[i] l1 q1 (by omega)).2
  have d1:=q1
  rw [szTask_eq] at d1
  obtain ⟨a1_0,b1_0,e1_0⟩:=sq_fit d1
  have w1_0:=(szS_fit xs[i].r (fun x _=>szVal_fit x) a1_0 (by omega)).2
  obtain ⟨a1_1,b1_1,e1_1⟩:=sq_fit b1_0
  have w1_1:=(szQuery_fit xs[i].q _ a1_1 (by omega)).2
  have d2:=a1_1
  rw [szQuery_eq] at d2
  obtain ⟨a2_0,b2_0,e2_0⟩:=sq_fit d2
  have w2_0:=(szPred_fit xs[i].q.p _ a2_0 (by omega)).2
  have d3:=a2_0
  rw [szPred_eq] at d3
  obtain ⟨a3_0,b3_0,e3_0⟩:=sq_fit d3
  have w3_0:=(szVal_fit xs[i].q.p.v _ a3_0 (by omega)).2
  have d4:=a3_0
  rw [szVal_eq] at d4
  obtain ⟨a4_0,b4_0,e4_0⟩:=sq_fit d4
  have w4_0:=(szI_fit a4_0 (by omega)).2
  have eq4 : szVal xs[i].q.p.v (szS szVal xs[i].r l1) = (szI xs[i].q.p.v.s.size (szS szVal xs[i].r l1)):=(szVal_eq xs[i].q.p.v (szS szVal xs[i].r l1)).trans (e4_0)
  obtain ⟨a3_1,b3_1,e3_1⟩:=sq_fit b3_0
  have w3_1:=(szS_fit xs[i].q.p.l (fun x _=>szPred_fit x) a3_1 (by omega)).2
  have eq3 : szPred xs[i].q.p (szS szVal xs[i].r l1) = (szS szPred xs[i].q.p.l (szVal xs[i].q.p.v (szS szVal xs[i].r l1))):=(szPred_eq xs[i].q.p (szS szVal xs[i].r l1)).trans ((e3_0).trans (e3_1))
  obtain ⟨a2_1,b2_1,e2_1⟩:=sq_fit b2_0
  have w2_1:=(szI_fit a2_1 (by omega)).2
  have eq2 : szQuery xs[i].q (szS szVal xs[i].r l1) = (szI xs[i].q.out.length (szPred xs[i].q.p (szS szVal xs[i].r l1))):=(szQuery_eq xs[i].q (szS szVal xs[i].r l1)).trans ((e2_0).trans (e2_1))
  obtain ⟨a1_2,b1_2,e1_2⟩:=sq_fit b1_1
  have w1_2:=(szI_fit a1_2 (by omega)).2
  obtain ⟨a1_3,b1_3,e1_3⟩:=sq_fit b1_2
  have w1_3:=(szS_fit xs[i].got (fun x _=>szRow_fit x) a1_3 (by omega)).2
  have eq1 : szTask xs[i] l1 = (szS szRow xs[i].got (szI xs[i].l.length (szQuery xs[i].q (szS szVal xs[i].r l1)))):=(szTask_eq xs[i] l1).trans ((e1_0).trans ((e1_1).trans ((e1_2).trans (e1_3))))
  have hset:=set_self (R:=R) (i:=i) q3
  rw [DTask.o_eq] at q2
  simp only [DPred.o_eq,DQuery.o_eq,DVal.c_eq,List.cons_append,List.nil_append] at q2
  have h30 : ((3 : Int) = 0) = False:=by simp
  simp only [go_sem,q2,q3,hset,List.set_set,List.length_set,h30,wrap_i64 (n:=k1 + 1) (by omega) (by omega),wrap_i64 (n:=k1 + 1 + 1) (by omega) (by omega),wrap_i64 (n:=k1 + 1 + 1 + 1) (by omega) (by omega),wrap_i64 (n:=(i : Int) + 1) (by omega) (by omega)]
  refine MutK.mk false (zs:=[.ref 1]) (markValS_sp xs[i].r (k1 + 1 + 1 + 1) (by omega) l1 a1_0 (by omega) (by omega)) rfl ⟨rfl,rfl,rfl,rfl,nr_Val _,by simp,trivial⟩ rfl (.inr rfl) fun cl' rs hM=>?_
  obtain ⟨R1,m1,rfl,rfl,g1_1,g1_2,g1_3⟩:=hM
  refine ⟨⟨rfl,⟨rfl,rfl⟩,trivial⟩, ?_⟩
  simp only [go_sem,q2,q3,hset,List.set_set,List.length_set,h30,wrap_i64 (n:=k1 + 1) (by omega) (by omega),wrap_i64 (n:=k1 + 1 + 1) (by omega) (by omega),wrap_i64 (n:=k1 + 1 + 1 + 1) (by omega) (by omega),wrap_i64 (n:=m1 + 1) (by omega) (by omega),wrap_i64 (n:=m1 + 1 + 1) (by omega) (by omega),wrap_i64 (n:=m1 + 1 + 1 + 1) (by omega) (by omega),wrap_i64 (n:=m1 + 1 + 1 + 1 + 1) (by omega) (by omega),wrap_i64 (n:=m1 + 1 + 1 + 1 + 1 + 1) (by omega) (by omega),wrap_i64 (n:=m1 + 1 + 1 + 1 + 1 + 1 + 1) (by omega) (by omega),wrap_i64 (n:=m1 + 1 + 1 + 1 + 1 + 1 + 1 + 1) (by omega) (by omega),wrap_i64 (n:=(i : Int) + 1) (by omega) (by omega)]
  refine CallK.mk _ (markText_spec (m1 + 1 + 1 + 1 + 1 + 1 + 1 + 1) (by omega) (by omega)) fun _=>?_
  simp only [go_sem,q2,q3,hset,List.set_set,List.length_set,h30,wrap_i64 (n:=k1 + 1) (by omega) (by omega),wrap_i64 (n:=k1 + 1 + 1) (by omega) (by omega),wrap_i64 (n:=k1 + 1 + 1 + 1) (by omega) (by omega),wrap_i64 (n:=m1 + 1) (by omega) (by omega),wrap_i64 (n:=m1 + 1 + 1) (by omega) (by omega),wrap_i64 (n:=m1 + 1 + 1 + 1) (by omega) (by omega),wrap_i64 (n:=m1 + 1 + 1 + 1 + 1) (by omega) (by omega),wrap_i64 (n:=m1 + 1 + 1 + 1 + 1 + 1) (by omega) (by omega),wrap_i64 (n:=m1 + 1 + 1 + 1 + 1 + 1 + 1) (by omega) (by omega),wrap_i64 (n:=m1 + 1 + 1 + 1 + 1 + 1 + 1 + 1) (by omega) (by omega),wrap_i64 (n:=m1 + 1 + 1 + 1 + 1 + 1 + 1 + 1 + 1) (by omega) (by omega),wrap_i64 (n:=(i : Int) + 1) (by omega) (by omega)]
  refine MutK.mk false (zs:=[.ref 2]) (markPredS_sp xs[i].q.p.l (m1 + 1 + 1 + 1 + 1 + 1 + 1 + 1 + 1) (by omega) (szVal xs[i].q.p.v (szS szVal xs[i].r l1)) a3_1 (by omega) (by omega)) rfl ⟨rfl,rfl,rfl,rfl,nr_Pred _,by simp,trivial⟩ rfl (.inr rfl) fun cl' rs hM=>?_
  obtain ⟨R2,m2,rfl,rfl,g2_1,g2_2,g2_3⟩:=hM
  refine ⟨⟨rfl,⟨rfl,rfl⟩,trivial⟩, ?_⟩
  simp only [go_sem,q2,q3,hset,List.set_set,List.length_set,h30,wrap_i64 (n:=k1 + 1) (by omega) (by omega),wrap_i64 (n:=k1 + 1 + 1) (by omega) (by omega),wrap_i64 (n:=k1 + 1 + 1 + 1) (by omega) (by omega),wrap_i64 (n:=m1 + 1) (by omega) (by omega),wrap_i64 (n:=m1 + 1 + 1) (by omega) (by omega),wrap_i64 (n:=m1 + 1 + 1 + 1) (by omega) (by omega),wrap_i64 (n:=m1 + 1 + 1 + 1 + 1) (by omega) (by omega),wrap_i64 (n:=m1 + 1 + 1 + 1 + 1 + 1) (by omega) (by omega),wrap_i64 (n:=m1 + 1 + 1 + 1 + 1 + 1 + 1) (by omega) (by omega),wrap_i64 (n:=m1 + 1 + 1 + 1 + 1 + 1 + 1 + 1) (by omega) (by omega),wrap_i64 (n:=m1 + 1 + 1 + 1 + 1 + 1 + 1 + 1 + 1) (by omega) (by omega),wrap_i64 (n:=m2 + 1) (by omega) (by omega),wrap_i64 (n:=(i : Int) + 1) (by omega) (by omega)]
  refine MutK.mk false (zs:=[.ref 3]) (markIntS_sp xs[i].q.out (m2 + 1) (by omega) (szPred xs[i].q.p (szS szVal xs[i].r l1)) a2_1 (by omega) (by omega)) rfl ⟨rfl,rfl,rfl,rfl,nr_int _,by simp,trivial⟩ rfl (.inr rfl) fun cl' rs hM=>?_
  obtain ⟨R3,m3,rfl,rfl,g3_1,g3_2,g3_3⟩:=hM
  refine ⟨⟨rfl,⟨rfl,rfl⟩,trivial⟩, ?_⟩
  simp only [go_sem,q2,q3,hset,List.set_set,List.length_set,h30,wrap_i64 (n:=k1 + 1) (by omega) (by omega),wrap_i64 (n:=k1 + 1 + 1) (by omega) (by omega),wrap_i64 (n:=k1 + 1 + 1 + 1) (by omega) (by omega),wrap_i64 (n:=m1 + 1) (by omega) (by omega),wrap_i64 (n:=m1 + 1 + 1) (by omega) (by omega),wrap_i64 (n:=m1 + 1 + 1 + 1) (by omega) (by omega),wrap_i64 (n:=m1 + 1 + 1 + 1 + 1) (by omega) (by omega),wrap_i64 (n:=m1 + 1 + 1 + 1 + 1 + 1) (by omega) (by omega),wrap_i64 (n:=m1 + 1 + 1 + 1 + 1 + 1 + 1) (by omega) (by omega),wrap_i64 (n:=m1 + 1 + 1 + 1 + 1 + 1 + 1 + 1) (by omega) (by omega),wrap_i64 (n:=m1 + 1 + 1 + 1 + 1 + 1 + 1 + 1 + 1) (by omega) (by omega),wrap_i64 (n:=m2 + 1) (by omega) (by omega),wrap_i64 (n:=m3 + 1) (by omega) (by omega),wrap_i64 (n:=m3 + 1 + 1) (by omega) (by omega),wrap_i64 (n:=(i : Int) + 1) (by omega) (by omega)]
  refine MutK.mk false (zs:=[.ref 4]) (markRefS_sp xs[i].l (m3 + 1 + 1) (by omega) (szQuery xs[i].q (szS szVal xs[i].r l1)) a1_2 (by omega) (by omega)) rfl ⟨rfl,rfl,rfl,rfl,nr_Ref _,by simp,trivial⟩ rfl (.inr rfl) fun cl' rs hM=>?_
  obtain ⟨R4,m4,rfl,rfl,g4_1,g4_2,g4_3⟩:=hM
  refine ⟨⟨rfl,⟨rfl,rfl⟩,trivial⟩, ?_⟩
  simp only [go_sem,q2,q3,hset,List.set_set,List.length_set,h30,wrap_i64 (n:=k1 + 1) (by omega) (by omega),wrap_i64 (n:=k1 + 1 + 1) (by omega) (by omega),wrap_i64 (n:=k1 + 1 + 1 + 1) (by omega) (by omega),wrap_i64 (n:=m1 + 1) (by omega) (by omega),wrap_i64 (n:=m1 + 1 + 1) (by omega) (by omega),wrap_i64 (n:=m1 + 1 + 1 + 1) (by omega) (by omega),wrap_i64 (n:=m1 + 1 + 1 + 1 + 1) (by omega) (by omega),wrap_i64 (n:=m1 + 1 + 1 + 1 + 1 + 1) (by omega) (by omega),wrap_i64 (n:=m1 + 1 + 1 + 1 + 1 + 1 + 1) (by omega) (by omega),wrap_i64 (n:=m1 + 1 + 1 + 1 + 1 + 1 + 1 + 1) (by omega) (by omega),wrap_i64 (n:=m1 + 1 + 1 + 1 + 1 + 1 + 1 + 1 + 1) (by omega) (by omega),wrap_i64 (n:=m2 + 1) (by omega) (by omega),wrap_i64 (n:=m3 + 1) (by omega) (by omega),wrap_i64 (n:=m3 + 1 + 1) (by omega) (by omega),wrap_i64 (n:=m4 + 1) (by omega) (by omega),wrap_i64 (n:=m4 + 1 + 1) (by omega) (by omega),wrap_i64 (n:=m4 + 1 + 1 + 1) (by omega) (by omega),wrap_i64 (n:=m4 + 1 + 1 + 1 + 1) (by omega) (by omega),wrap_i64 (n:=m4 + 1 + 1 + 1 + 1 + 1) (by omega) (by omega),wrap_i64 (n:=m4 + 1 + 1 + 1 + 1 + 1 + 1) (by omega) (by omega),wrap_i64 (n:=(i : Int) + 1) (by omega) (by omega)]
  refine MutK.mk false (zs:=[.ref 5]) (markRowS_sp xs[i].got (m4 + 1 + 1 + 1 + 1 + 1 + 1) (by omega) (szI xs[i].l.length (szQuery xs[i].q (szS szVal xs[i].r l1))) a1_3 (by omega) (by omega)) rfl ⟨rfl,rfl,rfl,rfl,nr_Row _,by simp,trivial⟩ rfl (.inr rfl) fun cl' rs hM=>?_
  obtain ⟨R5,m5,rfl,rfl,g5_1,g5_2,g5_3⟩:=hM
  refine ⟨⟨rfl,⟨rfl,rfl⟩,trivial⟩, ?_⟩
  simp only [go_sem,q2,q3,hset,List.set_set,List.length_set,h30,wrap_i64 (n:=k1 + 1) (by omega) (by omega),wrap_i64 (n:=k1 + 1 + 1) (by omega) (by omega),wrap_i64 (n:=k1 + 1 + 1 + 1) (by omega) (by omega),wrap_i64 (n:=m1 + 1) (by omega) (by omega),wrap_i64 (n:=m1 + 1 + 1) (by omega) (by omega),wrap_i64 (n:=m1 + 1 + 1 + 1) (by omega) (by omega),wrap_i64 (n:=m1 + 1 + 1 + 1 + 1) (by omega) (by omega),wrap_i64 (n:=m1 + 1 + 1 + 1 + 1 + 1) (by omega) (by omega),wrap_i64 (n:=m1 + 1 + 1 + 1 + 1 + 1 + 1) (by omega) (by omega),wrap_i64 (n:=m1 + 1 + 1 + 1 + 1 + 1 + 1 + 1) (by omega) (by omega),wrap_i64 (n:=m1 + 1 + 1 + 1 + 1 + 1 + 1 + 1 + 1) (by omega) (by omega),wrap_i64 (n:=m2 + 1) (by omega) (by omega),wrap_i64 (n:=m3 + 1) (by omega) (by omega),wrap_i64 (n:=m3 + 1 + 1) (by omega) (by omega),wrap_i64 (n:=m4 + 1) (by omega) (by omega),wrap_i64 (n:=m4 + 1 + 1) (by omega) (by omega),wrap_i64 (n:=m4 + 1 + 1 + 1) (by omega) (by omega),wrap_i64 (n:=m4 + 1 + 1 + 1 + 1) (by omega) (by omega),wrap_i64 (n:=m4 + 1 + 1 + 1 + 1 + 1) (by omega) (by omega),wrap_i64 (n:=m4 + 1 + 1 + 1 + 1 + 1 + 1) (by omega) (by omega),wrap_i64 (n:=(i : Int) + 1) (by omega) (by omega)]
  refine ⟨(i + 1,R.set i [.v (.int .i64 (k1)),.v (.int .i64 (k1 + 1)),.v (.int .i64 (k1 + 1 + 1)),.ow 72 3 R1,.v (.int .i64 (m1)),.v (.int .i64 (m1 + 1)),.v (.int .i64 (m1 + 1 + 1)),.v (.int .i64 (m1 + 1 + 1 + 1)),.v (.int .i64 (m1 + 1 + 1 + 1 + 1)),.v (.int .i64 (m1 + 1 + 1 + 1 + 1 + 1)),.v (.int .i64 (m1 + 1 + 1 + 1 + 1 + 1 + 1)),.v (.string (markTx (m1 + 1 + 1 + 1 + 1 + 1 + 1 + 1))),.ow 78 7 R2,.v (.int .i64 (m2)),.ow 3 1 R3,.v (.int .i64 (m3)),.v (.int .i64 (m3 + 1)),.ow 56 5 R4,.v (.int .i64 (m4)),.v (.int .i64 (m4 + 1)),.v (.int .i64 (m4 + 1 + 1)),.v (.int .i64 (m4 + 1 + 1 + 1)),.v (.int .i64 (m4 + 1 + 1 + 1 + 1)),.v (.bool (IntKind.i64.wrap ((m4 + 1 + 1 + 1 + 1 + 1).tmod 3) == 0)),.ow 121 2 R5],m5,szTask xs[i] l1),.inr ⟨i,R, ?rowr,[.v (.int .i64 (k1)),.v (.int .i64 (k1 + 1)),.v (.int .i64 (k1 + 1 + 1)),.ow 72 3 R1,.v (.int .i64 (m1)),.v (.int .i64 (m1 + 1)),.v (.int .i64 (m1 + 1 + 1)),.v (.int .i64 (m1 + 1 + 1 + 1)),.v (.int .i64 (m1 + 1 + 1 + 1 + 1)),.v (.int .i64 (m1 + 1 + 1 + 1 + 1 + 1)),.v (.int .i64 (m1 + 1 + 1 + 1 + 1 + 1 + 1)),.v (.string (markTx (m1 + 1 + 1 + 1 + 1 + 1 + 1 + 1))),.ow 78 7 R2,.v (.int .i64 (m2)),.ow 3 1 R3,.v (.int .i64 (m3)),.v (.int .i64 (m3 + 1)),.ow 56 5 R4,.v (.int .i64 (m4)),.v (.int .i64 (m4 + 1)),.v (.int .i64 (m4 + 1 + 1)),.v (.int .i64 (m4 + 1 + 1 + 1)),.v (.int .i64 (m4 + 1 + 1 + 1 + 1)),.v (.bool (IntKind.i64.wrap ((m4 + 1 + 1 + 1 + 1 + 1).tmod 3) == 0)),.ow 121 2 R5], ?ob,⟨Nat.zero_lt_one, ?e1, ?e2,q3, ?e3⟩, ?own,⟨rfl, ?tr⟩, ?eq⟩, ?P, ?mu⟩
  case e1=>exact rfl
  case e2=>exact rfl
  case e3=>exact rfl
  case own=>exact ⟨rfl,rfl,rfl,rfl,rfl,rfl,rfl,rfl,rfl,rfl,cloE_nr g1_3,by simp,rfl,rfl,rfl,rfl,rfl,rfl,rfl,rfl,rfl,rfl,rfl,rfl,rfl,rfl,rfl,rfl,rfl,rfl,rfl,rfl,cloE_nr g2_3,by simp,rfl,rfl,rfl,rfl,rfl,rfl,cloE_nr g3_3,by simp,rfl,rfl,rfl,rfl,rfl,rfl,rfl,rfl,cloE_nr g4_3,by simp,rfl,rfl,rfl,rfl,rfl,rfl,rfl,rfl,rfl,rfl,rfl,rfl,rfl,rfl,rfl,rfl,cloE_nr g5_3,by simp,fun l hl=>by omega⟩
  case eq=>exact rfl
  case mu=>simp only; omega
  case P=>exact hP.step hi h0 (by simp only [cloL,cloC,Bool.and_true,Bool.true_and,g1_3,g2_3,g3_3,g4_3,g5_3]) (by omega) (by omega) q7
  case tr=>exact clo_all1 (clo_set hP.2.2.2.1 (by simp only [cloL,cloC,Bool.and_true,Bool.true_and,g1_3,g2_3,g3_3,g4_3,g5_3]))
 ·have hi : i = xs.length:=by have:=hP.1; simp at h; dsimp only at this; omega
  obtain ⟨y1,y2⟩:=hP.done 172 25 hi
  simp only [go_sem]
  exact ⟨[.ref 0],[.ow 172 25 R],[.c (.v (.int .i64 k1))],rfl,.inr rfl,⟨rfl,rfl,rfl,rfl,cloE_nr y1,by simp,trivial⟩,by simp only [cloL,cloC,y1,Bool.and_true],rfl,rfl,y2⟩
theorem markDeedS_sp (xs : List DDeed) (k : Int) (hk : 0 ≤ k) (l : Int) (h0 : 0 ≤ (szS szDeed xs l)) (hl : l ≤ 1048576) (hb : k + 64 * l ≤ 1099511627776) : MCtr Tryz.prog 82 false [.ow 175 25 (xs.map DDeed.o)] [.c (.v (.int .i64 k))] (MkS 175 25 k l (szS szDeed xs l)):=by
 have hxl:=(szI_fit (sq_fit h0).1 hl).1
 refine MCtr.mk (fn:=Tryz.f82) Tryz.call82 Tryz.func82 rfl mixed Tryz.ntmps82 Tryz.results82 (by kernel_rfl) rfl (.inr rfl) fun us hw0 hw=>?_
 simp only [go_sem]
 refine LoopA.mk 1 0 [0,1,5] (A:=Nat × List (List Cl) × Int × Int) (fun x=>⟨221,[(0,.pin (.c (.ref 0)) (mkV false us)),(1,.c (.v (.int .i64 x.2.2.1))),(5,.c (.v (.int .i64 x.1)))],[⟨175,25,x.2.1,true,true⟩]⟩)
  (MkP DDeed.o szDeed xs k l (szS szDeed xs l)) (fun x=>xs.length - x.1) (0,xs.map DDeed.o,k,l - xs.length) ⟨⟨rfl,clo_all1 (cloE_map fun d=>by exact clo_DDeed d)⟩,rfl,MkP.start (fun d=>clo_DDeed d) h0⟩ ?_
 rintro ⟨i,R,k1,l1⟩ hP
 have hn:=hP.2.1
 dsimp only at hn
 simp only [go_sem,hn]
 refine cndC.mk (fun h=>?_) (fun h=>?_)
 ·have hi : i < xs.length:=by simpa using h
  obtain ⟨q1,q2,q3,q4,q5,q6⟩:=hP.room hi h0
  have q7:=(szDeed_fit xs[i] l1 q1 (by omega)).2
  have d1:=q1
  rw [szDeed_eq] at d1
  obtain ⟨a1_0,b1_0,e1_0⟩:=sq_fit d1
  have w1_0:=(szS_fit xs[i].r (fun x _=>szVal_fit x) a1_0 (by omega)).2
  obtain ⟨a1_1,b1_1,e1_1⟩:=sq_fit b1_0
  have w1_1:=(szQuery_fit xs[i].q _ a1_1 (by omega)).2
  have d2:=a1_1
  rw [szQuery_eq] at d2
  obtain ⟨a2_0,b2_0,e2_0⟩:=sq_fit d2
  have w2_0:=(szPred_fit xs[i].q.p _ a2_0 (by omega)).2
  have d3:=a2_0
  rw [szPred_eq] at d3
  obtain ⟨a3_0,b3_0,e3_0⟩:=sq_fit d3
  have w3_0:=(szVal_fit xs[i].q.p.v _ a3_0 (by omega)).2
  have d4:=a3_0
  rw [szVal_eq] at d4
  obtain ⟨a4_0,b4_0,e4_0⟩:=sq_fit d4
  have w4_0:=(szI_fit a4_0 (by omega)).2
  have eq4 : szVal xs[i].q.p.v (szS szVal xs[i].r l1) = (szI xs[i].q.p.v.s.size (szS szVal xs[i].r l1)):=(szVal_eq xs[i].q.p.v (szS szVal xs[i].r l1)).trans (e4_0)
  obtain ⟨a3_1,b3_1,e3_1⟩:=sq_fit b3_0
  have w3_1:=(szS_fit xs[i].q.p.l (fun x _=>szPred_fit x) a3_1 (by omega)).2
  have eq3 : szPred xs[i].q.p (szS szVal xs[i].r l1) = (szS szPred xs[i].q.p.l (szVal xs[i].q.p.v (szS szVal xs[i].r l1))):=(szPred_eq xs[i].q.p (szS szVal xs[i].r l1)).trans ((e3_0).trans (e3_1))
  obtain ⟨a2_1,b2_1,e2_1⟩:=sq_fit b2_0
  have w2_1:=(szI_fit a2_1 (by omega)).2
  have eq2 : szQuery xs[i].q (szS szVal xs[i].r l1) = (szI xs[i].q.out.length (szPred xs[i].q.p (szS szVal xs[i].r l1))):=(szQuery_eq xs[i].q (szS szVal xs[i].r l1)).trans ((e2_0).trans (e2_1))
  obtain ⟨a1_2,b1_2,e1_2⟩:=sq_fit b1_1
  have w1_2:=(szResult_fit xs[i].res _ a1_2 (by omega)).2
  have d5:=a1_2
  rw [szResult_eq] at d5
  obtain ⟨a5_0,b5_0,e5_0⟩:=sq_fit d5
  have w5_0:=(szS_fit xs[i].res.rows (fun x _=>szRow_fit x) a5_0 (by omega)).2
  obtain ⟨a5_1,b5_1,e5_1⟩:=sq_fit b5_0
  have w5_1:=(szVal_fit xs[i].res.v _ a5_1 (by omega)).2
  have d6:=a5_1
  rw [szVal_eq] at d6
  obtain ⟨a6_0,b6_0,e6_0⟩:=sq_fit d6
  have w6_0:=(szI_fit a6_0 (by omega)).2
  have eq6 : szVal xs[i].res.v (szS szRow xs[i].res.rows (szQuery xs[i].q (szS szVal xs[i].r l1))) = (szI xs[i].res.v.s.size (szS szRow xs[i].res.rows (szQuery xs[i].q (szS szVal xs[i].r l1)))):=(szVal_eq xs[i].res.v (szS szRow xs[i].res.rows (szQuery xs[i].q (szS szVal xs[i].r l1)))).trans (e6_0)
  have eq5 : szResult xs[i].res (szQuery xs[i].q (szS szVal xs[i].r l1)) = (szVal xs[i].res.v (szS szRow xs[i].res.rows (szQuery xs[i].q (szS szVal xs[i].r l1)))):=(szResult_eq xs[i].res (szQuery xs[i].q (szS szVal xs[i].r l1))).trans ((e5_0).trans (e5_1))
  have eq1 : szDeed xs[i] l1 = (szResult xs[i].res (szQuery xs[i].q (szS szVal xs[i].r l1))):=(szDeed_eq xs[i] l1).trans ((e1_0).trans ((e1_1).trans (e1_2)))
  have hset:=set_self (R:=R) (i:=i) q3
  rw [DDeed.o_eq] at q2
  simp only [DPred.o_eq,DQuery.o_eq,DResult.o_eq,DVal.c_eq,List.cons_append,List.nil_append] at q2
  have h30 : ((3 : Int) = 0) = False:=by simp
  simp only [go_sem,q2,q3,hset,List.set_set,List.length_set,h30,wrap_i64 (n:=k1 + 1) (by omega) (by omega),wrap_i64 (n:=k1 + 1 + 1) (by omega) (by omega),wrap_i64 (n:=(i : Int) + 1) (by omega) (by omega)]
  refine MutK.mk false (zs:=[.ref 1]) (markValS_sp xs[i].r (k1 + 1 + 1) (by omega) l1 a1_0 (by omega) (by omega)) rfl ⟨rfl,rfl,rfl,rfl,nr_Val _,by simp,trivial⟩ rfl (.inr rfl) fun cl' rs hM=>?_
  obtain ⟨R1,m1,rfl,rfl,g1_1,g1_2,g1_3⟩:=hM
  refine ⟨⟨rfl,⟨rfl,rfl⟩,trivial⟩, ?_⟩
  simp only [go_sem,q2,q3,hset,List.set_set,List.length_set,h30,wrap_i64 (n:=k1 + 1) (by omega) (by omega),wrap_i64 (n:=k1 + 1 + 1) (by omega) (by omega),wrap_i64 (n:=m1 + 1) (by omega) (by omega),wrap_i64 (n:=m1 + 1 + 1) (by omega) (by omega),wrap_i64 (n:=m1 + 1 + 1 + 1) (by omega) (by omega),wrap_i64 (n:=m1 + 1 + 1 + 1 + 1) (by omega) (by omega),wrap_i64 (n:=m1 + 1 + 1 + 1 + 1 + 1) (by omega) (by omega),wrap_i64 (n:=m1 + 1 + 1 + 1 + 1 + 1 + 1) (by omega) (by omega),wrap_i64 (n:=m1 + 1 + 1 + 1 + 1 + 1 + 1 + 1) (by omega) (by omega),wrap_i64 (n:=(i : Int) + 1) (by omega) (by omega)]
  refine CallK.mk _ (markText_spec (m1 + 1 + 1 + 1 + 1 + 1 + 1 + 1) (by omega) (by omega)) fun _=>?_
  simp only [go_sem,q2,q3,hset,List.set_set,List.length_set,h30,wrap_i64 (n:=k1 + 1) (by omega) (by omega),wrap_i64 (n:=k1 + 1 + 1) (by omega) (by omega),wrap_i64 (n:=m1 + 1) (by omega) (by omega),wrap_i64 (n:=m1 + 1 + 1) (by omega) (by omega),wrap_i64 (n:=m1 + 1 + 1 + 1) (by omega) (by omega),wrap_i64 (n:=m1 + 1 + 1 + 1 + 1) (by omega) (by omega),wrap_i64 (n:=m1 + 1 + 1 + 1 + 1 + 1) (by omega) (by omega),wrap_i64 (n:=m1 + 1 + 1 + 1 + 1 + 1 + 1) (by omega) (by omega),wrap_i64 (n:=m1 + 1 + 1 + 1 + 1 + 1 + 1 + 1) (by omega) (by omega),wrap_i64 (n:=m1 + 1 + 1 + 1 + 1 + 1 + 1 + 1 + 1) (by omega) (by omega),wrap_i64 (n:=(i : Int) + 1) (by omega) (by omega)]
  refine MutK.mk false (zs:=[.ref 2]) (markPredS_sp xs[i].q.p.l (m1 + 1 + 1 + 1 + 1 + 1 + 1 + 1 + 1) (by omega) (szVal xs[i].q.p.v (szS szVal xs[i].r l1)) a3_1 (by omega) (by omega)) rfl ⟨rfl,rfl,rfl,rfl,nr_Pred _,by simp,trivial⟩ rfl (.inr rfl) fun cl' rs hM=>?_
  obtain ⟨R2,m2,rfl,rfl,g2_1,g2_2,g2_3⟩:=hM
  refine ⟨⟨rfl,⟨rfl,rfl⟩,trivial⟩, ?_⟩
  simp only [go_sem,q2,q3,hset,List.set_set,List.length_set,h30,wrap_i64 (n:=k1 + 1) (by omega) (by omega),wrap_i64 (n:=k1 + 1 + 1) (by omega) (by omega),wrap_i64 (n:=m1 + 1) (by omega) (by omega),wrap_i64 (n:=m1 + 1 + 1) (by omega) (by omega),wrap_i64 (n:=m1 + 1 + 1 + 1) (by omega) (by omega),wrap_i64 (n:=m1 + 1 + 1 + 1 + 1) (by omega) (by omega),wrap_i64 (n:=m1 + 1 + 1 + 1 + 1 + 1) (by omega) (by omega),wrap_i64 (n:=m1 + 1 + 1 + 1 + 1 + 1 + 1) (by omega) (by omega),wrap_i64 (n:=m1 + 1 + 1 + 1 + 1 + 1 + 1 + 1) (by omega) (by omega),wrap_i64 (n:=m1 + 1 + 1 + 1 + 1 + 1 + 1 + 1 + 1) (by omega) (by omega),wrap_i64 (n:=m2 + 1) (by omega) (by omega),wrap_i64 (n:=(i : Int) + 1) (by omega) (by omega)]
  refine MutK.mk false (zs:=[.ref 3]) (markIntS_sp xs[i].q.out (m2 + 1) (by omega) (szPred xs[i].q.p (szS szVal xs[i].r l1)) a2_1 (by omega) (by omega)) rfl ⟨rfl,rfl,rfl,rfl,nr_int _,by simp,trivial⟩ rfl (.inr rfl) fun cl' rs hM=>?_
  obtain ⟨R3,m3,rfl,rfl,g3_1,g3_2,g3_3⟩:=hM
  refine ⟨⟨rfl,⟨rfl,rfl⟩,trivial⟩, ?_⟩
  simp only [go_sem,q2,q3,hset,List.set_set,List.length_set,h30,wrap_i64 (n:=k1 + 1) (by omega) (by omega),wrap_i64 (n:=k1 + 1 + 1) (by omega) (by omega),wrap_i64 (n:=m1 + 1) (by omega) (by omega),wrap_i64 (n:=m1 + 1 + 1) (by omega) (by omega),wrap_i64 (n:=m1 + 1 + 1 + 1) (by omega) (by omega),wrap_i64 (n:=m1 + 1 + 1 + 1 + 1) (by omega) (by omega),wrap_i64 (n:=m1 + 1 + 1 + 1 + 1 + 1) (by omega) (by omega),wrap_i64 (n:=m1 + 1 + 1 + 1 + 1 + 1 + 1) (by omega) (by omega),wrap_i64 (n:=m1 + 1 + 1 + 1 + 1 + 1 + 1 + 1) (by omega) (by omega),wrap_i64 (n:=m1 + 1 + 1 + 1 + 1 + 1 + 1 + 1 + 1) (by omega) (by omega),wrap_i64 (n:=m2 + 1) (by omega) (by omega),wrap_i64 (n:=(i : Int) + 1) (by omega) (by omega)]
  refine MutK.mk false (zs:=[.ref 4]) (markRowS_sp xs[i].res.rows (m3) (by omega) (szQuery xs[i].q (szS szVal xs[i].r l1)) a5_0 (by omega) (by omega)) rfl ⟨rfl,rfl,rfl,rfl,nr_Row _,by simp,trivial⟩ rfl (.inr rfl) fun cl' rs hM=>?_
  obtain ⟨R4,m4,rfl,rfl,g4_1,g4_2,g4_3⟩:=hM
  refine ⟨⟨rfl,⟨rfl,rfl⟩,trivial⟩, ?_⟩
  simp only [go_sem,q2,q3,hset,List.set_set,List.length_set,h30,wrap_i64 (n:=k1 + 1) (by omega) (by omega),wrap_i64 (n:=k1 + 1 + 1) (by omega) (by omega),wrap_i64 (n:=m1 + 1) (by omega) (by omega),wrap_i64 (n:=m1 + 1 + 1) (by omega) (by omega),wrap_i64 (n:=m1 + 1 + 1 + 1) (by omega) (by omega),wrap_i64 (n:=m1 + 1 + 1 + 1 + 1) (by omega) (by omega),wrap_i64 (n:=m1 + 1 + 1 + 1 + 1 + 1) (by omega) (by omega),wrap_i64 (n:=m1 + 1 + 1 + 1 + 1 + 1 + 1) (by omega) (by omega),wrap_i64 (n:=m1 + 1 + 1 + 1 + 1 + 1 + 1 + 1) (by omega) (by omega),wrap_i64 (n:=m1 + 1 + 1 + 1 + 1 + 1 + 1 + 1 + 1) (by omega) (by omega),wrap_i64 (n:=m2 + 1) (by omega) (by omega),wrap_i64 (n:=m4 + 1) (by omega) (by omega),wrap_i64 (n:=m4 + 1 + 1) (by omega) (by omega),wrap_i64 (n:=m4 + 1 + 1 + 1) (by omega) (by omega),wrap_i64 (n:=m4 + 1 + 1 + 1 + 1) (by omega) (by omega),wrap_i64 (n:=(i : Int) + 1) (by omega) (by omega)]
  refine CallK.mk _ (markText_spec (m4 + 1 + 1 + 1 + 1) (by omega) (by omega)) fun _=>?_
  simp only [go_sem,q2,q3,hset,List.set_set,List.length_set,h30,wrap_i64 (n:=k1 + 1) (by omega) (by omega),wrap_i64 (n:=k1 + 1 + 1) (by omega) (by omega),wrap_i64 (n:=m1 + 1) (by omega) (by omega),wrap_i64 (n:=m1 + 1 + 1) (by omega) (by omega),wrap_i64 (n:=m1 + 1 + 1 + 1) (by omega) (by omega),wrap_i64 (n:=m1 + 1 + 1 + 1 + 1) (by omega) (by omega),wrap_i64 (n:=m1 + 1 + 1 + 1 + 1 + 1) (by omega) (by omega),wrap_i64 (n:=m1 + 1 + 1 + 1 + 1 + 1 + 1) (by omega) (by omega),wrap_i64 (n:=m1 + 1 + 1 + 1 + 1 + 1 + 1 + 1) (by omega) (by omega),wrap_i64 (n:=m1 + 1 + 1 + 1 + 1 + 1 + 1 + 1 + 1) (by omega) (by omega),wrap_i64 (n:=m2 + 1) (by omega) (by omega),wrap_i64 (n:=m4 + 1) (by omega) (by omega),wrap_i64 (n:=m4 + 1 + 1) (by omega) (by omega),wrap_i64 (n:=m4 + 1 + 1 + 1) (by omega) (by omega),wrap_i64 (n:=m4 + 1 + 1 + 1 + 1) (by omega) (by omega),wrap_i64 (n:=m4 + 1 + 1 + 1 + 1 + 1) (by omega) (by omega),wrap_i64 (n:=m4 + 1 + 1 + 1 + 1 + 1 + 1) (by omega) (by omega),wrap_i64 (n:=m4 + 1 + 1 + 1 + 1 + 1 + 1 + 1) (by omega) (by omega),wrap_i64 (n:=m4 + 1 + 1 + 1 + 1 + 1 + 1 + 1 + 1) (by omega) (by omega),wrap_i64 (n:=m4 + 1 + 1 + 1 + 1 + 1 + 1 + 1 + 1 + 1) (by omega) (by omega),wrap_i64 (n:=m4 + 1 + 1 + 1 + 1 + 1 + 1 + 1 + 1 + 1 + 1) (by omega) (by omega),wrap_i64 (n:=(i : Int) + 1) (by omega) (by omega)]
  refine ⟨(i + 1,R.set i [.v (.int .i64 (k1)),.v (.int .i64 (k1 + 1)),.ow 72 3 R1,.v (.int .i64 (m1)),.v (.int .i64 (m1 + 1)),.v (.int .i64 (m1 + 1 + 1)),.v (.int .i64 (m1 + 1 + 1 + 1)),.v (.int .i64 (m1 + 1 + 1 + 1 + 1)),.v (.int .i64 (m1 + 1 + 1 + 1 + 1 + 1)),.v (.int .i64 (m1 + 1 + 1 + 1 + 1 + 1 + 1)),.v (.string (markTx (m1 + 1 + 1 + 1 + 1 + 1 + 1 + 1))),.ow 78 7 R2,.v (.int .i64 (m2)),.ow 3 1 R3,.ow 121 2 R4,.v (.int .i64 (m4)),.v (.bool (IntKind.i64.wrap ((m4 + 1).tmod 3) == 0)),.v (.int .i64 (m4 + 1 + 1)),.v (.int .i64 (m4 + 1 + 1 + 1)),.v (.string (markTx (m4 + 1 + 1 + 1 + 1))),.v (.int .i64 (m4 + 1 + 1 + 1 + 1 + 1)),.v (.int .i64 (m4 + 1 + 1 + 1 + 1 + 1 + 1)),.v (.int .i64 (m4 + 1 + 1 + 1 + 1 + 1 + 1 + 1)),.v (.int .i64 (m4 + 1 + 1 + 1 + 1 + 1 + 1 + 1 + 1)),.v (.int .i64 (m4 + 1 + 1 + 1 + 1 + 1 + 1 + 1 + 1 + 1))],m4 + 1 + 1 + 1 + 1 + 1 + 1 + 1 + 1 + 1 + 1,szDeed xs[i] l1),.inr ⟨i,R, ?rowr,[.v (.int .i64 (k1)),.v (.int .i64 (k1 + 1)),.ow 72 3 R1,.v (.int .i64 (m1)),.v (.int .i64 (m1 + 1)),.v (.int .i64 (m1 + 1 + 1)),.v (.int .i64 (m1 + 1 + 1 + 1)),.v (.int .i64 (m1 + 1 + 1 + 1 + 1)),.v (.int .i64 (m1 + 1 + 1 + 1 + 1 + 1)),.v (.int .i64 (m1 + 1 + 1 + 1 + 1 + 1 + 1)),.v (.string (markTx (m1 + 1 + 1 + 1 + 1 + 1 + 1 + 1))),.ow 78 7 R2,.v (.int .i64 (m2)),.ow 3 1 R3,.ow 121 2 R4,.v (.int .i64 (m4)),.v (.bool (IntKind.i64.wrap ((m4 + 1).tmod 3) == 0)),.v (.int .i64 (m4 + 1 + 1)),.v (.int .i64 (m4 + 1 + 1 + 1)),.v (.string (markTx (m4 + 1 + 1 + 1 + 1))),.v (.int .i64 (m4 + 1 + 1 + 1 + 1 + 1)),.v (.int .i64 (m4 + 1 + 1 + 1 + 1 + 1 + 1)),.v (.int .i64 (m4 + 1 + 1 + 1 + 1 + 1 + 1 + 1)),.v (.int .i64 (m4 + 1 + 1 + 1 + 1 + 1 + 1 + 1 + 1)),.v (.int .i64 (m4 + 1 + 1 + 1 + 1 + 1 + 1 + 1 + 1 + 1))], ?ob,⟨Nat.zero_lt_one, ?e1, ?e2,q3, ?e3⟩, ?own,⟨rfl, ?tr⟩, ?eq⟩, ?P, ?mu⟩
  case e1=>exact rfl
  case e2=>exact rfl
  case e3=>exact rfl
  case own=>exact ⟨rfl,rfl,rfl,rfl,rfl,rfl,rfl,rfl,cloE_nr g1_3,by simp,rfl,rfl,rfl,rfl,rfl,rfl,rfl,rfl,rfl,rfl,rfl,rfl,rfl,rfl,rfl,rfl,rfl,rfl,rfl,rfl,cloE_nr g2_3,by simp,rfl,rfl,rfl,rfl,rfl,rfl,cloE_nr g3_3,by simp,rfl,rfl,rfl,rfl,cloE_nr g4_3,by simp,rfl,rfl,rfl,rfl,rfl,rfl,rfl,rfl,rfl,rfl,rfl,rfl,rfl,rfl,rfl,rfl,rfl,rfl,rfl,rfl,fun l hl=>by omega⟩
  case eq=>exact rfl
  case mu=>simp only; omega
  case P=>exact hP.step hi h0 (by simp only [cloL,cloC,Bool.and_true,Bool.true_and,g1_3,g2_3,g3_3,g4_3]) (by omega) (by omega) q7
  case tr=>exact clo_all1 (clo_set hP.2.2.2.1 (by simp only [cloL,cloC,Bool.and_true,Bool.true_and,g1_3,g2_3,g3_3,g4_3]))
 ·have hi : i = xs.length:=by have:=hP.1; simp at h; dsimp only at this; omega
  obtain ⟨y1,y2⟩:=hP.done 175 25 hi
  simp only [go_sem]
  exact ⟨[.ref 0],[.ow 175 25 R],[.c (.v (.int .i64 k1))],rfl,.inr rfl,⟨rfl,rfl,rfl,rfl,cloE_nr y1,by simp,trivial⟩,by simp only [cloL,cloC,y1,Bool.and_true],rfl,rfl,y2⟩
end Go.Proofs.YthoeeoddgkjkkaaGreat
/- The laws' marks of structs: by program (gen_data.py). -/
namespace Go.Proofs.YthoeeoddgkjkkaaGreat
set_option linter.unusedSimpArgs false
set_option linter.unusedVariables false
open Go.Vm
set_option maxHeartbeats 2000000
set_option maxRecDepth 10000
def MkDir (d : DDir) (k l : Int) (cl' : List Cl) (rs : List AV) : Prop:=∃ (R0 : List (List Cl)) (k' : Int),cl' = [.v (.int .i64 d.ver),.ow 56 5 R0] ∧ rs = [.c (.v (.int .i64 k'))] ∧ k ≤ k' ∧ k' + 64 * szDir d l ≤ k + 64 * l ∧ cloE R0 = true
theorem markDir_sp (d : DDir) (k : Int) (hk : 0 ≤ k) (l : Int) (h0 : 0 ≤ szDir d l) (hl : l ≤ 1048576) (hb : k + 64 * l ≤ 1099511627776) : MCtr Tryz.prog 77 true d.o [.c (.v (.int .i64 k))] (MkDir d k l):=by
 have d1:=h0
 rw [szDir_eq] at d1
 obtain ⟨a1_0,b1_0,e1_0⟩:=sq_fit d1
 have w1_0:=(szI_fit a1_0 (by omega)).2
 have eq1 : szDir d l = (szI d.l.length l):=(szDir_eq d l).trans (e1_0)
 refine MCtr.mk (fn:=Tryz.f77) Tryz.call77 Tryz.func77 rfl mixed Tryz.ntmps77 Tryz.results77 (by kernel_rfl) rfl (.inl rfl) fun us hw0 hw=>?_
 simp only [go_sem]
 refine MutK.mk false (zs:=[.ref 0]) (markRefS_sp d.l (k) (by omega) l a1_0 (by omega) (by omega)) rfl ⟨rfl,rfl,rfl,rfl,nr_Ref _,by simp,trivial⟩ rfl (.inr rfl) fun cl' rs hM=>?_
 obtain ⟨R0,m0,rfl,rfl,g0_1,g0_2,g0_3⟩:=hM
 refine ⟨⟨rfl,⟨rfl,rfl⟩,trivial⟩, ?_⟩
 simp only [go_sem]
 exact ⟨[.v (.int .i64 d.ver),.ref 0],[.v (.int .i64 d.ver),.ow 56 5 R0],[.c (.v (.int .i64 m0))],rfl,.inl rfl,⟨rfl,rfl,rfl,rfl,rfl,rfl,cloE_nr g0_3,by simp,trivial⟩,by simp only [cloL,cloC,Bool.and_true,Bool.true_and,g0_3],rfl,rfl,R0,m0,rfl,rfl,by omega,by omega,g0_3⟩
def MkConf (d : DConf) (k l : Int) (cl' : List Cl) (rs : List AV) : Prop:=∃ (R0 : List (List Cl)) (k' : Int),cl' = [.ow 3 1 R0,.v (.int .i64 d.slots),.v (.int .i64 d.bufs)] ∧ rs = [.c (.v (.int .i64 k'))] ∧ k ≤ k' ∧ k' + 64 * szConf d l ≤ k + 64 * l ∧ cloE R0 = true
theorem markConf_sp (d : DConf) (k : Int) (hk : 0 ≤ k) (l : Int) (h0 : 0 ≤ szConf d l) (hl : l ≤ 1048576) (hb : k + 64 * l ≤ 1099511627776) : MCtr Tryz.prog 76 true d.o [.c (.v (.int .i64 k))] (MkConf d k l):=by
 have d1:=h0
 rw [szConf_eq] at d1
 obtain ⟨a1_0,b1_0,e1_0⟩:=sq_fit d1
 have w1_0:=(szI_fit a1_0 (by omega)).2
 have eq1 : szConf d l = (szI d.cols.length l):=(szConf_eq d l).trans (e1_0)
 refine MCtr.mk (fn:=Tryz.f76) Tryz.call76 Tryz.func76 rfl mixed Tryz.ntmps76 Tryz.results76 (by kernel_rfl) rfl (.inl rfl) fun us hw0 hw=>?_
 simp only [go_sem]
 refine MutK.mk false (zs:=[.ref 0]) (markIntS_sp d.cols (k) (by omega) l a1_0 (by omega) (by omega)) rfl ⟨rfl,rfl,rfl,rfl,nr_int _,by simp,trivial⟩ rfl (.inr rfl) fun cl' rs hM=>?_
 obtain ⟨R0,m0,rfl,rfl,g0_1,g0_2,g0_3⟩:=hM
 refine ⟨⟨rfl,⟨rfl,rfl⟩,trivial⟩, ?_⟩
 simp only [go_sem]
 exact ⟨[.ref 0,.v (.int .i64 d.slots),.v (.int .i64 d.bufs)],[.ow 3 1 R0,.v (.int .i64 d.slots),.v (.int .i64 d.bufs)],[.c (.v (.int .i64 m0))],rfl,.inl rfl,⟨rfl,rfl,rfl,rfl,cloE_nr g0_3,by simp,rfl,rfl,rfl,rfl,trivial⟩,by simp only [cloL,cloC,Bool.and_true,Bool.true_and,g0_3],rfl,rfl,R0,m0,rfl,rfl,by omega,by omega,g0_3⟩
def MkWorld (d : DWorld) (k l : Int) (cl' : List Cl) (rs : List AV) : Prop:=∃ (R0 R1 R2 R3 R4 R5 R6 R7 : List (List Cl)) (k' : Int),cl' = [.ow 3 1 R0,.v (.int .i64 d.c0.slots),.v (.int .i64 d.c0.bufs),.v (.int .i64 d.time),.v (.int .i64 d.t),.v (.int .i64 d.e),.v (.int .i64 d.d.ver),.ow 56 5 R1,.ow 101 5 R2,.ow 3 1 R3,.ow 168 3 R4,.ow 3 1 R5,.ow 172 25 R6,.ow 175 25 R7] ∧ rs = [.c (.v (.int .i64 k'))] ∧ k ≤ k' ∧ k' + 64 * szWorld d l ≤ k + 64 * l ∧ cloE R0 = true ∧ cloE R1 = true ∧ cloE R2 = true ∧ cloE R3 = true ∧ cloE R4 = true ∧ cloE R5 = true ∧ cloE R6 = true ∧ cloE R7 = true
theorem markWorld_sp (d : DWorld) (k : Int) (hk : 0 ≤ k) (l : Int) (h0 : 0 ≤ szWorld d l) (hl : l ≤ 1048576) (hb : k + 64 * l ≤ 1099511627776) : MCtr Tryz.prog 22 true d.o [.c (.v (.int .i64 k))] (MkWorld d k l):=by
 have d1:=h0
 rw [szWorld_eq] at d1
 obtain ⟨a1_0,b1_0,e1_0⟩:=sq_fit d1
 have w1_0:=(szConf_fit d.c0 _ a1_0 (by omega)).2
 have d2:=a1_0
 rw [szConf_eq] at d2
 obtain ⟨a2_0,b2_0,e2_0⟩:=sq_fit d2
 have w2_0:=(szI_fit a2_0 (by omega)).2
 have eq2 : szConf d.c0 l = (szI d.c0.cols.length l):=(szConf_eq d.c0 l).trans (e2_0)
 obtain ⟨a1_1,b1_1,e1_1⟩:=sq_fit b1_0
 have w1_1:=(szDir_fit d.d _ a1_1 (by omega)).2
 have d3:=a1_1
 rw [szDir_eq] at d3
 obtain ⟨a3_0,b3_0,e3_0⟩:=sq_fit d3
 have w3_0:=(szI_fit a3_0 (by omega)).2
 have eq3 : szDir d.d (szConf d.c0 l) = (szI d.d.l.length (szConf d.c0 l)):=(szDir_eq d.d (szConf d.c0 l)).trans (e3_0)
 obtain ⟨a1_2,b1_2,e1_2⟩:=sq_fit b1_1
 have w1_2:=(szS_fit d.b (fun x _=>szBuf_fit x) a1_2 (by omega)).2
 obtain ⟨a1_3,b1_3,e1_3⟩:=sq_fit b1_2
 have w1_3:=(szI_fit a1_3 (by omega)).2
 obtain ⟨a1_4,b1_4,e1_4⟩:=sq_fit b1_3
 have w1_4:=(szI_fit a1_4 (by omega)).2
 obtain ⟨a1_5,b1_5,e1_5⟩:=sq_fit b1_4
 have w1_5:=(szI_fit a1_5 (by omega)).2
 obtain ⟨a1_6,b1_6,e1_6⟩:=sq_fit b1_5
 have w1_6:=(szS_fit d.tasks (fun x _=>szTask_fit x) a1_6 (by omega)).2
 obtain ⟨a1_7,b1_7,e1_7⟩:=sq_fit b1_6
 have w1_7:=(szS_fit d.deeds (fun x _=>szDeed_fit x) a1_7 (by omega)).2
 have eq1 : szWorld d l = (szS szDeed d.deeds (szS szTask d.tasks (szI d.p.length (szI d.x.length (szI d.m.length (szS szBuf d.b (szDir d.d (szConf d.c0 l)))))))):=(szWorld_eq d l).trans ((e1_0).trans ((e1_1).trans ((e1_2).trans ((e1_3).trans ((e1_4).trans ((e1_5).trans ((e1_6).trans (e1_7))))))))
 refine MCtr.mk (fn:=Tryz.f22) Tryz.call22 Tryz.func22 rfl mixed Tryz.ntmps22 Tryz.results22 (by kernel_rfl) rfl (.inl rfl) fun us hw0 hw=>?_
 simp only [go_sem]
 refine MutK.mk true (zs:=[.ref 0,.v (.int .i64 d.c0.slots),.v (.int .i64 d.c0.bufs)]) (cl:=[.ow 3 1 (d.c0.cols.map intC),.v (.int .i64 d.c0.slots),.v (.int .i64 d.c0.bufs)]) (by simpa only [go_sem] using (markConf_sp d.c0 (k) (by omega) _ a1_0 (by omega) (by omega))) rfl ⟨rfl,rfl,rfl,rfl,nr_int _,by simp,rfl,rfl,rfl,rfl,trivial⟩ rfl (.inl rfl) fun cl' rs hM=>?_
 obtain ⟨R0,m0,rfl,rfl,g0_1,g0_2,g0_3⟩:=hM
 refine ⟨⟨rfl,⟨rfl,rfl⟩,rfl,rfl,trivial⟩, ?_⟩
 simp only [go_sem]
 refine MutK.mk true (zs:=[.v (.int .i64 d.d.ver),.ref 1]) (cl:=[.v (.int .i64 d.d.ver),.ow 56 5 (d.d.l.map DRef.c)]) (by simpa only [go_sem] using (markDir_sp d.d (m0) (by omega) _ a1_1 (by omega) (by omega))) rfl ⟨rfl,rfl,rfl,rfl,rfl,rfl,nr_Ref _,by simp,trivial⟩ rfl (.inl rfl) fun cl' rs hM=>?_
 obtain ⟨R1,m1,rfl,rfl,g1_1,g1_2,g1_3⟩:=hM
 refine ⟨⟨rfl,rfl,⟨rfl,rfl⟩,trivial⟩, ?_⟩
 simp only [go_sem]
 refine MutK.mk false (zs:=[.ref 2]) (markBufS_sp d.b (m1) (by omega) (szDir d.d (szConf d.c0 l)) a1_2 (by omega) (by omega)) rfl ⟨rfl,rfl,rfl,rfl,nr_Buf _,by simp,trivial⟩ rfl (.inr rfl) fun cl' rs hM=>?_
 obtain ⟨R2,m2,rfl,rfl,g2_1,g2_2,g2_3⟩:=hM
 refine ⟨⟨rfl,⟨rfl,rfl⟩,trivial⟩, ?_⟩
 simp only [go_sem]
 refine MutK.mk false (zs:=[.ref 3]) (markIntS_sp d.m (m2) (by omega) (szS szBuf d.b (szDir d.d (szConf d.c0 l))) a1_3 (by omega) (by omega)) rfl ⟨rfl,rfl,rfl,rfl,nr_int _,by simp,trivial⟩ rfl (.inr rfl) fun cl' rs hM=>?_
 obtain ⟨R3,m3,rfl,rfl,g3_1,g3_2,g3_3⟩:=hM
 refine ⟨⟨rfl,⟨rfl,rfl⟩,trivial⟩, ?_⟩
 simp only [go_sem]
 refine MutK.mk false (zs:=[.ref 4]) (markDeadS_sp d.x (m3) (by omega) (szI d.m.length (szS szBuf d.b (szDir d.d (szConf d.c0 l)))) a1_4 (by omega) (by omega)) rfl ⟨rfl,rfl,rfl,rfl,nr_Dead _,by simp,trivial⟩ rfl (.inr rfl) fun cl' rs hM=>?_
 obtain ⟨R4,m4,rfl,rfl,g4_1,g4_2,g4_3⟩:=hM
 refine ⟨⟨rfl,⟨rfl,rfl⟩,trivial⟩, ?_⟩
 simp only [go_sem]
 refine MutK.mk false (zs:=[.ref 5]) (markIntS_sp d.p (m4) (by omega) (szI d.x.length (szI d.m.length (szS szBuf d.b (szDir d.d (szConf d.c0 l))))) a1_5 (by omega) (by omega)) rfl ⟨rfl,rfl,rfl,rfl,nr_int _,by simp,trivial⟩ rfl (.inr rfl) fun cl' rs hM=>?_
 obtain ⟨R5,m5,rfl,rfl,g5_1,g5_2,g5_3⟩:=hM
 refine ⟨⟨rfl,⟨rfl,rfl⟩,trivial⟩, ?_⟩
 simp only [go_sem]
 refine MutK.mk false (zs:=[.ref 6]) (markTaskS_sp d.tasks (m5) (by omega) (szI d.p.length (szI d.x.length (szI d.m.length (szS szBuf d.b (szDir d.d (szConf d.c0 l)))))) a1_6 (by omega) (by omega)) rfl ⟨rfl,rfl,rfl,rfl,nr_Task _,by simp,trivial⟩ rfl (.inr rfl) fun cl' rs hM=>?_
 obtain ⟨R6,m6,rfl,rfl,g6_1,g6_2,g6_3⟩:=hM
 refine ⟨⟨rfl,⟨rfl,rfl⟩,trivial⟩, ?_⟩
 simp only [go_sem]
 refine MutK.mk false (zs:=[.ref 7]) (markDeedS_sp d.deeds (m6) (by omega) (szS szTask d.tasks (szI d.p.length (szI d.x.length (szI d.m.length (szS szBuf d.b (szDir d.d (szConf d.c0 l))))))) a1_7 (by omega) (by omega)) rfl ⟨rfl,rfl,rfl,rfl,nr_Deed _,by simp,trivial⟩ rfl (.inr rfl) fun cl' rs hM=>?_
 obtain ⟨R7,m7,rfl,rfl,g7_1,g7_2,g7_3⟩:=hM
 refine ⟨⟨rfl,⟨rfl,rfl⟩,trivial⟩, ?_⟩
 simp only [go_sem]
 exact ⟨[.ref 0,.v (.int .i64 d.c0.slots),.v (.int .i64 d.c0.bufs),.v (.int .i64 d.time),.v (.int .i64 d.t),.v (.int .i64 d.e),.v (.int .i64 d.d.ver),.ref 1,.ref 2,.ref 3,.ref 4,.ref 5,.ref 6,.ref 7],[.ow 3 1 R0,.v (.int .i64 d.c0.slots),.v (.int .i64 d.c0.bufs),.v (.int .i64 d.time),.v (.int .i64 d.t),.v (.int .i64 d.e),.v (.int .i64 d.d.ver),.ow 56 5 R1,.ow 101 5 R2,.ow 3 1 R3,.ow 168 3 R4,.ow 3 1 R5,.ow 172 25 R6,.ow 175 25 R7],[.c (.v (.int .i64 m7))],rfl,.inl rfl,⟨rfl,rfl,rfl,rfl,cloE_nr g0_3,by simp,rfl,rfl,rfl,rfl,rfl,rfl,rfl,rfl,rfl,rfl,rfl,rfl,rfl,rfl,rfl,rfl,cloE_nr g1_3,by simp,rfl,rfl,rfl,rfl,cloE_nr g2_3,by simp,rfl,rfl,rfl,rfl,cloE_nr g3_3,by simp,rfl,rfl,rfl,rfl,cloE_nr g4_3,by simp,rfl,rfl,rfl,rfl,cloE_nr g5_3,by simp,rfl,rfl,rfl,rfl,cloE_nr g6_3,by simp,rfl,rfl,rfl,rfl,cloE_nr g7_3,by simp,trivial⟩,by simp only [cloL,cloC,Bool.and_true,Bool.true_and,g0_3,g1_3,g2_3,g3_3,g4_3,g5_3,g6_3,g7_3],rfl,rfl,R0,R1,R2,R3,R4,R5,R6,R7,m7,rfl,rfl,by omega,by omega,g0_3,g1_3,g2_3,g3_3,g4_3,g5_3,g6_3,g7_3⟩
end Go.Proofs.YthoeeoddgkjkkaaGreat
