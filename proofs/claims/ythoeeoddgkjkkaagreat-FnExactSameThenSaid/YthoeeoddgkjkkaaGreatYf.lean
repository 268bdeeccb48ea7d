/- Walks: values in bytes, plain columns. -/
import Derived.Test.YthoeeoddgkjkkaaGreatYe
namespace Go.Proofs.YthoeeoddgkjkkaaGreat
set_option linter.unusedSimpArgs false
set_option linter.unusedVariables false
open Go.Vm
set_option maxHeartbeats 2000000
set_option maxRecDepth 10000
theorem typeOf_no {l : List DVal} (h0 : 0 < l.length) {i : Nat} (hi : i < l.length) (h : ¬ (valOk l[i] = true ∧ l[i].ty = l[0].ty)) : typeOf l = 0:=by
 cases l with
 | nil=>simp at h0
 | cons v r =>
  show (if (v :: r).length ≤ 64 ∧ _ then v.ty else 0) = 0
  rw [if_neg]
  rintro ⟨_,q⟩
  exact h (q _ (List.getElem_mem hi))
theorem pe_byte (l : List Int) : pureE (l.map byteC) = true:=pureE_map byteC.pure
theorem pe_int (l : List Int) : pureE (l.map intC) = true:=pureE_map intC_pure
theorem pe_Val (l : List DVal) : pureE (l.map DVal.c) = true:=pureE_map DVal.pure
theorem strRows_eq (s : ByteArray) : strRows s = (strL s).map byteC:=by simp only [strRows,strL,List.map_map]; rfl
attribute [go_sem] List.all_cons List.all_nil List.length_append List.length_cons List.length_nil List.length_map strRows_eq Option.getD_some Nat.zero_lt_succ if_true
theorem append_byte (a b : List Int) : a.map byteC ++ b.map byteC = (a ++ b).map byteC:=List.map_append.symm
theorem iTypeOf_spec (l : List DVal) (hl : l.length ≤ 1048576) : Ctr Tryz.prog 191 [.c (.sl (l.map DVal.c))] [.val (.c (.v (.int .i64 (typeOf l))))]:=by
 refine Ctr.mk Tryz.call191 Tryz.func191 rfl mixed Tryz.ntmps191 Tryz.results191 (by kernel_rfl) rfl fun hw=>?_
 simp only [go_sem,List.length_map]
 refine CallK.mk _ (within_spec _ _ _) fun _=>?_
 rcases h1 : inR (l.length : Int) 1 64 with _ | _
 ·have : typeOf l = 0:=by
   cases l with
   | nil=>rfl
   | cons v r =>
    show (if (v :: r).length ≤ 64 ∧ _ then v.ty else 0) = 0
    rw [if_neg]
    rintro ⟨q,_⟩
    simp [inR] at h1 q; omega
  simp only [go_sem,h1,this]
 have hlen : 1 ≤ l.length ∧ l.length ≤ 64:=by simp [inR] at h1; omega
 have h0 : 0 < l.length:=by omega
 simp only [go_sem,h1,List.length_map]
 refine LoopU.mk 0 (A:=Nat) (fun x=>[(11,.c (.v (.int .i64 (x))))]) (fun _=>[]) (fun x=>x ≤ l.length ∧ ∀ m (h : m < l.length),m < x → valOk l[m] = true ∧ l[m].ty = l[0].ty) (fun x=>l.length - x) 0 ⟨⟨rfl,rfl⟩,rfl,Nat.zero_le _,fun m h h2=>by omega⟩ ?_
 rintro i ⟨hi,hb⟩
 simp only [go_sem,List.length_map]
 refine cndC.mk (fun h=>?_) (fun h=>?_)
 ·have hi' : i < l.length:=by simp at h; omega
  simp only [go_sem,List.length_map,map_at _ hi',map_at _ h0,Option.getD_some]
  refine DrawK.mk ?_
  simp only [go_sem,List.length_map,map_at _ hi',map_at _ h0,Option.getD_some]
  refine CallF.mk _ (by simpa only [go_sem] using iValOk_spec l[i]) ?_
  simp only [go_sem,List.length_map,map_at _ hi',map_at _ h0,Option.getD_some]
  rcases h2 : valOk l[i] with _ | _
  ·rw [typeOf_no h0 (i:=i) hi' (fun q=>by rw [h2] at q; cases q.1)]
   simp only [go_sem,h2]
  rcases h3 : l[i].ty != l[0].ty with _ | _
  ·have h3' : l[i].ty = l[0].ty:=by simpa using h3
   simp only [go_sem,List.length_map,map_at _ hi',map_at _ h0,h2,h3,wrap_i64 (n:=(i : Int) + 1) (by omega) (by omega)]
   exact ⟨i + 1,⟨rfl,rfl⟩,rfl,⟨hi',fun m h4 h5=>by
    by_cases e : m = i
    ·subst e; exact ⟨h2,h3'⟩
    ·exact hb m h4 (by omega)⟩,by omega⟩
  ·have h3' : l[i].ty ≠ l[0].ty:=by simpa using h3
   rw [typeOf_no h0 (i:=i) hi' (fun q=>h3' q.2)]
   simp only [go_sem,List.length_map,map_at _ hi',map_at _ h0,h2,h3]
 ·have hi' : i = l.length:=by simp at h; omega
  subst hi'
  have : typeOf l = l[0].ty:=typeOf_of hlen.1 hlen.2 fun v hv=>by
   obtain ⟨m,hm,rfl⟩:=List.getElem_of_mem hv
   exact hb m hm hm
  rw [this]
  simp only [go_sem,List.length_map,map_at _ h0]
theorem sTypeOf_spec (l : List DVal) (hl : l.length ≤ 1048576) : Ctr Tryz.prog 180 [.c (.sl (l.map DVal.c))] [.val (.c (.v (.int .i64 (typeOf l))))]:=by
 refine Ctr.mk Tryz.call180 Tryz.func180 rfl mixed Tryz.ntmps180 Tryz.results180 (by kernel_rfl) rfl fun hw=>?_
 simp only [go_sem,List.length_map]
 refine CallK.mk _ (l1In_spec _ _ _) fun _=>?_
 rcases h1 : inR (l.length : Int) 1 64 with _ | _
 ·have : typeOf l = 0:=by
   cases l with
   | nil=>rfl
   | cons v r =>
    show (if (v :: r).length ≤ 64 ∧ _ then v.ty else 0) = 0
    rw [if_neg]
    rintro ⟨q,_⟩
    simp [inR] at h1 q; omega
  simp only [go_sem,h1,this]
 have hlen : 1 ≤ l.length ∧ l.length ≤ 64:=by simp [inR] at h1; omega
 have h0 : 0 < l.length:=by omega
 simp only [go_sem,h1,List.length_map]
 refine LoopU.mk 0 (A:=Nat) (fun x=>[(3,.c (.v (.int .i64 (x))))]) (fun _=>[]) (fun x=>x ≤ l.length ∧ ∀ m (h : m < l.length),m < x → valOk l[m] = true ∧ l[m].ty = l[0].ty) (fun x=>l.length - x) 0 ⟨⟨rfl,rfl⟩,rfl,Nat.zero_le _,fun m h h2=>by omega⟩ ?_
 rintro i ⟨hi,hb⟩
 simp only [go_sem,List.length_map]
 refine cndC.mk (fun h=>?_) (fun h=>?_)
 ·have hi' : i < l.length:=by simp at h; omega
  simp only [go_sem,List.length_map,map_at _ hi',map_at _ h0,Option.getD_some]
  refine DrawK.mk ?_
  simp only [go_sem,List.length_map,map_at _ hi',map_at _ h0,Option.getD_some]
  refine CallF.mk _ (by simpa only [go_sem] using sValOk_spec l[i]) ?_
  simp only [go_sem,List.length_map,map_at _ hi',map_at _ h0,Option.getD_some]
  rcases h2 : valOk l[i] with _ | _
  ·rw [typeOf_no h0 (i:=i) hi' (fun q=>by rw [h2] at q; cases q.1)]
   simp only [go_sem,h2]
  rcases h3 : l[i].ty != l[0].ty with _ | _
  ·have h3' : l[i].ty = l[0].ty:=by simpa using h3
   simp only [go_sem,List.length_map,map_at _ hi',map_at _ h0,h2,h3,wrap_i64 (n:=(i : Int) + 1) (by omega) (by omega)]
   exact ⟨i + 1,⟨rfl,rfl⟩,rfl,⟨hi',fun m h4 h5=>by
    by_cases e : m = i
    ·subst e; exact ⟨h2,h3'⟩
    ·exact hb m h4 (by omega)⟩,by omega⟩
  ·have h3' : l[i].ty ≠ l[0].ty:=by simpa using h3
   rw [typeOf_no h0 (i:=i) hi' (fun q=>h3' q.2)]
   simp only [go_sem,List.length_map,map_at _ hi',map_at _ h0,h2,h3]
 ·have hi' : i = l.length:=by simp at h; omega
  subst hi'
  have : typeOf l = l[0].ty:=typeOf_of hlen.1 hlen.2 fun v hv=>by
   obtain ⟨m,hm,rfl⟩:=List.getElem_of_mem hv
   exact hb m hm hm
  rw [this]
  simp only [go_sem,List.length_map,map_at _ h0]
def putV (v : DVal) : List Int:=if valOk v = true then valB v else []
theorem putV_num {v : DVal} (h : valOk v = true) (h2 : v.ty = 1) : putV v = putN v.n:=by
 have : isNumB v.n = true:=by
  simp only [valOk,if_pos h2,Bool.and_eq_true] at h
  exact h.1
 simp only [putV,putN,h,this,if_true,valB,if_pos h2]
theorem putV_txt {v : DVal} (h : valOk v = true) (h2 : v.ty = 2) : putV v = (v.s.size : Int) :: strL v.s ∧ v.s.size ≤ 6:=by
 have h3 : ¬ v.ty = 1:=by omega
 have : v.s.size ≤ 6:=by
  simp only [valOk,if_neg h3,Bool.and_eq_true,decide_eq_true_eq] at h
  exact h.1.2
 exact ⟨by simp only [putV,h,if_true,valB,if_neg h3],this⟩
theorem iPutVal_spec (b : List Int) (v : DVal) (hl : b.length ≤ 1048576) : Ctr Tryz.prog 248 [.c (.sl (b.map byteC)),.agg v.c] [.own 5 1 ((b ++ putV v).map byteC) true]:=by
 refine Ctr.mk Tryz.call248 Tryz.func248 rfl mixed Tryz.ntmps248 Tryz.results248 (by kernel_rfl) rfl fun hw=>?_
 have hl2 : b.length ≤ 2147483648:=by omega
 simp only [go_sem,List.length_map]
 refine CallK.mk _ (iValOk_spec v) fun _=>?_
 rcases h1 : valOk v with _ | _
 ·simp only [go_sem,h1,putV]
  refine CallK.mk _ (cloneBytes_spec b hl2) fun _=>?_
  simp only [go_sem,h1,nr_byte,List.append_nil]
  try simp [OwnL,pureC]
 have hty:=valOk_ty h1
 rcases h2 : v.ty == 1 with _ | _
 rotate_left
 ·have h2' : v.ty = 1:=by simpa using h2
  simp only [go_sem,h1,h2]
  refine CallK.mk _ (iPutNum_spec b v.n hl) fun _=>?_
  rw [putV_num h1 h2']
  simp only [go_sem,nr_byte]
  try simp [OwnL,pureC]
 have h2' : v.ty = 2:=by simp at h2; omega
 obtain ⟨e1,e2⟩:=putV_txt h1 h2'
 have w1 : IntKind.u8.wrap (v.s.size : Int) = v.s.size:=wrap_u8 (by omega) (by omega)
 have g1 : b.length + 1 ≤ 2147483648:=by omega
 have g2 : b.length + 1 + v.s.size ≤ 2147483648:=by omega
 rw [e1]
 simp only [go_sem,h1,h2]
 refine DrawK.split 1 6 [0,1,2,3,4,5,6,7,8,9,10,11] [0,2,3,4,5,6,1,7,8,9,10,11] rfl (by kernel_rfl) (by kernel_rfl) ?_ ?_
 ·simp only [go_sem]
  refine DrawK.mkE ?_
  simp only [go_sem]
  refine CallE.mk _ (cloneBytes_spec b hl2) ?_
  simp only [go_sem,w1,g1,g2,nr_byte,List.append_assoc]
  try simp [OwnL,pureC,byteC]
 ·simp only [go_sem]
  refine DrawK.mkE ?_
  simp only [go_sem,w1]
  refine CallE.mk _ (cloneBytes_spec b hl2) ?_
  simp only [go_sem,w1,g1,g2,nr_byte,List.append_assoc]
  try simp [OwnL,pureC,byteC]
theorem sPutVal_spec (b : List Int) (v : DVal) (hl : b.length ≤ 1048576) : Ctr Tryz.prog 237 [.c (.sl (b.map byteC)),.agg v.c] [.own 5 1 ((b ++ putV v).map byteC) true]:=by
 refine Ctr.mk Tryz.call237 Tryz.func237 rfl mixed Tryz.ntmps237 Tryz.results237 (by kernel_rfl) rfl fun hw=>?_
 have hl2 : b.length ≤ 2147483648:=by omega
 simp only [go_sem,List.length_map,byte_rows,hl2,Option.getD_some]
 refine CallK.mk _ (sValOk_spec v) fun _=>?_
 rcases h1 : valOk v with _ | _
 ·simp only [go_sem,h1,putV,nr_byte,List.append_nil]
  try simp [OwnL,pureC]
 have hty:=valOk_ty h1
 rcases h2 : v.ty == 1 with _ | _
 rotate_left
 ·have h2' : v.ty = 1:=by simpa using h2
  simp only [go_sem,h1,h2,pe_byte]
  refine CallK.mk _ (sPutNum_spec b v.n hl) fun _=>?_
  rw [putV_num h1 h2']
  simp only [go_sem,nr_byte]
  try simp [OwnL,pureC]
 have h2' : v.ty = 2:=by simp at h2; omega
 obtain ⟨e1,e2⟩:=putV_txt h1 h2'
 have w1 : IntKind.u8.wrap (v.s.size : Int) = v.s.size:=wrap_u8 (by omega) (by omega)
 have g1 : b.length + 1 ≤ 2147483648:=by omega
 have g2 : b.length + 1 + v.s.size ≤ 2147483648:=by omega
 rw [e1]
 simp only [go_sem,h1,h2]
 refine DrawK.mkE ?_
 simp only [go_sem,w1,g1,g2]
 simp only [nr_byte,List.append_assoc]
 try simp [OwnL,pureC,byteC]
def zeroD : DVal:=⟨0,0,ByteArray.empty⟩
def gvR : Option (DVal × Nat) → List Res
 | some (v,q)=>[.val (.agg v.c),.val (.c (.v (.int .i64 ((q : Int))))),.val (.c (.v (.bool (true))))]
 | none=>[.val (.agg zeroD.c),.val (.c (.v (.int .i64 (0)))),.val (.c (.v (.bool (false))))]
theorem bytesA_map : ∀ l : List Int,bytesA (l.map byteC) = some l
 | []=>rfl
 | c :: l=>by
  show (match bytesA (l.map byteC) with | some ns=>some (c :: ns) | none=>none) = _
  rw [bytesA_map l]
theorem idxA_of {k : IntKind} {n : Int} {m : Nat} (h : n = (m : Int)) : idxA (.c (.v (.int k n))) = some m:=by
 subst h
 show (if (0 : Int) ≤ (m : Int) then some (m : Int).toNat else none) = _
 rw [if_pos (by omega),Int.toNat_natCast]
theorem byte_all (l : List Int) : ((l.map byteC).all fun r=>r.length == 1) = true:=List.all_eq_true.2 fun r hr=>by
 obtain ⟨x,_,rfl⟩:=List.mem_map.1 hr
 rfl
theorem gv_ty (b : List Int) (p ty : Int) (h1 : ty ≠ 1) (h2 : ty ≠ 2) : getVal b p ty = none:=by
 unfold getVal
 rw [if_neg h1,if_neg (fun h=>h2 h.1)]
theorem gv_out (b : List Int) (p : Int) (h : ¬ (0 ≤ p ∧ p < b.length)) : getVal b p 2 = none:=by
 unfold getVal
 rw [if_neg (by omega)]
 split
 ·rename_i h2
  have : b[p.toNat]? = none:=by rw [List.getElem?_eq_none_iff]; omega
  rw [this]
 ·rfl
theorem gv_in {b : List Int} {p : Nat} (h : p < b.length) : getVal b (p : Int) 2 = if p + 1 + b[p].toNat ≤ b.length then (if valOk ⟨2,0,strOfNums ((b.drop (p + 1)).take b[p].toNat)⟩ = true then some (⟨2,0,strOfNums ((b.drop (p + 1)).take b[p].toNat)⟩,p + 1 + b[p].toNat) else none) else none:=by
 unfold getVal
 rw [if_neg (by omega),if_pos ⟨rfl,by omega⟩]
 simp only [Int.toNat_natCast,List.getElem?_eq_getElem h]
theorem iGetVal_spec (b : List Int) (p ty : Int) (hb : bytesOk b) (hl : b.length ≤ 1048576) : Ctr Tryz.prog 218 [.c (.sl (b.map byteC)),.c (.v (.int .i64 (p))),.c (.v (.int .i64 (ty)))] (gvR (getVal b p ty)):=by
 refine Ctr.mk Tryz.call218 Tryz.func218 rfl mixed Tryz.ntmps218 Tryz.results218 (by kernel_rfl) rfl fun hw=>?_
 rcases h1 : ty == 1 with _ | _
 ·have h1' : ty ≠ 1:=by simpa using h1
  simp only [go_sem,h1]
  rcases h2 : ty == 2 with _ | _
  ·have h2' : ty ≠ 2:=by simpa using h2
   rw [gv_ty b p ty h1' h2']
   simp only [go_sem,h2]
   refine CallK.mk _ (iValOk_spec ⟨ty,0,ByteArray.empty⟩) fun _=>?_
   have hv : valOk ⟨ty,0,ByteArray.empty⟩ = false:=by simp [valOk,h1',h2']
   simp only [go_sem,hv,gvR,zeroD]
  ·have : ty = 2:=by simpa using h2
   subst this
   simp only [go_sem,h2]
   rcases h3 : decide (p ≥ 0) with _ | _
   ·rw [gv_out b p (by simp at h3; omega)]
    simp only [go_sem,h3]
    refine CallK.mk _ (iValOk_spec ⟨2,0,ByteArray.empty⟩) fun _=>?_
    have e7 : ((0 : Int) == 0) = true:=rfl
    rcases hv : valOk ⟨2,0,ByteArray.empty⟩ with _ | _ <;> simp only [go_sem,hv,e7,gvR,zeroD]
   have h3' : 0 ≤ p:=by simpa using h3
   obtain ⟨p,rfl⟩:=Int.eq_ofNat_of_zero_le h3'
   rcases h4 : decide ((p : Int) < (b.length : Int)) with _ | _
   ·rw [gv_out b p (by simp at h4; omega)]
    simp only [go_sem,h3,h4]
    refine CallK.mk _ (iValOk_spec ⟨2,0,ByteArray.empty⟩) fun _=>?_
    have e7 : ((0 : Int) == 0) = true:=rfl
    rcases hv : valOk ⟨2,0,ByteArray.empty⟩ with _ | _ <;> simp only [go_sem,hv,e7,gvR,zeroD]
   have hp : p < b.length:=by simpa using h4
   have hc : isByte b[p]:=hb _ (List.getElem_mem hp)
   obtain ⟨c,hc2⟩:=Int.eq_ofNat_of_zero_le hc.1
   have hc3 : c < 256:=by have:=hc.2; omega
   rw [gv_in hp]
   simp only [go_sem,h3,h4,map_at _ hp,hc2,Int.toNat_natCast,wrap_i64 (n:=(p : Int) + 1) (by omega) (by omega),wrap_i64 (n:=(p : Int) + 1 + (c : Int)) (by omega) (by omega),wrap_i64 (n:=(c : Int)) (by omega) (by omega)]
   rcases h5 : decide ((p : Int) + 1 + (c : Int) > (b.length : Int)) with _ | _
   ·have h6 : p + 1 + c ≤ b.length:=by simp at h5; omega
    have q1:=idxA_of (k:=.i64) (n:=(p : Int) + 1) (m:=p + 1) (by omega)
    have q2:=idxA_of (k:=.i64) (n:=(p : Int) + 1 + (c : Int)) (m:=p + 1 + c) (by omega)
    have q5 : p + 1 ≤ p + 1 + c:=by omega
    have q6 : p + 1 + c - (p + 1) = c:=by omega
    rw [if_pos h6]
    simp only [go_sem,h5,wrap_i64 (n:=(p : Int) + 1) (by omega) (by omega),q1,q2,q5,q6,h6,byte_all,← List.map_drop,← List.map_take,bytesA_map]
    refine CallK.mk _ (iValOk_spec ⟨2,0,strOfNums ((b.drop (p + 1)).take c)⟩) fun _=>?_
    have e7 : ((p : Int) + 1 + (c : Int) == 0) = false:=by simp; omega
    have e8 : ((p + 1 + c : Nat) : Int) = (p : Int) + 1 + (c : Int):=by omega
    rcases hv : valOk ⟨2,0,strOfNums ((b.drop (p + 1)).take c)⟩ with _ | _
    ·simp only [go_sem,hv,gvR,zeroD,Bool.false_eq_true,if_false]
    ·simp only [go_sem,hv,e7,gvR,e8,wrap_i64 (n:=(p : Int) + 1) (by omega) (by omega),wrap_i64 (n:=(p : Int) + 1 + (c : Int)) (by omega) (by omega)]
   ·rw [if_neg (by simp at h5; omega)]
    simp only [go_sem,h5,gvR,zeroD]
 ·have : ty = 1:=by simpa using h1
  subst this
  simp only [go_sem,h1]
  have hg:=iGetNum_spec b p hb hl
  rcases h2 : getNum b p with _ | ⟨n,q⟩ <;> rw [h2] at hg <;> simp only [gnR] at hg
  ·refine CallK.mk _ hg fun _=>?_
   simp only [go_sem,getVal,h2,gvR,Option.map_none,zeroD]
  refine CallK.mk _ hg fun _=>?_
  obtain ⟨e1,e2,e3,e4,e5,e6⟩:=getNum_ok hb h2
  have hv:=valOk_num n ⟨e4,e5⟩
  simp only [go_sem]
  refine CallK.mk _ (iValOk_spec ⟨1,n,ByteArray.empty⟩) fun _=>?_
  have e7 : ((q : Int) == 0) = false:=by simp; omega
  simp only [go_sem,hv,getVal,h2,gvR,Option.map_some,e7]
theorem sGetVal_spec (b : List Int) (p ty : Int) (hb : bytesOk b) (hl : b.length ≤ 1048576) : Ctr Tryz.prog 202 [.c (.sl (b.map byteC)),.c (.v (.int .i64 (p))),.c (.v (.int .i64 (ty)))] (gvR (getVal b p ty)):=by
 refine Ctr.mk Tryz.call202 Tryz.func202 rfl mixed Tryz.ntmps202 Tryz.results202 (by kernel_rfl) rfl fun hw=>?_
 rcases h1 : ty == 1 with _ | _
 ·have h1' : ty ≠ 1:=by simpa using h1
  simp only [go_sem,h1]
  rcases h2 : ty == 2 with _ | _
  ·have h2' : ty ≠ 2:=by simpa using h2
   rw [gv_ty b p ty h1' h2']
   have h3 : (ty != 2) = true:=by simpa using h2'
   simp only [go_sem,h3,gvR,zeroD]
  ·have : ty = 2:=by simpa using h2
   subst this
   have h3 : ((2 : Int) != 2) = false:=by simp
   simp only [go_sem,h3]
   refine CallK.mk _ (l1In_spec _ _ _) fun _=>?_
   simp only [go_sem,wrap_i64 (n:=(b.length : Int) - 1) (by omega) (by omega)]
   rcases h4 : inR p 0 ((b.length : Int) - 1) with _ | _
   ·rw [gv_out b p (by simp [inR] at h4; omega)]
    simp only [go_sem,h4,gvR,zeroD]
   have h4' : 0 ≤ p ∧ p < b.length:=by simp [inR] at h4; omega
   obtain ⟨p,rfl⟩:=Int.eq_ofNat_of_zero_le h4'.1
   have hp : p < b.length:=by omega
   have hc : isByte b[p]:=hb _ (List.getElem_mem hp)
   obtain ⟨c,hc2⟩:=Int.eq_ofNat_of_zero_le hc.1
   have hc3 : c < 256:=by have:=hc.2; omega
   rw [gv_in hp]
   simp only [go_sem,h4,map_at _ hp,hc2,Int.toNat_natCast,wrap_i64 (n:=(p : Int) + 1) (by omega) (by omega),wrap_i64 (n:=(p : Int) + 1 + (c : Int)) (by omega) (by omega),wrap_i64 (n:=(c : Int)) (by omega) (by omega),wrap_i64 (n:=(b.length : Int) - (p : Int)) (by omega) (by omega),wrap_i64 (n:=(b.length : Int) - (p : Int) - 1) (by omega) (by omega)]
   rcases h5 : decide ((c : Int) > (b.length : Int) - (p : Int) - 1) with _ | _
   ·have h6 : p + 1 + c ≤ b.length:=by simp at h5; omega
    have q1:=idxA_of (k:=.i64) (n:=(p : Int) + 1) (m:=p + 1) (by omega)
    have q2:=idxA_of (k:=.i64) (n:=(p : Int) + 1 + (c : Int)) (m:=p + 1 + c) (by omega)
    have q5 : p + 1 ≤ p + 1 + c:=by omega
    have q6 : p + 1 + c - (p + 1) = c:=by omega
    rw [if_pos h6]
    simp only [go_sem,h5,wrap_i64 (n:=(p : Int) + 1) (by omega) (by omega),wrap_i64 (n:=(p : Int) + 1 + (c : Int)) (by omega) (by omega),q1,q2,q5,q6,h6,byte_all,← List.map_drop,← List.map_take,bytesA_map]
    refine CallK.mk _ (sValOk_spec ⟨2,0,strOfNums ((b.drop (p + 1)).take c)⟩) fun _=>?_
    have e7 : ((p : Int) + 1 + (c : Int) == 0) = false:=by simp; omega
    have e8 : ((p + 1 + c : Nat) : Int) = (p : Int) + 1 + (c : Int):=by omega
    rcases hv : valOk ⟨2,0,strOfNums ((b.drop (p + 1)).take c)⟩ with _ | _
    ·simp only [go_sem,hv,gvR,zeroD,Bool.false_eq_true,if_false]
    ·simp only [go_sem,hv,e7,gvR,e8,wrap_i64 (n:=(p : Int) + 1) (by omega) (by omega),wrap_i64 (n:=(p : Int) + 1 + (c : Int)) (by omega) (by omega)]
   ·rw [if_neg (by simp at h5; omega)]
    simp only [go_sem,h5,gvR,zeroD]
 ·have : ty = 1:=by simpa using h1
  subst this
  simp only [go_sem,h1]
  have hg:=sGetNum_spec b p hb hl
  rcases h2 : getNum b p with _ | ⟨n,q⟩ <;> rw [h2] at hg <;> simp only [gnR] at hg
  ·refine CallK.mk _ hg fun _=>?_
   simp only [go_sem,getVal,h2,gvR,Option.map_none,zeroD]
  refine CallK.mk _ hg fun _=>?_
  simp only [go_sem,getVal,h2,gvR,Option.map_some]
end Go.Proofs.YthoeeoddgkjkkaaGreat
