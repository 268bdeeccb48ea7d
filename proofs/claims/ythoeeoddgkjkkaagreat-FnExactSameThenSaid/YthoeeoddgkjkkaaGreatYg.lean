/- Walks: lists of numbers written, plain columns. -/
import Derived.Test.YthoeeoddgkjkkaaGreatYf
import Derived.Test.YthoeeoddgkjkkaaGreatWe
namespace Go.Proofs.YthoeeoddgkjkkaaGreat
set_option linter.unusedSimpArgs false
set_option linter.unusedVariables false
open Go.Vm
set_option maxHeartbeats 2000000
set_option maxRecDepth 10000
theorem pe_nil : pureE [] = true:=rfl
attribute [go_sem] pe_nil pe_byte pe_Val pe_int nr_byte nr_int nr_Val nr_nil
theorem bytesOk_wf : ∀ {b : List Int},WfE (b.map byteC) → bytesOk b
 | [],_=>by simp [bytesOk]
 | c :: b,h=>by
  simp only [List.map_cons,WfE,byteC_eq,WfL,WfC] at h
  intro x hx
  rcases List.mem_cons.1 hx with rfl | hx
  ·have:=h.1.1
   simp only [wfV,Lit.wf,Bool.and_eq_true,decide_eq_true_eq] at this
   simp [IntKind.min,IntKind.max,IntKind.bits,IntKind.signed] at this
   unfold isByte
   omega
  ·exact bytesOk_wf h.2 x hx
theorem strOf_inj {a b : List Int} (ha : bytesOk a) (hb : bytesOk b) : (strOfNums a = strOfNums b) ↔ a = b:=by
 constructor
 ·intro h
  rw [← strL_of ha,← strL_of hb,h]
 ·rintro rfl; rfl
theorem typeOf_all {l : List DVal} (h : typeOf l ≠ 0) : 1 ≤ l.length ∧ l.length ≤ 64 ∧ ∀ v ∈ l,valOk v = true ∧ v.ty = typeOf l:=by
 cases l with
 | nil=>exact absurd rfl h
 | cons v r =>
  have e : typeOf (v :: r) = if (v :: r).length ≤ 64 ∧ ∀ x ∈ (v :: r),valOk x = true ∧ x.ty = v.ty then v.ty else 0:=rfl
  rw [e] at h ⊢
  split at h
  ·rename_i h1
   rw [if_pos h1]
   exact ⟨by simp,h1.1,h1.2⟩
  ·exact absurd rfl h
theorem numB_len (n : Int) : (numB n).length ≤ 5:=pnL_len 4 _
theorem valB_len {v : DVal} (h : valOk v = true) : (valB v).length ≤ 7:=by
 unfold valB
 split
 ·have:=numB_len v.n; omega
 ·rename_i h3
  have : v.s.size ≤ 6:=by
   simp only [valOk,if_neg h3,Bool.and_eq_true,decide_eq_true_eq] at h
   exact h.1.2
  simp [strL_len]; omega
theorem valsB_len : ∀ {l : List DVal},(∀ v ∈ l,valOk v = true) → (valsB l).length ≤ 7 * l.length
 | [],_=>by simp [valsB]
 | v :: l,h=>by
  have h1:=valB_len (h v (by simp))
  have h2:=valsB_len fun x hx=>h x (List.mem_cons_of_mem v hx)
  simp only [valsB,List.map_cons,List.flatten_cons,List.length_append,List.length_cons] at h1 h2 ⊢
  omega
theorem putV_ok {v : DVal} (h : valOk v = true) : putV v = valB v:=by simp only [putV,h,if_true]
theorem putN_ok {n : Int} (h : isNumB n = true) : putN n = numB n:=by simp only [putN,h,if_true]
theorem valsB_snoc {l : List DVal} {i : Nat} (h : i < l.length) : valsB (l.take (i + 1)) = valsB (l.take i) ++ valB l[i]:=by
 rw [List.take_succ_eq_append_getElem h]
 simp only [valsB,List.map_append,List.flatten_append,List.map_cons,List.map_nil,List.flatten_cons,List.flatten_nil,List.append_nil]
theorem numsL_snoc {l : List Int} {i : Nat} (h : i < l.length) : ((l.take (i + 1)).map numB).flatten = ((l.take i).map numB).flatten ++ numB l[i]:=by
 rw [List.take_succ_eq_append_getElem h]
 simp only [List.map_append,List.flatten_append,List.map_cons,List.map_nil,List.flatten_cons,List.flatten_nil,List.append_nil]
theorem numsL_len : ∀ l : List Int,((l.map numB).flatten).length ≤ 5 * l.length
 | []=>by simp
 | n :: l=>by
  have h1:=numB_len n
  have h2:=numsL_len l
  simp only [List.map_cons,List.flatten_cons,List.length_append,List.length_cons]
  omega
theorem iPutNums_spec (b : List Int) (l : List Int) (hl : l.length ≤ 100000) (hb : b.length ≤ 100000) (hn : ∀ n ∈ l,isNumB n = true) : Ctr Tryz.prog 195 [.c (.sl (b.map byteC)),.c (.sl (l.map intC))] [.own 5 1 ((b ++ numsB l).map byteC) true]:=by
 refine Ctr.mk Tryz.call195 Tryz.func195 rfl mixed Tryz.ntmps195 Tryz.results195 (by kernel_rfl) rfl fun hw=>?_
 have h1 : decide ((l.length : Int) > 1000000000) = false:=by simp; omega
 simp only [go_sem]
 refine CallK.mk _ (cloneBytes_spec b (by omega)) fun _=>?_
 simp only [go_sem,h1]
 refine LoopU.mk 1 (A:=Nat) (fun x=>[(18,.c (.v (.int .i64 (x))))]) (fun _=>[⟨5,1,b.map byteC,true,true⟩]) (fun x=>x ≤ l.length) (fun x=>l.length - x) 0 ⟨⟨rfl,all1 (nr_noRefOb (nr_byte _))⟩,rfl,Nat.zero_le _⟩ ?_
 rintro i hi
 simp only [go_sem]
 refine cndC.mk (fun h=>?_) (fun h=>?_)
 ·have hi' : i < l.length:=by simp at h; omega
  have hok:=hn _ (List.getElem_mem hi')
  simp only [go_sem,map_at _ hi']
  refine CallK.mk _ (isNum_spec _) fun _=>?_
  simp only [go_sem,hok,wrap_i64 (n:=(i : Int) + 1) (by omega) (by omega)]
  exact ⟨i + 1,⟨rfl,all1 (nr_noRefOb (nr_byte _))⟩,rfl,hi',by omega⟩
 ·simp only [go_sem]
  refine CallK.mk _ (iPutNum_spec b _ (by omega)) fun _=>?_
  rw [putN_ok (by simp [isNumB,inR]; omega)]
  simp only [go_sem]
  have hq:=numB_len (l.length : Int)
  refine LoopH.mk [11,27,30] (A:=Nat) (fun x=>[(33,.c (.v (.int .i64 (x)))),(5,.c (.ref 0))]) (fun x=>[⟨5,1,(b ++ numB l.length ++ ((l.take x).map numB).flatten).map byteC,true,true⟩]) (fun x=>x ≤ l.length) (fun x=>l.length - x) 0 (Head.sel [(1,false)] ⟨rfl,rfl,pe_byte _,trivial⟩ (by simp only [List.take_zero,List.map_nil,List.flatten_nil,List.append_nil]; rfl)) (Nat.zero_le _) ?_
  rintro i hi
  simp only [go_sem]
  refine cndC.mk (fun h=>?_) (fun h=>?_)
  ·have hi' : i < l.length:=by simp at h; omega
   have hok:=hn _ (List.getElem_mem hi')
   have hq2:=numsL_len (l.take i)
   rw [List.length_take] at hq2
   simp only [go_sem,map_at _ hi',pe_byte]
   refine CallK.mk _ (iPutNum_spec _ _ (by simp only [List.length_append]; omega)) fun _=>?_
   rw [putN_ok hok]
   simp only [go_sem,wrap_i64 (n:=(i : Int) + 1) (by omega) (by omega)]
   exact ⟨i + 1,Head.sel [(1,false)] ⟨rfl,rfl,pe_byte _,trivial⟩ (by rw [numsL_snoc hi']; simp; rfl),hi',by omega⟩
  ·have hi' : i = l.length:=by simp at h; omega
   subst hi'
   simp only [go_sem,nr_byte,numsB,List.take_length,List.append_assoc]
   try simp [OwnL,pureC]
theorem iEncPlain_spec (l : List DVal) (hl : l.length ≤ 1048576) : Ctr Tryz.prog 217 [.c (.sl (l.map DVal.c))] [.own 5 1 ((encPlain l).map byteC) true]:=by
 refine Ctr.mk Tryz.call217 Tryz.func217 rfl mixed Tryz.ntmps217 Tryz.results217 (by kernel_rfl) rfl fun hw=>?_
 simp only [go_sem]
 refine CallK.mk _ (iTypeOf_spec l hl) fun _=>?_
 rcases h1 : typeOf l == 0 with _ | _
 ·have h1' : typeOf l ≠ 0:=by simpa using h1
  obtain ⟨q1,q2,q3⟩:=typeOf_all h1'
  simp only [go_sem,h1,encPlain,h1']
  refine LoopH.mk [6] (A:=Nat) (fun x=>[(13,.c (.v (.int .i64 (x)))),(3,.c (.ref 0))]) (fun x=>[⟨5,1,(valsB (l.take x)).map byteC,true,true⟩]) (fun x=>x ≤ l.length) (fun x=>l.length - x) 0 (Head.sel [(0,false)] ⟨rfl,rfl,rfl,trivial⟩ rfl) (Nat.zero_le _) ?_
  rintro i hi
  simp only [go_sem]
  refine cndC.mk (fun h=>?_) (fun h=>?_)
  ·have hi' : i < l.length:=by simp at h; omega
   have hok:=(q3 _ (List.getElem_mem hi')).1
   have hq2:=valsB_len (l:=l.take i) fun v hv=>(q3 v (List.mem_of_mem_take hv)).1
   rw [List.length_take] at hq2
   simp only [go_sem,map_at _ hi',pe_byte]
   refine CallK.mk _ (iPutVal_spec _ _ (by omega)) fun _=>?_
   rw [putV_ok hok,← valsB_snoc hi']
   simp only [go_sem,wrap_i64 (n:=(i : Int) + 1) (by omega) (by omega)]
   exact ⟨i + 1,Head.sel [(2,false)] ⟨rfl,rfl,pe_byte _,trivial⟩ rfl,hi',by omega⟩
  ·have hi' : i = l.length:=by simp at h; omega
   subst hi'
   simp only [go_sem,nr_byte,List.take_length,Bool.false_eq_true,if_false]
   try simp [OwnL,pureC]
 ·have h1' : typeOf l = 0:=by simpa using h1
  have e : encPlain l = []:=if_pos h1'
  rw [e]
  simp only [go_sem,h1]
  try simp [OwnL,pureC,nrE]
theorem sEncPlain_spec (l : List DVal) (hl : l.length ≤ 1048576) : Ctr Tryz.prog 247 [.c (.sl (l.map DVal.c))] [.own 5 1 ((encPlain l).map byteC) true]:=by
 refine Ctr.mk Tryz.call247 Tryz.func247 rfl mixed Tryz.ntmps247 Tryz.results247 (by kernel_rfl) rfl fun hw=>?_
 simp only [go_sem]
 refine CallK.mk _ (sTypeOf_spec l hl) fun _=>?_
 rcases h1 : typeOf l == 0 with _ | _
 ·have h1' : typeOf l ≠ 0:=by simpa using h1
  obtain ⟨q1,q2,q3⟩:=typeOf_all h1'
  simp only [go_sem,h1,encPlain,h1']
  refine LoopH.mk [5] (A:=Nat) (fun x=>[(4,.c (.v (.int .i64 (x)))),(3,.c (.ref 0))]) (fun x=>[⟨5,1,(valsB (l.take x)).map byteC,true,true⟩]) (fun x=>x ≤ l.length) (fun x=>l.length - x) 0 (Head.sel [(0,false)] ⟨rfl,rfl,rfl,trivial⟩ rfl) (Nat.zero_le _) ?_
  rintro i hi
  simp only [go_sem]
  refine cndC.mk (fun h=>?_) (fun h=>?_)
  ·have hi' : i < l.length:=by simp at h; omega
   have hok:=(q3 _ (List.getElem_mem hi')).1
   have hq2:=valsB_len (l:=l.take i) fun v hv=>(q3 v (List.mem_of_mem_take hv)).1
   rw [List.length_take] at hq2
   simp only [go_sem,map_at _ hi',pe_byte]
   refine CallK.mk _ (sPutVal_spec _ _ (by omega)) fun _=>?_
   rw [putV_ok hok,← valsB_snoc hi']
   simp only [go_sem,wrap_i64 (n:=(i : Int) + 1) (by omega) (by omega)]
   exact ⟨i + 1,Head.sel [(1,false)] ⟨rfl,rfl,pe_byte _,trivial⟩ rfl,hi',by omega⟩
  ·have hi' : i = l.length:=by simp at h; omega
   subst hi'
   simp only [go_sem,nr_byte,List.take_length,Bool.false_eq_true,if_false]
   try simp [OwnL,pureC]
 ·have h1' : typeOf l = 0:=by simpa using h1
  have e : encPlain l = []:=if_pos h1'
  rw [e]
  simp only [go_sem,h1]
  try simp [OwnL,pureC,nrE]
def gvsR : Option (List DVal × Nat) → List Res
 | some (l,q)=>[.own 72 3 (l.map DVal.c) true,.val (.c (.v (.int .i64 ((q : Int))))),.val (.c (.v (.bool (true))))]
 | none=>[.own 72 3 [] true,.val (.c (.v (.int .i64 (0)))),.val (.c (.v (.bool (false))))]
theorem val_snoc (out : List DVal) (v : DVal) : (out ++ [v]).map DVal.c = out.map DVal.c ++ [v.c]:=by simp
theorem pe_snoc (l : List DVal) (n : DVal) : pureE (l.map DVal.c ++ [n.c]) = true:=by rw [← val_snoc]; exact pe_Val _
theorem getVals_spec (b : List Int) (p : Nat) (ty k : Int) (hb : bytesOk b) (hl : b.length ≤ 1048576) (hk : k ≤ 64) : Ctr Tryz.prog 216 [.c (.sl (b.map byteC)),.c (.v (.int .i64 ((p : Int)))),.c (.v (.int .i64 (ty))),.c (.v (.int .i64 (k)))] (gvsR (getVals b ty k.toNat p)):=by
 refine Ctr.mk Tryz.call216 Tryz.func216 rfl mixed Tryz.ntmps216 Tryz.results216 (by kernel_rfl) rfl fun hw=>?_
 simp only [go_sem]
 refine LoopH.mk [16] (A:=Nat × Nat × List DVal) (fun x=>[(12,.c (.v (.int .i64 (x.1)))),(11,.c (.ref 0)),(1,.c (.v (.int .i64 ((x.2.1 : Int)))))]) (fun x=>[⟨72,3,x.2.2.map DVal.c,true,true⟩]) (fun x=>x.1 ≤ k.toNat ∧ x.2.2.length = x.1 ∧ (getVals b ty (k.toNat - x.1) x.2.1).map (fun y=>(x.2.2 ++ y.1,y.2)) = getVals b ty k.toNat p) (fun x=>k.toNat - x.1) (0,p,[]) (Head.sel [(0,false)] ⟨rfl,rfl,rfl,trivial⟩ rfl) ⟨Nat.zero_le _,rfl,by simp⟩ ?_
 rintro ⟨i,q',l⟩ ⟨hi,hll,hb2⟩
 dsimp only at hi hll hb2
 simp only [go_sem]
 refine cndC.mk (fun h=>?_) (fun h=>?_)
 ·have hi' : i < k.toNat:=by simp at h; omega
  rw [show k.toNat - i = (k.toNat - (i + 1)) + 1 by omega,getVals] at hb2
  have hg2:=iGetVal_spec b q' ty hb hl
  simp only [go_sem]
  rcases h3 : getVal b q' ty with _ | ⟨n,q2⟩ <;> rw [h3] at hg2 hb2 <;> simp only [gvR] at hg2
  ·refine CallK.mk _ hg2 fun _=>?_
   simp only [Option.map_none] at hb2
   rw [← hb2]
   simp only [go_sem,gvsR]
   try simp [nrE]
  ·refine CallK.mk _ hg2 fun _=>?_
   have hl2 : l.length + 1 ≤ 2147483648:=by omega
   simp only [go_sem,hl2,wrap_i64 (n:=(i : Int) + 1) (by omega) (by omega)]
   exact ⟨(i + 1,q2,l ++ [n]),Head.sel [(3,false)] ⟨rfl,rfl,pe_snoc l n,trivial⟩ (by rw [val_snoc]; rfl),⟨hi',by simp; omega,by rw [← hb2,Option.map_map]; congr 1; funext y; simp⟩,by simp only; omega⟩
 ·have hi' : i = k.toNat:=by simp at h; omega
  subst hi'
  rw [Nat.sub_self,getVals] at hb2
  simp only [Option.map_some,List.append_nil] at hb2
  rw [← hb2]
  simp only [go_sem,gvsR,nr_Val]
  try simp [OwnL,pureC]
def dvR : Option (List DVal) → List Res
 | some l=>[.val (.c (.sl (l.map DVal.c))),.val (.c (.v (.bool (true))))]
 | none=>[.val (.c (.sl [])),.val (.c (.v (.bool (false))))]
theorem str_beq {a b : List Int} (ha : bytesOk a) (hb : bytesOk b) : ((strOfNums a).toList == (strOfNums b).toList) = decide (a = b):=by
 rw [Bool.eq_iff_iff,beq_iff_eq,decide_eq_true_eq,← strOf_inj ha hb]
 exact ⟨ba_inj,fun h=>by rw [h]⟩
theorem bytesEqual_spec (a b : List Int) : Ctr Tryz.prog 162 [.c (.sl (a.map byteC)),.c (.sl (b.map byteC))] [.val (.c (.v (.bool (decide (a = b)))))]:=by
 refine Ctr.mk Tryz.call162 Tryz.func162 rfl mixed Tryz.ntmps162 Tryz.results162 (by kernel_rfl) rfl fun hw=>?_
 have h1:=bytesOk_wf hw.1.2
 have h2:=bytesOk_wf hw.2.1.2
 simp only [go_sem,bytesA_map,str_beq h1 h2]
theorem l5Same_spec (a b : List Int) : Ctr Tryz.prog 181 [.c (.sl (a.map byteC)),.c (.sl (b.map byteC))] [.val (.c (.v (.bool (decide (a = b)))))]:=by
 refine Ctr.mk Tryz.call181 Tryz.func181 rfl mixed Tryz.ntmps181 Tryz.results181 (by kernel_rfl) rfl fun hw=>?_
 have h1:=bytesOk_wf hw.1.2
 have h2:=bytesOk_wf hw.2.1.2
 simp only [go_sem,bytesA_map,str_beq h1 h2]
theorem decoded_spec (b : List Int) (k : Int) (l : List DVal) (e : List Int) : Ctr Tryz.prog 192 [.c (.sl (b.map byteC)),.c (.v (.int .i64 (k))),.c (.sl (l.map DVal.c)),.c (.sl (e.map byteC))] (dvR (again b k l e)):=by
 refine Ctr.mk Tryz.call192 Tryz.func192 rfl mixed Tryz.ntmps192 Tryz.results192 (by kernel_rfl) rfl fun hw=>?_
 simp only [go_sem]
 refine CallK.mk _ (within_spec _ _ _) fun _=>?_
 rcases h1 : inR k 1 64 with _ | _
 ·have : again b k l e = none:=if_neg (by simp [inR] at h1; omega)
  simp only [go_sem,h1,this,dvR]
 have h1' : 1 ≤ k ∧ k ≤ 64:=by simp [inR] at h1; omega
 simp only [go_sem,h1]
 rcases h2 : (l.length : Int) != k with _ | _
 ·have h2' : (l.length : Int) = k:=by simpa using h2
  simp only [go_sem,h2]
  refine CallK.mk _ (bytesEqual_spec b e) fun _=>?_
  rcases h3 : decide (b = e) with _ | _
  ·have : again b k l e = none:=if_neg (fun q=>by simp at h3; exact h3 q.2.2.2)
   simp only [go_sem,h3,this,dvR]
  ·have : again b k l e = some l:=if_pos ⟨h1'.1,h1'.2,h2',by simpa using h3⟩
   simp only [go_sem,h3,this,dvR]
 ·have : again b k l e = none:=if_neg (by simp at h2; omega)
  simp only [go_sem,h2,this,dvR]
theorem sDecPlain_spec (b : List Int) (ty k : Int) (hb : bytesOk b) (hl : b.length ≤ 1048576) : Ctr Tryz.prog 176 [.c (.sl (b.map byteC)),.c (.v (.int .i64 (ty))),.c (.v (.int .i64 (k)))] (dvR (decPlain b ty k)):=by
 refine Ctr.mk Tryz.call176 Tryz.func176 rfl mixed Tryz.ntmps176 Tryz.results176 (by kernel_rfl) rfl fun hw=>?_
 simp only [go_sem]
 refine CallK.mk _ (l1In_spec _ _ _) fun _=>?_
 rcases h2 : inR k 1 64 with _ | _
 ·have : decPlain b ty k = none:=if_neg (by simp [inR] at h2; omega)
  simp only [go_sem,h2,this,dvR]
  try simp [nrE]
 have h2' : 1 ≤ k ∧ k ≤ 64:=by simp [inR] at h2; omega
 have hall : decPlain b ty k = match getVals b ty k.toNat 0 with
  | none=>none
  | some (l,q)=>if q = b.length then some l else none:=if_pos h2'
 simp only [go_sem,h2]
 refine LoopH.mk [14] (A:=Nat × Nat × List DVal) (fun x=>[(10,.c (.v (.int .i64 (x.1)))),(8,.c (.ref 0)),(9,.c (.v (.int .i64 ((x.2.1 : Int)))))]) (fun x=>[⟨72,3,x.2.2.map DVal.c,true,true⟩]) (fun x=>x.1 ≤ k.toNat ∧ x.2.2.length = x.1 ∧ (getVals b ty (k.toNat - x.1) x.2.1).map (fun y=>(x.2.2 ++ y.1,y.2)) = getVals b ty k.toNat 0) (fun x=>k.toNat - x.1) (0,0,[]) (Head.sel [(0,false)] ⟨rfl,rfl,rfl,trivial⟩ rfl) ⟨Nat.zero_le _,rfl,by simp⟩ ?_
 rintro ⟨i,q',l⟩ ⟨hi,hll,hb2⟩
 dsimp only at hi hll hb2
 simp only [go_sem]
 refine cndC.mk (fun h=>?_) (fun h=>?_)
 ·have hi' : i < k.toNat:=by simp at h; omega
  rw [show k.toNat - i = (k.toNat - (i + 1)) + 1 by omega,getVals] at hb2
  have hg2:=sGetVal_spec b q' ty hb hl
  simp only [go_sem]
  rcases h3 : getVal b q' ty with _ | ⟨n,q2⟩ <;> rw [h3] at hg2 hb2 <;> simp only [gvR] at hg2
  ·refine CallK.mk _ hg2 fun _=>?_
   simp only [Option.map_none] at hb2
   rw [hall,← hb2]
   simp only [go_sem,dvR]
   try simp [nrE]
  ·refine CallK.mk _ hg2 fun _=>?_
   have hl2 : l.length + 1 ≤ 2147483648:=by omega
   simp only [go_sem,hl2,wrap_i64 (n:=(i : Int) + 1) (by omega) (by omega)]
   exact ⟨(i + 1,q2,l ++ [n]),Head.sel [(3,false)] ⟨rfl,rfl,pe_snoc l n,trivial⟩ (by rw [val_snoc]; rfl),⟨hi',by simp; omega,by rw [← hb2,Option.map_map]; congr 1; funext y; simp⟩,by simp only; omega⟩
 ·have hi' : i = k.toNat:=by simp at h; omega
  subst hi'
  rw [Nat.sub_self,getVals] at hb2
  simp only [Option.map_some,List.append_nil] at hb2
  rw [hall,← hb2]
  rcases h4 : ((q' : Int) != (b.length : Int)) with _ | _
  ·have h4' : q' = b.length:=by simp at h4; omega
   simp only [go_sem,h4,if_pos h4',dvR]
   try simp [OwnL,pureC]
  ·have h4' : ¬ q' = b.length:=by simp at h4; omega
   simp only [go_sem,h4,if_neg h4',dvR]
   try simp [nrE]
theorem iDecPlain_spec (b : List Int) (ty k : Int) (hb : bytesOk b) (hl : b.length ≤ 1048576) : Ctr Tryz.prog 187 [.c (.sl (b.map byteC)),.c (.v (.int .i64 (ty))),.c (.v (.int .i64 (k)))] (dvR (decPlain b ty k)):=by
 rw [← decPlain_eq hb]
 refine Ctr.mk Tryz.call187 Tryz.func187 rfl mixed Tryz.ntmps187 Tryz.results187 (by kernel_rfl) rfl fun hw=>?_
 simp only [go_sem]
 refine CallK.mk _ (within_spec _ _ _) fun _=>?_
 rcases h2 : inR k 1 64 with _ | _
 ·have : decPlainI b ty k = none:=if_neg (by simp [inR] at h2; omega)
  simp only [go_sem,h2,this,dvR]
  try simp [nrE]
 have h2' : 1 ≤ k ∧ k ≤ 64:=by simp [inR] at h2; omega
 simp only [go_sem,h2]
 have hg:=getVals_spec b 0 ty k hb hl h2'.2
 have hall : decPlainI b ty k = again b k (((getVals b ty k.toNat 0).map Prod.fst).getD []) (encPlain (((getVals b ty k.toNat 0).map Prod.fst).getD [])):=if_pos h2'
 rw [hall]
 rcases h3 : getVals b ty k.toNat 0 with _ | ⟨l,q⟩ <;> rw [h3] at hg <;> simp only [gvsR] at hg <;> simp only [Option.map_none,Option.map_some,Option.getD_none,Option.getD_some]
 ·refine CallK.mk _ hg fun _=>?_
  simp only [go_sem]
  refine CallK.mk _ (iEncPlain_spec [] (by simp)) fun _=>?_
  simp only [go_sem]
  refine CallK.mk _ (decoded_spec b k [] (encPlain [])) fun _=>?_
  rcases h4 : again b k [] (encPlain []) with _ | l' <;> simp only [go_sem,dvR]
 ·refine CallK.mk _ hg fun _=>?_
  simp only [go_sem]
  have hlen:=(getVals_ok hb _ _ _ _ (Nat.zero_le _) h3).2.2.1
  refine CallK.mk _ (iEncPlain_spec l (by omega)) fun _=>?_
  simp only [go_sem]
  refine CallK.mk _ (decoded_spec b k l (encPlain l)) fun _=>?_
  rcases h4 : again b k l (encPlain l) with _ | l' <;> simp only [go_sem,dvR]
end Go.Proofs.YthoeeoddgkjkkaaGreat
