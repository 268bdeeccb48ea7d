/- The value machine, part W: the rules of an order that is drawn. -/
import Derived.Test.YthoeeoddgkjkkaaGreatVmV
namespace Go.Vm
set_option linter.unusedSimpArgs false
set_option linter.unusedVariables false
open Go.RowKit
def bindV (x : Option AV) (K : AV → Prop) : Prop:=match x with
 | some y=>K y
 | none=>False
@[go_sem] theorem bindV_some {y : AV} {K : AV → Prop} : bindV (some y) K = K y:=rfl
def CallF (P : Program) (f : FuncId) (args : List AV) (K : AV → Prop) : Prop:=∃ rs,Ctr P f args rs ∧ K (retA (resF rs))
theorem CallF.mk {P : Program} {f : FuncId} {args : List AV} {K : AV → Prop} {B : Prop} (rs : List Res) (h : Ctr P f args rs) (hk : K (retA (resF rs))) : orM (CallF P f args K) B:=.inl ⟨rs,h,hk⟩
def BorD (P : Program) (f : FuncId) (x : Option (List AV)) (K : AV → Prop) : Prop:=∃ args rs,x = some args ∧ rs.all cloR = true ∧ Ctr P f args rs ∧ K (retA (resF rs))
theorem BorF.mk {P : Program} {f : FuncId} {x : Option (List AV)} {K : AV → Prop} {A : Prop} {args : List AV} (rs : List Res) (hx : x = some args) (hc : rs.all cloR = true) (h : Ctr P f args rs) (hk : K (retA (resF rs))) : orM A (BorD P f x K):=.inr ⟨args,rs,hx,hc,h,hk⟩
def CallD (P : Program) (f : FuncId) (x : Option (List AV × List Ob)) (st : List Ob) (K : AV → Prop) : Prop:=∃ args,x = some (args,st) ∧ CallF P f args K
@[go_sem] theorem CallD_some {P : Program} {f : FuncId} {args : List AV} {st : List Ob} {K : AV → Prop} : CallD P f (some (args,st)) st K = CallF P f args K:=by
 simp [CallD]
theorem drK_F {P : Program} {s : MS} {o : Op} {K : AV → Prop} (h : ∀ r,drStep P s o r = (opF P s o = some r)) : DrK P s o K = bindV (opF P s o) K:=by
 unfold DrK
 simp only [h]
 cases opF P s o <;> simp [bindV]
section
variable {P : Program} {s : MS} {K : AV → Prop}
@[go_sem] theorem drK_move {x : Operand} : DrK P s (.move x) K = bindV (opF P s (.move x)) K:=drK_F fun _=>rfl
@[go_sem] theorem drK_assign {x : Operand} : DrK P s (.assign x) K = bindV (opF P s (.assign x)) K:=drK_F fun _=>rfl
@[go_sem] theorem drK_pick {c x y : Operand} : DrK P s (.pick c x y) K = bindV (opF P s (.pick c x y)) K:=drK_F fun _=>rfl
@[go_sem] theorem drK_load {T : TypeId} {x : Operand} : DrK P s (.load T x) K = bindV (opF P s (.load T x)) K:=drK_F fun _=>rfl
@[go_sem] theorem drK_nilCheck {x : Operand} : DrK P s (.nilCheck x) K = bindV (opF P s (.nilCheck x)) K:=drK_F fun _=>rfl
@[go_sem] theorem drK_binOp {b : BinOp} {T T' : TypeId} {x y : Operand} : DrK P s (.binOp b T x y T') K = bindV (opF P s (.binOp b T x y T')) K:=drK_F fun _=>rfl
@[go_sem] theorem drK_unOp {b : UnOp} {T : TypeId} {x : Operand} : DrK P s (.unOp b T x) K = bindV (opF P s (.unOp b T x)) K:=drK_F fun _=>rfl
@[go_sem] theorem drK_convert {T T' : TypeId} {x : Operand} : DrK P s (.convert T T' x) K = bindV (opF P s (.convert T T' x)) K:=drK_F fun _=>rfl
@[go_sem] theorem drK_fieldAddr {T : TypeId} {x : Operand} {i : Nat} : DrK P s (.fieldAddr T x i) K = bindV (opF P s (.fieldAddr T x i)) K:=drK_F fun _=>rfl
@[go_sem] theorem drK_field {T : TypeId} {x : Operand} {i : Nat} : DrK P s (.field T x i) K = bindV (opF P s (.field T x i)) K:=drK_F fun _=>rfl
@[go_sem] theorem drK_indexAddr {T : TypeId} {x y : Operand} : DrK P s (.indexAddr T x y) K = bindV (opF P s (.indexAddr T x y)) K:=drK_F fun _=>rfl
@[go_sem] theorem drK_index {T : TypeId} {x y : Operand} : DrK P s (.index T x y) K = bindV (opF P s (.index T x y)) K:=drK_F fun _=>rfl
@[go_sem] theorem drK_extract {x : Operand} {i : Nat} : DrK P s (.extract x i) K = bindV (opF P s (.extract x i)) K:=drK_F fun _=>rfl
@[go_sem] theorem drK_len {args : Array Operand} {ts : Array TypeId} : DrK P s (.call ⟨.builtin .len,args,ts⟩) K = bindV (opF P s (.call ⟨.builtin .len,args,ts⟩)) K:=drK_F fun _=>rfl
@[go_sem] theorem drK_call {f : FuncId} {args : Array Operand} {ts : Array TypeId} : DrK P s (.call ⟨.value (.func f),args,ts⟩) K = orM (CallD P f (fzAs s.st (args.toList.map (evA s))) s.st K) (BorD P f (borAs s.st (args.toList.map (evA s))) K):=by
 simp only [DrK,CallD,CallF,drStep,BorD,orM]
 apply propext
 constructor
 ·rintro ⟨r,⟨args',rs,h1,h2,rfl⟩,h3⟩
  rcases h1 with h1 | ⟨h1,h4⟩
  ·exact .inl ⟨args',h1,rs,h2,h3⟩
  ·exact .inr ⟨args',rs,h1,h4,h2,h3⟩
 ·rintro (⟨args',h1,rs,h2,h3⟩ | ⟨args',rs,h1,h4,h2,h3⟩)
  ·exact ⟨_,⟨args',rs,.inl h1,h2,rfl⟩,h3⟩
  ·exact ⟨_,⟨args',rs,.inr ⟨h1,h4⟩,h2,rfl⟩,h3⟩
end
def bldK (b : Bool) (x : Option (AV × List Ob)) (st : List Ob) (K : AV → Prop) : Prop:=match b,x with
 | true,some (r,st')=>st' = st ∧ K r
 | _,_=>False
@[go_sem] theorem bldK_true {r : AV} {st : List Ob} {K : AV → Prop} : bldK true (some (r,st)) st K = K r:=by simp [bldK]
@[go_sem] theorem drK_build {P : Program} {s : MS} {K : AV → Prop} {T : TypeId} {ps : Array (Nat × Operand)} : DrK P s (.build T ps) K = bldK (fieldsOk P T) (buildE P s T ps.toList) s.st K:=by
 unfold DrK bldK
 simp only [drStep]
 apply propext
 constructor
 ·rintro ⟨r,⟨h1,h2⟩,h3⟩
  rw [h1,h2]
  exact ⟨rfl,h3⟩
 ·intro h
  split at h
  ·rename_i r st' hb hx
   obtain ⟨rfl,h⟩:=h
   exact ⟨r,⟨hb,hx⟩,h⟩
  ·exact h.elim
@[go_sem] theorem drK_slice {P : Program} {s : MS} {K : AV → Prop} {T : TypeId} {x : Operand} {lo hi : Option Operand} : DrK P s (.slice T x lo hi none) K = bldK true (sliceE P s T (evA s x) lo hi) s.st K:=by
 unfold DrK bldK
 simp only [drStep]
 apply propext
 constructor
 ·rintro ⟨r,h2,h3⟩
  rw [h2]
  exact ⟨rfl,h3⟩
 ·intro h
  split at h
  ·rename_i r st' hb hx
   obtain ⟨rfl,h⟩:=h
   exact ⟨r,hx,h⟩
  ·exact h.elim
theorem i64_le {l : Int} (h : WfA (.c (.v (.int .i64 l)))) : l ≤ 9223372036854775807:=by
 simp only [WfA,WfC,wfV,Lit.wf,IntKind.min,IntKind.max,IntKind.signed,IntKind.bits] at h
 simp at h
 omega
theorem i64_ge {l : Int} (h : WfA (.c (.v (.int .i64 l)))) : -9223372036854775808 ≤ l:=by
 simp only [WfA,WfC,wfV,Lit.wf,IntKind.min,IntKind.max,IntKind.signed,IntKind.bits] at h
 simp at h
 omega
theorem str_le {s : ByteArray} (h : WfC (.v (.string s))) : s.size ≤ 9223372036854775807:=by
 have h' : decide (s.size ≤ maxLen) = true:=h
 have h2:=of_decide_eq_true h'
 simpa [maxLen] using h2
def grow (xs : List (List Cl)) (z : List Cl) (k : Nat) : List (List Cl):=xs.take k ++ List.replicate (xs.length - k) z
theorem grow_zero {xs : List (List Cl)} {z : List Cl} : grow xs z 0 = List.replicate xs.length z:=by simp [grow]
theorem grow_all {xs : List (List Cl)} {z : List Cl} : grow xs z xs.length = xs:=by simp [grow]
theorem grow_length {xs : List (List Cl)} {z : List Cl} {k : Nat} (h : k ≤ xs.length) : (grow xs z k).length = xs.length:=by simp [grow]; omega
theorem grow_at {xs : List (List Cl)} {z : List Cl} {k : Nat} (h : k < xs.length) : (grow xs z k)[k]? = some z:=by
 have h1 : (xs.take k).length = k:=by rw [List.length_take]; omega
 rw [grow,List.getElem?_append_right (Nat.le_of_eq h1),h1,Nat.sub_self,List.getElem?_replicate,if_pos (by omega)]
theorem grow_set {xs : List (List Cl)} {z : List Cl} {k : Nat} (h : k < xs.length) : (grow xs z k).set k xs[k] = grow xs z (k + 1):=by
 have h1 : (xs.take k).length = k:=by simp; omega
 apply List.ext_getElem?
 intro i
 rw [List.getElem?_set,grow_length (by omega)]
 by_cases e : k = i
 ·subst e
  rw [if_pos rfl,if_pos h,grow,List.getElem?_append_left (by simp; omega)]
  simp [h]
 ·rw [if_neg e]
  simp only [grow,List.getElem?_append,List.length_take,List.getElem?_take,List.getElem?_replicate]
  rcases Nat.lt_or_ge i k with h2 | h2
  ·have a1 : i < min k xs.length:=by omega
   have a2 : i < min (k + 1) xs.length:=by omega
   have a3 : i < k + 1:=by omega
   simp [a1,a2,h2,a3]
  ·have a1 : ¬ i < min k xs.length:=by omega
   have a2 : ¬ i < min (k + 1) xs.length:=by omega
   simp only [a1,a2,if_false]
   congr 1
   apply propext
   omega
theorem grow_lenm {α : Type} {f : α → List Cl} {xs : List α} {z : List Cl} {k : Nat} (h : k ≤ xs.length) : (grow (xs.map f) z k).length = xs.length:=by rw [grow_length (by simpa using h),List.length_map]
theorem grow_atm {α : Type} {f : α → List Cl} {xs : List α} {z : List Cl} {k : Nat} (h : k < xs.length) : (grow (xs.map f) z k)[k]? = some z:=grow_at (by simpa using h)
theorem grow_setm {α : Type} {f : α → List Cl} {xs : List α} {z : List Cl} {k : Nat} (h : k < xs.length) : (grow (xs.map f) z k).set k (f xs[k]) = grow (xs.map f) z (k + 1):=by
 have h2 : k < (xs.map f).length:=by simpa using h
 have:=grow_set (z:=z) h2
 rwa [List.getElem_map] at this
theorem grow_allm {α : Type} {f : α → List Cl} {xs : List α} {z : List Cl} : grow (xs.map f) z xs.length = xs.map f:=by
 have:=@grow_all (xs.map f) z
 rwa [List.length_map] at this
theorem pure_noRef {x : List Cl} (h : pureL x = true) : x.all (noRefC 1) = true:=by
 refine List.all_eq_true.2 fun c hc=>?_
 have:=List.all_eq_true.1 h c hc
 cases c <;> simp_all [pureC,noRefC]
theorem trim1_grow {α : Type} {f : α → List Cl} (hf : ∀ x,pureL (f x) = true) {z : List Cl} (hz : z.all (noRefC 1) = true) {xs : List α} {k T w : Nat} {wr live : Bool} :
  (List.take 1 [(⟨T,w,grow (xs.map f) z k,wr,live⟩ : Ob)]).all (noRefOb 1) = true:=by
 simp only [List.take_succ_cons,List.take_zero,List.all_cons,List.all_nil,Bool.and_true,noRefOb,Bool.or_eq_true]
 refine .inr (List.all_eq_true.2 fun x hx=>?_)
 simp only [grow,List.mem_append] at hx
 rcases hx with hx | hx
 ·obtain ⟨y,_,rfl⟩:=List.mem_map.1 (List.mem_of_mem_take hx)
  exact pure_noRef (hf y)
 ·rw [List.eq_of_mem_replicate hx]; exact hz
theorem nr_noRef {N : Nat} {x : List Cl} (h : x.all nrC = true) : x.all (noRefC N) = true:=by
 refine List.all_eq_true.2 fun c hc=>?_
 have:=List.all_eq_true.1 h c hc
 cases c <;> simp_all [nrC,noRefC]
theorem trim1_growO {α : Type} {f : α → List Cl} (hf : ∀ x,(f x).all nrC = true) {z : List Cl} (hz : z.all (noRefC 1) = true) {xs : List α} {k T w : Nat} {wr live : Bool} :
  [(⟨T,w,grow (xs.map f) z k,wr,live⟩ : Ob)].all (noRefOb 1) = true:=by
 simp only [List.all_cons,List.all_nil,Bool.and_true,noRefOb,Bool.or_eq_true]
 refine .inr (List.all_eq_true.2 fun x hx=>?_)
 simp only [grow,List.mem_append] at hx
 rcases hx with hx | hx
 ·obtain ⟨y,_,rfl⟩:=List.mem_map.1 (List.mem_of_mem_take hx)
  exact nr_noRef (hf y)
 ·rw [List.eq_of_mem_replicate hx]; exact hz
theorem erL_app : ∀ (a b : List Cl),erL (a ++ b) = erL a ++ erL b
 | [],b=>by simp [erL]
 | c :: a,b=>by simp [erL,erL_app a b]
attribute [go_sem] List.getElem?_toArray Nat.reduceBEq Nat.reduceAdd Nat.reduceSub Nat.reduceMul Nat.reduceLT Nat.reduceLeDiff Nat.reduceEqDiff Nat.succ_ne_zero reduceIte true_or or_true
end Go.Vm
