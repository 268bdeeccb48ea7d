/- The value machine, part W: the rules of an order that is drawn. -/
import Derived.Test.YthoeeoddgkjkkaaGreatVmV
namespace Go.Vm
set_option linter.unusedSimpArgs false
set_option linter.unusedVariables false
open Go.RowKit
def H_ (x:Option AV) (K:AV→Prop):Prop:=match x with
 | some y=>K y
 | none=>False
@[go_sem] theorem wP {y:AV} {K:AV→Prop}:H_ (some y) K=K y:=rfl
def CallF (P:Program) (f:FuncId) (args:List AV) (K:AV→Prop):Prop:=∃ rs,Ctr P f args rs∧K (retA (NP rs))
theorem CallF.mk {P:Program} {f:FuncId} {args:List AV} {K:AV→Prop} {B:Prop} (rs:List Res) (h:Ctr P f args rs) (hk:K (retA (NP rs))):U5 (CallF P f args K) B:=.inl ⟨rs,h,hk⟩
def wQ (P:Program) (f:FuncId) (x:Option (List AV)) (K:AV→Prop):Prop:=∃ args rs,x=some args∧rs.all K_=true∧Ctr P f args rs∧K (retA (NP rs))
theorem BorF.mk {P:Program} {f:FuncId} {x:Option (List AV)} {K:AV→Prop} {A:Prop} {args:List AV} (rs:List Res) (hx:x=some args) (hc:rs.all K_=true) (h:Ctr P f args rs) (hk:K (retA (NP rs))):U5 A (wQ P f x K):=.inr ⟨args,rs,hx,hc,h,hk⟩
def gJ (P:Program) (f:FuncId) (x:Option (List AV×List Ob)) (st:List Ob) (K:AV→Prop):Prop:=∃ args,x=some (args,st)∧CallF P f args K
@[go_sem] theorem wR {P:Program} {f:FuncId} {args:List AV} {st:List Ob} {K:AV→Prop}:gJ P f (some (args,st)) st K=CallF P f args K:=by
 simp[gJ]
theorem JX {P:Program} {s:MS} {o:Op} {K:AV→Prop} (h:∀ r,BM P s o r=(FY P s o=some r)):DrK P s o K=H_ (FY P s o) K:=by
 unfold DrK
 simp only[h]
 cases FY P s o<;>simp[H_]
section
variable {P:Program} {s:MS} {K:AV→Prop}
@[go_sem] theorem ADS {x:Operand}:DrK P s (.move x) K=H_ (FY P s (.move x)) K:=JX fun _=>rfl
@[go_sem] theorem wS {x:Operand}:DrK P s (.assign x) K=H_ (FY P s (.assign x)) K:=JX fun _=>rfl
@[go_sem] theorem ADT {c x y:Operand}:DrK P s (.pick c x y) K=H_ (FY P s (.pick c x y)) K:=JX fun _=>rfl
@[go_sem] theorem ADU {T:TypeId} {x:Operand}:DrK P s (.load T x) K=H_ (FY P s (.load T x)) K:=JX fun _=>rfl
@[go_sem] theorem pW {x:Operand}:DrK P s (.nilCheck x) K=H_ (FY P s (.nilCheck x)) K:=JX fun _=>rfl
@[go_sem] theorem AAb {b:BinOp} {T T':TypeId} {x y:Operand}:DrK P s (.binOp b T x y T') K=H_ (FY P s (.binOp b T x y T')) K:=JX fun _=>rfl
@[go_sem] theorem ADV {b:UnOp} {T:TypeId} {x:Operand}:DrK P s (.unOp b T x) K=H_ (FY P s (.unOp b T x)) K:=JX fun _=>rfl
@[go_sem] theorem sD {T T':TypeId} {x:Operand}:DrK P s (.convert T T' x) K=H_ (FY P s (.convert T T' x)) K:=JX fun _=>rfl
@[go_sem] theorem nR {T:TypeId} {x:Operand} {i:Nat}:DrK P s (.fieldAddr T x i) K=H_ (FY P s (.fieldAddr T x i)) K:=JX fun _=>rfl
@[go_sem] theorem AAc {T:TypeId} {x:Operand} {i:Nat}:DrK P s (.field T x i) K=H_ (FY P s (.field T x i)) K:=JX fun _=>rfl
@[go_sem] theorem nS {T:TypeId} {x y:Operand}:DrK P s (.indexAddr T x y) K=H_ (FY P s (.indexAddr T x y)) K:=JX fun _=>rfl
@[go_sem] theorem AAd {T:TypeId} {x y:Operand}:DrK P s (.index T x y) K=H_ (FY P s (.index T x y)) K:=JX fun _=>rfl
@[go_sem] theorem sF {x:Operand} {i:Nat}:DrK P s (.extract x i) K=H_ (FY P s (.extract x i)) K:=JX fun _=>rfl
@[go_sem] theorem AFZ {args:Array Operand} {ts:Array TypeId}:DrK P s (.call ⟨.builtin .len,args,ts⟩) K=H_ (FY P s (.call ⟨.builtin .len,args,ts⟩)) K:=JX fun _=>rfl
@[go_sem] theorem ADW {f:FuncId} {args:Array Operand} {ts:Array TypeId}:DrK P s (.call ⟨.value (.func f),args,ts⟩) K=U5 (gJ P f (O5 s.st (args.toList.map (Dp s))) s.st K) (wQ P f (NY s.st (args.toList.map (Dp s))) K):=by
 simp only[DrK,gJ,CallF,BM,wQ,U5]
 apply propext
 constructor
 ·rintro⟨r,⟨args',rs,h1,h2,rfl⟩,h3⟩
  rcases h1 with h1 | ⟨h1,h4⟩
  ·exact .inl ⟨args',h1,rs,h2,h3⟩
  ·exact .inr ⟨args',rs,h1,h4,h2,h3⟩
 ·rintro(⟨args',h1,rs,h2,h3⟩ | ⟨args',rs,h1,h4,h2,h3⟩)
  ·exact⟨_,⟨args',rs,.inl h1,h2,rfl⟩,h3⟩
  ·exact⟨_,⟨args',rs,.inr ⟨h1,h4⟩,h2,rfl⟩,h3⟩
end
def jY (b:Bool) (x:Option (AV×List Ob)) (st:List Ob) (K:AV→Prop):Prop:=match b,x with
 | true,some (r,st')=>st'=st∧K r
 | _,_=>False
@[go_sem] theorem AAe {r:AV} {st:List Ob} {K:AV→Prop}:jY true (some (r,st)) st K=K r:=by simp[jY]
@[go_sem] theorem AAf {P:Program} {s:MS} {K:AV→Prop} {T:TypeId} {ps:Array (Nat×Operand)}:DrK P s (.build T ps) K=jY (Ak P T) (OJ P s T ps.toList) s.st K:=by
 unfold DrK jY
 simp only[BM]
 apply propext
 constructor
 ·rintro⟨r,⟨h1,h2⟩,h3⟩
  rw[h1,h2]
  exact⟨rfl,h3⟩
 ·intro h
  split at h
  ·rename_i r st' hb hx
   obtain⟨rfl,h⟩:=h
   exact⟨r,⟨hb,hx⟩,h⟩
  ·exact h.elim
@[go_sem] theorem AAg {P:Program} {s:MS} {K:AV→Prop} {T:TypeId} {x:Operand} {lo hi:Option Operand}:DrK P s (.slice T x lo hi none) K=jY true (OL P s T (Dp s x) lo hi) s.st K:=by
 unfold DrK jY
 simp only[BM]
 apply propext
 constructor
 ·rintro⟨r,h2,h3⟩
  rw[h2]
  exact⟨rfl,h3⟩
 ·intro h
  split at h
  ·rename_i r st' hb hx
   obtain⟨rfl,h⟩:=h
   exact⟨r,hx,h⟩
  ·exact h.elim
theorem IL {l:Int} (h:rG (.c (.v (.int .i64 l)))):l≤9223372036854775807:=by
 simp only[rG,YC,Kt,Lit.wf,IntKind.min,IntKind.max,IntKind.signed,IntKind.bits] at h
 simp at h
 omega
theorem i64_ge {l:Int} (h:rG (.c (.v (.int .i64 l)))) : -9223372036854775808≤l:=by
 simp only[rG,YC,Kt,Lit.wf,IntKind.min,IntKind.max,IntKind.signed,IntKind.bits] at h
 simp at h
 omega
theorem dH {s:ByteArray} (h:YC (.v (.string s))):s.size≤9223372036854775807:=by
 have h':decide (s.size≤maxLen)=true:=h
 have h2:=of_decide_eq_true h'
 simpa [maxLen] using h2
def grow (xs:List (List Cl)) (z:List Cl) (k:Nat):List (List Cl):=xs.take k++List.replicate (xs.length-k) z
theorem Ai {xs:List (List Cl)} {z:List Cl}:grow xs z 0=List.replicate xs.length z:=by simp[grow]
theorem mM {xs:List (List Cl)} {z:List Cl}:grow xs z xs.length=xs:=by simp[grow]
theorem RQ {xs:List (List Cl)} {z:List Cl} {k:Nat} (h:k≤xs.length):(grow xs z k).length=xs.length:=by simp[grow]; omega
theorem pX {xs:List (List Cl)} {z:List Cl} {k:Nat} (h:k<xs.length):(grow xs z k)[k]?=some z:=by
 have h1:(xs.take k).length=k:=by rw[List.length_take]; omega
 rw[grow,List.getElem?_append_right (Nat.le_of_eq h1),h1,Nat.sub_self,List.getElem?_replicate,if_pos (by omega)]
theorem mO {xs:List (List Cl)} {z:List Cl} {k:Nat} (h:k<xs.length):(grow xs z k).set k xs[k]=grow xs z (k+1):=by
 have h1:(xs.take k).length=k:=by simp; omega
 apply List.ext_getElem?
 intro i
 rw[List.getElem?_set,RQ (by omega)]
 by_cases e:k=i
 ·subst e
  rw[if_pos rfl,if_pos h,grow,List.getElem?_append_left (by simp; omega)]
  simp[h]
 ·rw[if_neg e]
  simp only[grow,List.getElem?_append,List.length_take,List.getElem?_take,List.getElem?_replicate]
  rcases Nat.lt_or_ge i k with h2 | h2
  ·have a1:i<min k xs.length:=by omega
   have a2:i<min (k+1) xs.length:=by omega
   have a3:i<k+1:=by omega
   simp[a1,a2,h2,a3]
  ·have a1:¬ i<min k xs.length:=by omega
   have a2:¬ i<min (k+1) xs.length:=by omega
   simp only[a1,a2,if_false]
   congr 1
   apply propext
   omega
theorem Ac {α:Type} {f:α→List Cl} {xs:List α} {z:List Cl} {k:Nat} (h:k≤xs.length):(grow (xs.map f) z k).length=xs.length:=by rw[RQ (by simpa using h),List.length_map]
theorem Az {α:Type} {f:α→List Cl} {xs:List α} {z:List Cl} {k:Nat} (h:k<xs.length):(grow (xs.map f) z k)[k]?=some z:=pX (by simpa using h)
theorem Ce {α:Type} {f:α→List Cl} {xs:List α} {z:List Cl} {k:Nat} (h:k<xs.length):(grow (xs.map f) z k).set k (f xs[k])=grow (xs.map f) z (k+1):=by
 have h2:k<(xs.map f).length:=by simpa using h
 have:=mO (z:=z) h2
 rwa [List.getElem_map] at this
theorem Cf {α:Type} {f:α→List Cl} {xs:List α} {z:List Cl}:grow (xs.map f) z xs.length=xs.map f:=by
 have:=@mM (xs.map f) z
 rwa [List.length_map] at this
theorem dI {x:List Cl} (h:BX x=true):x.all (EW 1)=true:=by
 refine List.all_eq_true.2 fun c hc=>?_
 have:=List.all_eq_true.1 h c hc
 cases c<;>simp_all [AC,EW]
theorem D5 {α:Type} {f:α→List Cl} (hf:∀ x,BX (f x)=true) {z:List Cl} (hz:z.all (EW 1)=true) {xs:List α} {k T w:Nat} {wr live:Bool} :
  (List.take 1 [(⟨T,w,grow (xs.map f) z k,wr,live⟩:Ob)]).all (Bh 1)=true:=by
 simp only[List.take_succ_cons,List.take_zero,List.all_cons,List.all_nil,Bool.and_true,Bh,Bool.or_eq_true]
 refine .inr (List.all_eq_true.2 fun x hx=>?_)
 simp only[grow,List.mem_append] at hx
 rcases hx with hx | hx
 ·obtain⟨y,_,rfl⟩:=List.mem_map.1 (List.mem_of_mem_take hx)
  exact dI (hf y)
 ·rw[List.eq_of_mem_replicate hx]; exact hz
theorem Za {N:Nat} {x:List Cl} (h:x.all Jq=true):x.all (EW N)=true:=by
 refine List.all_eq_true.2 fun c hc=>?_
 have:=List.all_eq_true.1 h c hc
 cases c<;>simp_all [Jq,EW]
theorem Gj {α:Type} {f:α→List Cl} (hf:∀ x,(f x).all Jq=true) {z:List Cl} (hz:z.all (EW 1)=true) {xs:List α} {k T w:Nat} {wr live:Bool} :
  [(⟨T,w,grow (xs.map f) z k,wr,live⟩:Ob)].all (Bh 1)=true:=by
 simp only[List.all_cons,List.all_nil,Bool.and_true,Bh,Bool.or_eq_true]
 refine .inr (List.all_eq_true.2 fun x hx=>?_)
 simp only[grow,List.mem_append] at hx
 rcases hx with hx | hx
 ·obtain⟨y,_,rfl⟩:=List.mem_map.1 (List.mem_of_mem_take hx)
  exact Za (hf y)
 ·rw[List.eq_of_mem_replicate hx]; exact hz
theorem Fv:∀ (a b:List Cl),IK (a++b)=IK a++IK b
 | [],b=>by simp[IK]
 | c::a,b=>by simp[IK,Fv a b]
attribute [go_sem] List.getElem?_toArray Nat.reduceBEq Nat.reduceAdd Nat.reduceSub Nat.reduceMul Nat.reduceLT Nat.reduceLeDiff Nat.reduceEqDiff Nat.succ_ne_zero reduceIte true_or or_true
end Go.Vm
