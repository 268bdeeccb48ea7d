/- A part. -/
import Derived.Test.YtnchiiikacemmaaGreatVmV
set_option linter.unusedSimpArgs false
set_option linter.unusedVariables false
namespace Go.Vm
open Go.RowKit
def K_ (x:Option AV) (K:AV→Prop):Prop:=match x with
 | some y=>K y
 | none=>False
@[go_sem] theorem AFC {y:AV} {K:AV→Prop}:K_ (some y) K=K y:=rfl
def CallF (P:Program) (f:FuncId) (args:List AV) (K:AV→Prop):Prop:=∃ rs,Ctr P f args rs∧K (retA (Wp rs))
theorem CallF.mk {P:Program} {f:FuncId} {args:List AV} {K:AV→Prop} {B:Prop} (rs:List Res) (h:Ctr P f args rs) (hk:K (retA (Wp rs))):U7 (CallF P f args K) B:=.inl ⟨rs,h,hk⟩
theorem CW {P:Program} {f:FuncId} {args args':List AV} {K:List Res→Prop} {B:Prop} {rs:List Res} (h:Ctr P f args' rs) (hk:jR rs→K rs) (e:args=args':= by simp only[go_sem]):U7 (CallK P f args K) B:= .inl ⟨rs,e▸h,hk⟩
theorem CY {P:Program} {f:FuncId} {args args':List AV} {K:AV→Prop} {B:Prop} {rs:List Res} (h:Ctr P f args' rs) (hk:K (retA (Wp rs))) (e:args=args':= by simp only[go_sem]):U7 (CallF P f args K) B:= .inl ⟨rs,e▸h,hk⟩
theorem CZ {P:Program} {f:FuncId} {args args':List AV} {KK:List Res→Prop} {B:Prop} {rs:List Res} (h:Ctr P f args' rs) (hk:KK rs) (e:args=args':= by simp only[go_sem]):U7 (CallE P f args KK) B:= .inl ⟨rs,e▸h,hk⟩
def AFD (P:Program) (f:FuncId) (x:Option (List AV)) (K:AV→Prop):Prop:=∃ args rs,x=some args∧rs.all Qk=true∧Ctr P f args rs∧K (retA (Wp rs))
theorem BorF.mk {P:Program} {f:FuncId} {x:Option (List AV)} {K:AV→Prop} {A:Prop} {args:List AV} (rs:List Res) (hx:x=some args) (hc:rs.all Qk=true) (h:Ctr P f args rs) (hk:K (retA (Wp rs))):U7 A (AFD P f x K):=.inr ⟨args,rs,hx,hc,h,hk⟩
def xe (P:Program) (f:FuncId) (x:Option (List AV×List Ob)) (st:List Ob) (K:AV→Prop):Prop:=∃ args,x=some (args,st)∧CallF P f args K
@[go_sem] theorem AFE {P:Program} {f:FuncId} {args:List AV} {st:List Ob} {K:AV→Prop}:xe P f (some (args,st)) st K=CallF P f args K:=by
 simp[xe]
theorem Og {P:Program} {s:MS} {o:Op} {K:AV→Prop} (h:∀ r,Bj P s o r=(H7 P s o=some r)):DrK P s o K=K_ (H7 P s o) K:=by
 unfold DrK
 simp only[h]
 cases H7 P s o<;>simp[K_]
section
variable {P:Program} {s:MS} {K:AV→Prop}
@[go_sem] theorem AHD {x:Operand}:DrK P s (.move x) K=K_ (H7 P s (.move x)) K:=Og fun _=>rfl
@[go_sem] theorem AFF {x:Operand}:DrK P s (.assign x) K=K_ (H7 P s (.assign x)) K:=Og fun _=>rfl
@[go_sem] theorem AHE {c x y:Operand}:DrK P s (.pick c x y) K=K_ (H7 P s (.pick c x y)) K:=Og fun _=>rfl
@[go_sem] theorem AHF {T:TypeId} {x:Operand}:DrK P s (.load T x) K=K_ (H7 P s (.load T x)) K:=Og fun _=>rfl
@[go_sem] theorem ADP {x:Operand}:DrK P s (.nilCheck x) K=K_ (H7 P s (.nilCheck x)) K:=Og fun _=>rfl
@[go_sem] theorem AF2 {b:BinOp} {T T':TypeId} {x y:Operand}:DrK P s (.binOp b T x y T') K=K_ (H7 P s (.binOp b T x y T')) K:=Og fun _=>rfl
@[go_sem] theorem AHG {b:UnOp} {T:TypeId} {x:Operand}:DrK P s (.unOp b T x) K=K_ (H7 P s (.unOp b T x)) K:=Og fun _=>rfl
@[go_sem] theorem AEG {T T':TypeId} {x:Operand}:DrK P s (.convert T T' x) K=K_ (H7 P s (.convert T T' x)) K:=Og fun _=>rfl
@[go_sem] theorem ACN {T:TypeId} {x:Operand} {i:Nat}:DrK P s (.fieldAddr T x i) K=K_ (H7 P s (.fieldAddr T x i)) K:=Og fun _=>rfl
@[go_sem] theorem ACO {T:TypeId} {x y:Operand}:DrK P s (.indexAddr T x y) K=K_ (H7 P s (.indexAddr T x y)) K:=Og fun _=>rfl
@[go_sem] theorem AEH {x:Operand} {i:Nat}:DrK P s (.extract x i) K=K_ (H7 P s (.extract x i)) K:=Og fun _=>rfl
@[go_sem] theorem AH0 {args:Array Operand} {ts:Array TypeId}:DrK P s (.call ⟨.builtin .len,args,ts⟩) K=K_ (H7 P s (.call ⟨.builtin .len,args,ts⟩)) K:=Og fun _=>rfl
@[go_sem] theorem AHH {f:FuncId} {args:Array Operand} {ts:Array TypeId}:DrK P s (.call ⟨.value (.func f),args,ts⟩) K=U7 (xe P f (TP s.st (args.toList.map (EU s))) s.st K) (AFD P f (Qr s.st (args.toList.map (EU s))) K):=by
 simp only[DrK,xe,CallF,Bj,AFD,U7]
 apply propext
 constructor
 ·rintro⟨r,⟨args',rs,h1,h2,rfl⟩,h3⟩
  rcases h1 with h1 | ⟨h1,h4⟩
  ·exact .inl ⟨args',h1,rs,h2,h3⟩
  ·exact .inr ⟨args',rs,h1,h4,h2,h3⟩
 ·rintro(⟨args',h1,rs,h2,h3⟩ | ⟨args',rs,h1,h4,h2,h3⟩)
  ·exact⟨_,⟨args',rs,.inl h1,h2,rfl⟩,h3⟩
  ·exact⟨_,⟨args',rs,.inr ⟨h1,h4⟩,h2,rfl⟩,h3⟩
end
def zk (b:Bool) (x:Option (AV×List Ob)) (st:List Ob) (K:AV→Prop):Prop:=match b,x with
 | true,some (r,st')=>st'=st∧K r
 | _,_=>False
@[go_sem] theorem AF3 {r:AV} {st:List Ob} {K:AV→Prop}:zk true (some (r,st)) st K=K r:=by simp[zk]
@[go_sem] theorem AF4 {P:Program} {s:MS} {K:AV→Prop} {T:TypeId} {ps:Array (Nat×Operand)}:DrK P s (.build T ps) K=zk (EF P T) (Rh P s T ps.toList) s.st K:=by
 unfold DrK zk
 simp only[Bj]
 apply propext
 constructor
 ·rintro⟨r,⟨h1,h2⟩,h3⟩
  rw[h1,h2]
  exact⟨rfl,h3⟩
 ·intro h
  split at h
  ·rename_i r st' hb hx
   obtain⟨rfl,h⟩:=h
   exact⟨r,⟨hb,hx⟩,h⟩
  ·exact h.elim
@[go_sem] theorem AF5 {P:Program} {s:MS} {K:AV→Prop} {T:TypeId} {x:Operand} {lo hi:Option Operand}:DrK P s (.slice T x lo hi none) K=zk true (Ri P s T (EU s x) lo hi) s.st K:=by
 unfold DrK zk
 simp only[Bj]
 apply propext
 constructor
 ·rintro⟨r,h2,h3⟩
  rw[h2]
  exact⟨rfl,h3⟩
 ·intro h
  split at h
  ·rename_i r st' hb hx
   obtain⟨rfl,h⟩:=h
   exact⟨r,hx,h⟩
  ·exact h.elim
theorem J6 {l:Int} (h:WfA (.c (.v (.int .i64 l)))):l≤9223372036854775807:=by
 simp only[WfA,oU,Nu,Lit.wf,IntKind.min,IntKind.max,IntKind.signed,IntKind.bits] at h
 simp at h
 omega
theorem ug {s:ByteArray} (h:oU (.v (.string s))):s.size≤9223372036854775807:=by
 have h':decide (s.size≤maxLen)=true:=h
 have h2:=jD h'
 simpa [maxLen] using h2
def grow (xs:List (List Cl)) (z:List Cl) (k:Nat):List (List Cl):=xs.take k++List.replicate (xs.length-k) z
theorem Ap {xs:List (List Cl)} {z:List Cl}:grow xs z 0=List.replicate xs.length z:=by simp[grow]
theorem ABn {xs:List (List Cl)} {z:List Cl}:grow xs z xs.length=xs:=by simp[grow]
theorem WB {xs:List (List Cl)} {z:List Cl} {k:Nat} (h:k≤xs.length):(grow xs z k).length=xs.length:=by simp[grow]; omega
theorem ADQ {xs:List (List Cl)} {z:List Cl} {k:Nat} (h:k<xs.length):(grow xs z k)[k]?=some z:=by
 have h1:(xs.take k).length=k:=by rw[bn]; omega
 rw[grow,aF (Nat.le_of_eq h1),h1,XL,List.getElem?_replicate,aX (by omega)]
theorem ABo {xs:List (List Cl)} {z:List Cl} {k:Nat} (h:k<xs.length):(grow xs z k).set k xs[k]=grow xs z (k+1):=by
 have h1:(xs.take k).length=k:=by simp; omega
 apply List.ext_getElem?
 intro i
 rw[di,WB (by omega)]
 by_cases e:k=i
 ·subst e
  rw[aX rfl,aX h,grow,au (by simp; omega)]
  simp[h]
 ·rw[aV e]
  simp only[grow,abd,bn,bu,List.getElem?_replicate]
  rcases bf i k with h2 | h2
  ·have a1:i<min k xs.length:=by omega
   have a2:i<min (k+1) xs.length:=by omega
   have a3:i<k+1:=by omega
   simp[a1,a2,h2,a3]
  ·have a1:¬ i<min k xs.length:=by omega
   have a2:¬ i<min (k+1) xs.length:=by omega
   simp only[a1,a2,aI]
   congr 1
   apply propext
   omega
theorem Bl {α:Type} {f:α→List Cl} {xs:List α} {z:List Cl} {k:Nat} (h:k≤xs.length):(grow (xs.map f) z k).length=xs.length:=by rw[WB (by simpa using h),ae]
theorem EG {α:Type} {f:α→List Cl} {xs:List α} {z:List Cl} {k:Nat} (h:k<xs.length):(grow (xs.map f) z k)[k]?=some z:=ADQ (by simpa using h)
theorem DX {α:Type} {f:α→List Cl} {xs:List α} {z:List Cl} {k:Nat} (h:k<xs.length):(grow (xs.map f) z k).set k (f xs[k])=grow (xs.map f) z (k+1):=by
 have h2:k<(xs.map f).length:=by simpa using h
 have:=ABo (z:=z) h2
 rwa [List.getElem_map] at this
theorem DY {α:Type} {f:α→List Cl} {xs:List α} {z:List Cl}:grow (xs.map f) z xs.length=xs.map f:=by
 have:=@ABn (xs.map f) z
 rwa [ae] at this
theorem uh {x:List Cl} (h:CQ x=true):x.all (FQ 1)=true:=by
 refine aG.2 fun c hc=>?_
 have:=aG.1 h c hc
 cases c<;>simp_all [AY,FQ]
theorem Ef {α:Type} {f:α→List Cl} (hf:∀ x,CQ (f x)=true) {z:List Cl} (hz:z.all (FQ 1)=true) {xs:List α} {k T w:Nat} {wr live:Bool} :
  (List.take 1 [(⟨T,w,grow (xs.map f) z k,wr,live⟩:Ob)]).all (Aw 1)=true:=by
 simp only[abk,abh,bK,Oo,aU,Aw,zH]
 refine .inr (aG.2 fun x hx=>?_)
 simp only[grow,wu] at hx
 rcases hx with hx | hx
 ·obtain⟨y,_,rfl⟩:=RX.1 (zD hx)
  exact uh (hf y)
 ·rw[abu hx]; exact hz
theorem pR {N:Nat} {x:List Cl} (h:x.all NG=true):x.all (FQ N)=true:=by
 refine aG.2 fun c hc=>?_
 have:=aG.1 h c hc
 cases c<;>simp_all [NG,FQ]
theorem Ij {α:Type} {f:α→List Cl} (hf:∀ x,(f x).all NG=true) {z:List Cl} (hz:z.all (FQ 1)=true) {xs:List α} {k T w:Nat} {wr live:Bool} :
  [(⟨T,w,grow (xs.map f) z k,wr,live⟩:Ob)].all (Aw 1)=true:=by
 simp only[bK,Oo,aU,Aw,zH]
 refine .inr (aG.2 fun x hx=>?_)
 simp only[grow,wu] at hx
 rcases hx with hx | hx
 ·obtain⟨y,_,rfl⟩:=RX.1 (zD hx)
  exact pR (hf y)
 ·rw[abu hx]; exact hz
theorem N_:∀ (a b:List Cl),J5 (a++b)=J5 a++J5 b
 | [],b=>by simp[J5]
 | c::a,b=>by simp[J5,N_ a b]
attribute [go_sem] wo Nat.reduceBEq Nat.reduceAdd Nat.reduceSub Nat.reduceMul Nat.reduceLT Nat.reduceLeDiff Nat.reduceEqDiff Nat.succ_ne_zero reduceIte true_or or_true
end Go.Vm
