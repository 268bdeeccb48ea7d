/- A part. -/
import Derived.Test.YtnfbaclikokapaaGreatVmV
set_option linter.unusedSimpArgs false
set_option linter.unusedVariables false
namespace Go.Vm
open Go.RowKit
def Ld (x:Option AV) (K:AV→Prop):Prop:=match x with
 | some y=>K y
 | none=>False
@[go_sem] theorem AEu {y:AV} {K:AV→Prop}:Ld (some y) K=K y:=rfl
def CallF (P:Program) (f:FuncId) (args:List AV) (K:AV→Prop):Prop:=∃ rs,Ctr P f args rs∧K (retA (U5 rs))
theorem CallF.mk {P:Program} {f:FuncId} {args:List AV} {K:AV→Prop} {B:Prop} (rs:List Res) (h:Ctr P f args rs) (hk:K (retA (U5 rs))):Jy (CallF P f args K) B:=.inl ⟨rs,h,hk⟩
theorem CW {P:Program} {f:FuncId} {args args':List AV} {K:List Res→Prop} {B:Prop} {rs:List Res} (h:Ctr P f args' rs) (hk:Zl rs→K rs) (e:args=args':= by simp only[go_sem]):Jy (CallK P f args K) B:= .inl ⟨rs,e▸h,hk⟩
theorem CY {P:Program} {f:FuncId} {args args':List AV} {K:AV→Prop} {B:Prop} {rs:List Res} (h:Ctr P f args' rs) (hk:K (retA (U5 rs))) (e:args=args':= by simp only[go_sem]):Jy (CallF P f args K) B:= .inl ⟨rs,e▸h,hk⟩
theorem CZ {P:Program} {f:FuncId} {args args':List AV} {KK:List Res→Prop} {B:Prop} {rs:List Res} (h:Ctr P f args' rs) (hk:KK rs) (e:args=args':= by simp only[go_sem]):Jy (CallE P f args KK) B:= .inl ⟨rs,e▸h,hk⟩
def AEv (P:Program) (f:FuncId) (x:Option (List AV)) (K:AV→Prop):Prop:=∃ args rs,x=some args∧rs.all Pi=true∧Ctr P f args rs∧K (retA (U5 rs))
theorem BorF.mk {P:Program} {f:FuncId} {x:Option (List AV)} {K:AV→Prop} {A:Prop} {args:List AV} (rs:List Res) (hx:x=some args) (hc:rs.all Pi=true) (h:Ctr P f args rs) (hk:K (retA (U5 rs))) {C:Prop}:Jy A (Jy (AEv P f x K) C):=.inr (.inl ⟨args,rs,hx,hc,h,hk⟩)
def AEw (P:Program) (f:FuncId) (st:List Ob) (args:List AV) (K:AV→Prop):Prop:=∃ r,InlS P f st args r st∧K r
theorem InlF.mk {P:Program} {f:FuncId} {st:List Ob} {args:List AV} {K:AV→Prop} {A B:Prop} (r:AV) (h:InlS P f st args r st) (hk:K r):Jy A (Jy B (AEw P f st args K)):=.inr (.inr ⟨r,h,hk⟩)
def wY (P:Program) (f:FuncId) (x:Option (List AV×List Ob)) (st:List Ob) (K:AV→Prop):Prop:=∃ args,x=some (args,st)∧CallF P f args K
@[go_sem] theorem AEx {P:Program} {f:FuncId} {args:List AV} {st:List Ob} {K:AV→Prop}:wY P f (some (args,st)) st K=CallF P f args K:=by
 simp[wY]
theorem Oz {P:Program} {s:MS} {o:Op} {K:AV→Prop} (h:∀ r,Bj P s o r=(Hr P s o=some r)):DrK P s o K=Ld (Hr P s o) K:=by
 unfold DrK
 simp only[h]
 cases Hr P s o<;>simp[Ld]
section
variable {P:Program} {s:MS} {K:AV→Prop}
@[go_sem] theorem AGu {x:Operand}:DrK P s (.move x) K=Ld (Hr P s (.move x)) K:=Oz fun _=>rfl
@[go_sem] theorem AEy {x:Operand}:DrK P s (.assign x) K=Ld (Hr P s (.assign x)) K:=Oz fun _=>rfl
@[go_sem] theorem AGv {c x y:Operand}:DrK P s (.pick c x y) K=Ld (Hr P s (.pick c x y)) K:=Oz fun _=>rfl
@[go_sem] theorem AGw {T:TypeId} {x:Operand}:DrK P s (.load T x) K=Ld (Hr P s (.load T x)) K:=Oz fun _=>rfl
@[go_sem] theorem AC5 {x:Operand}:DrK P s (.nilCheck x) K=Ld (Hr P s (.nilCheck x)) K:=Oz fun _=>rfl
@[go_sem] theorem AFm {b:BinOp} {T T':TypeId} {x y:Operand}:DrK P s (.binOp b T x y T') K=Ld (Hr P s (.binOp b T x y T')) K:=Oz fun _=>rfl
@[go_sem] theorem AGx {b:UnOp} {T:TypeId} {x:Operand}:DrK P s (.unOp b T x) K=Ld (Hr P s (.unOp b T x)) K:=Oz fun _=>rfl
@[go_sem] theorem AD1 {T T':TypeId} {x:Operand}:DrK P s (.convert T T' x) K=Ld (Hr P s (.convert T T' x)) K:=Oz fun _=>rfl
@[go_sem] theorem AB7 {T:TypeId} {x:Operand} {i:Nat}:DrK P s (.fieldAddr T x i) K=Ld (Hr P s (.fieldAddr T x i)) K:=Oz fun _=>rfl
@[go_sem] theorem AB8 {T:TypeId} {x y:Operand}:DrK P s (.indexAddr T x y) K=Ld (Hr P s (.indexAddr T x y)) K:=Oz fun _=>rfl
@[go_sem] theorem AD2 {x:Operand} {i:Nat}:DrK P s (.extract x i) K=Ld (Hr P s (.extract x i)) K:=Oz fun _=>rfl
@[go_sem] theorem AHk {args:Array Operand} {ts:Array TypeId}:DrK P s (.call ⟨.builtin .len,args,ts⟩) K=Ld (Hr P s (.call ⟨.builtin .len,args,ts⟩)) K:=Oz fun _=>rfl
@[go_sem] theorem AGy {f:FuncId} {args:Array Operand} {ts:Array TypeId}:DrK P s (.call ⟨.value (.func f),args,ts⟩) K=Jy (wY P f (O6 s.st (args.toList.map (EC s))) s.st K) (Jy (AEv P f (Q8 s.st (args.toList.map (EC s))) K) (AEw P f s.st (args.toList.map (EC s)) K)):=by
 simp only[DrK,wY,CallF,Bj,AEv,AEw,Jy]
 apply propext
 constructor
 ·rintro⟨r,⟨args',rs,h1,h2,rfl⟩ | hr,h3⟩
  ·rcases h1 with h1 | ⟨h1,h4⟩
   ·exact .inl ⟨args',h1,rs,h2,h3⟩
   ·exact .inr (.inl ⟨args',rs,h1,h4,h2,h3⟩)
  ·exact .inr (.inr ⟨r,hr,h3⟩)
 ·rintro(⟨args',h1,rs,h2,h3⟩ | ⟨args',rs,h1,h4,h2,h3⟩ | ⟨r,hr,h3⟩)
  ·exact⟨_,.inl ⟨args',rs,.inl h1,h2,rfl⟩,h3⟩
  ·exact⟨_,.inl ⟨args',rs,.inr ⟨h1,h4⟩,h2,rfl⟩,h3⟩
  ·exact⟨r,.inr hr,h3⟩
end
def zH (b:Bool) (x:Option (AV×List Ob)) (st:List Ob) (K:AV→Prop):Prop:=match b,x with
 | true,some (r,st')=>st'=st∧K r
 | _,_=>False
@[go_sem] theorem AFn {r:AV} {st:List Ob} {K:AV→Prop}:zH true (some (r,st)) st K=K r:=by simp[zH]
@[go_sem] theorem AFo {P:Program} {s:MS} {K:AV→Prop} {T:TypeId} {ps:Array (Nat×Operand)}:DrK P s (.build T ps) K=zH (Dk P T) (Ro P s T ps.toList) s.st K:=by
 unfold DrK zH
 simp only[Bj]
 apply propext
 constructor
 ·rintro⟨r,⟨h1,h2⟩,h3⟩
  rw[h1,h2]
  exact⟨rfl,h3⟩
 ·intro h
  split at h
  ·rename_i r st' hb hx
   obtain⟨rfl,h⟩:=h
   exact⟨r,⟨hb,hx⟩,h⟩
  ·exact h.elim
@[go_sem] theorem AFp {P:Program} {s:MS} {K:AV→Prop} {T:TypeId} {x:Operand} {lo hi:Option Operand}:DrK P s (.slice T x lo hi none) K=zH true (Rw P s T (EC s x) lo hi) s.st K:=by
 unfold DrK zH
 simp only[Bj]
 apply propext
 constructor
 ·rintro⟨r,h2,h3⟩
  rw[h2]
  exact⟨rfl,h3⟩
 ·intro h
  split at h
  ·rename_i r st' hb hx
   obtain⟨rfl,h⟩:=h
   exact⟨r,hx,h⟩
  ·exact h.elim
theorem KE {l:Int} (h:WfA (.c (.v (.int .i64 l)))):l≤9223372036854775807:=by
 simp only[WfA,nZ,O9,Lit.wf,IntKind.min,IntKind.max,IntKind.signed,IntKind.bits] at h
 simp at h
 omega
theorem uD {s:ByteArray} (h:nZ (.v (.string s))):s.size≤9223372036854775807:=by
 have h':decide (s.size≤maxLen)=true:=h
 have h2:=Zg h'
 simpa [maxLen] using h2
def grow (xs:List (List Cl)) (z:List Cl) (k:Nat):List (List Cl):=xs.take k++List.replicate (xs.length-k) z
theorem Bv {xs:List (List Cl)} {z:List Cl}:grow xs z 0=List.replicate xs.length z:=by simp[grow]
theorem ABa {xs:List (List Cl)} {z:List Cl}:grow xs z xs.length=xs:=by simp[grow]
theorem V3 {xs:List (List Cl)} {z:List Cl} {k:Nat} (h:k≤xs.length):(grow xs z k).length=xs.length:=by simp[grow]; omega
theorem AC6 {xs:List (List Cl)} {z:List Cl} {k:Nat} (h:k<xs.length):(grow xs z k)[k]?=some z:=by
 have h1:(xs.take k).length=k:=by rw[bC]; omega
 rw[grow,aX (Nat.le_of_eq h1),h1,dM,List.getElem?_replicate,bz (by omega)]
theorem ABb {xs:List (List Cl)} {z:List Cl} {k:Nat} (h:k<xs.length):(grow xs z k).set k xs[k]=grow xs z (k+1):=by
 have h1:(xs.take k).length=k:=by simp; omega
 apply List.ext_getElem?
 intro i
 rw[bZ,V3 (by omega)]
 by_cases e:k=i
 ·subst e
  rw[bz rfl,bz h,grow,aZ (by simp; omega)]
  simp[h]
 ·rw[aV e]
  simp only[grow,abq,bC,yS,List.getElem?_replicate]
  rcases bI i k with h2 | h2
  ·have a1:i<min k xs.length:=by omega
   have a2:i<min (k+1) xs.length:=by omega
   have a3:i<k+1:=by omega
   simp[a1,a2,h2,a3]
  ·have a1:¬ i<min k xs.length:=by omega
   have a2:¬ i<min (k+1) xs.length:=by omega
   simp only[a1,a2,aT]
   congr 1
   apply propext
   omega
theorem BU {α:Type} {f:α→List Cl} {xs:List α} {z:List Cl} {k:Nat} (h:k≤xs.length):(grow (xs.map f) z k).length=xs.length:=by rw[V3 (by simpa using h),ae]
theorem DN {α:Type} {f:α→List Cl} {xs:List α} {z:List Cl} {k:Nat} (h:k<xs.length):(grow (xs.map f) z k)[k]?=some z:=AC6 (by simpa using h)
theorem Fj {α:Type} {f:α→List Cl} {xs:List α} {z:List Cl} {k:Nat} (h:k<xs.length):(grow (xs.map f) z k).set k (f xs[k])=grow (xs.map f) z (k+1):=by
 have h2:k<(xs.map f).length:=by simpa using h
 have:=ABb (z:=z) h2
 rwa [List.getElem_map] at this
theorem Fq {α:Type} {f:α→List Cl} {xs:List α} {z:List Cl}:grow (xs.map f) z xs.length=xs.map f:=by
 have:=@ABa (xs.map f) z
 rwa [ae] at this
theorem uF {x:List Cl} (h:CB x=true):x.all (FT 1)=true:=by
 refine aF.2 fun c hc=>?_
 have:=aF.1 h c hc
 cases c<;>simp_all [AO,FT]
theorem Le {α:Type} {f:α→List Cl} (hf:∀ x,CB (f x)=true) {z:List Cl} (hz:z.all (FT 1)=true) {xs:List α} {k T w:Nat} {wr live:Bool} :
  (List.take 1 [(⟨T,w,grow (xs.map f) z k,wr,live⟩:Ob)]).all (Az 1)=true:=by
 simp only[abt,abj,bK,dm,aS,Az,sV]
 refine .inr (aF.2 fun x hx=>?_)
 simp only[grow,yU] at hx
 rcases hx with hx | hx
 ·obtain⟨y,_,rfl⟩:=WY.1 (yR hx)
  exact uF (hf y)
 ·rw[List.eq_of_mem_replicate hx]; exact hz
theorem oz {N:Nat} {x:List Cl} (h:x.all Nh=true):x.all (FT N)=true:=by
 refine aF.2 fun c hc=>?_
 have:=aF.1 h c hc
 cases c<;>simp_all [Nh,FT]
theorem Ie {α:Type} {f:α→List Cl} (hf:∀ x,(f x).all Nh=true) {z:List Cl} (hz:z.all (FT 1)=true) {xs:List α} {k T w:Nat} {wr live:Bool} :
  [(⟨T,w,grow (xs.map f) z k,wr,live⟩:Ob)].all (Az 1)=true:=by
 simp only[bK,dm,aS,Az,sV]
 refine .inr (aF.2 fun x hx=>?_)
 simp only[grow,yU] at hx
 rcases hx with hx | hx
 ·obtain⟨y,_,rfl⟩:=WY.1 (yR hx)
  exact oz (hf y)
 ·rw[List.eq_of_mem_replicate hx]; exact hz
theorem Hy:∀ (a b:List Cl),J_ (a++b)=J_ a++J_ b
 | [],b=>by simp[J_]
 | c::a,b=>by simp[J_,Hy a b]
attribute [go_sem] aa8 Nat.reduceBEq Nat.reduceAdd Nat.reduceSub Nat.reduceMul Nat.reduceLT Nat.reduceLeDiff Nat.reduceEqDiff Nat.succ_ne_zero reduceIte true_or or_true
end Go.Vm
