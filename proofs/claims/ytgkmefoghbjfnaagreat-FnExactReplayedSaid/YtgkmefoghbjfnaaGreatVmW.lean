/- A part. -/
import Derived.Test.YtgkmefoghbjfnaaGreatVmV
set_option linter.unusedSimpArgs false
set_option linter.unusedVariables false
namespace Go.Vm
open Go.RowKit
def Ig (x:Option AV) (K:AV→Prop):Prop:=match x with
 | some y=>K y
 | none=>False
@[go_sem] theorem rY {y:AV} {K:AV→Prop}:Ig (some y) K=K y:=rfl
def CallF (P:Program) (f:FuncId) (args:List AV) (K:AV→Prop):Prop:=∃ rs,Ctr P f args rs∧K (retA (PD rs))
theorem CallF.mk {P:Program} {f:FuncId} {args:List AV} {K:AV→Prop} {B:Prop} (rs:List Res) (h:Ctr P f args rs) (hk:K (retA (PD rs))):KI (CallF P f args K) B:=.inl ⟨rs,h,hk⟩
theorem CW {P:Program} {f:FuncId} {args args':List AV} {K:List Res→Prop} {B:Prop} {rs:List Res} (h:Ctr P f args' rs) (hk:Sz rs→K rs) (e:args=args':= by simp only[go_sem]):KI (CallK P f args K) B:= .inl ⟨rs,e▸h,hk⟩
theorem CY {P:Program} {f:FuncId} {args args':List AV} {K:AV→Prop} {B:Prop} {rs:List Res} (h:Ctr P f args' rs) (hk:K (retA (PD rs))) (e:args=args':= by simp only[go_sem]):KI (CallF P f args K) B:= .inl ⟨rs,e▸h,hk⟩
theorem CZ {P:Program} {f:FuncId} {args args':List AV} {KK:List Res→Prop} {B:Prop} {rs:List Res} (h:Ctr P f args' rs) (hk:KK rs) (e:args=args':= by simp only[go_sem]):KI (CallE P f args KK) B:= .inl ⟨rs,e▸h,hk⟩
def rZ (P:Program) (f:FuncId) (x:Option (List AV)) (K:AV→Prop):Prop:=∃ args rs,x=some args∧rs.all Mc=true∧Ctr P f args rs∧K (retA (PD rs))
theorem BorF.mk {P:Program} {f:FuncId} {x:Option (List AV)} {K:AV→Prop} {A:Prop} {args:List AV} (rs:List Res) (hx:x=some args) (hc:rs.all Mc=true) (h:Ctr P f args rs) (hk:K (retA (PD rs))):KI A (rZ P f x K):=.inr ⟨args,rs,hx,hc,h,hk⟩
def Zr (P:Program) (f:FuncId) (x:Option (List AV×List Ob)) (st:List Ob) (K:AV→Prop):Prop:=∃ args,x=some (args,st)∧CallF P f args K
@[go_sem] theorem rf {P:Program} {f:FuncId} {args:List AV} {st:List Ob} {K:AV→Prop}:Zr P f (some (args,st)) st K=CallF P f args K:=by
 simp[Zr]
def oN (P:Program) (x:AV) (y:Option (List AV×List Ob)) (st:List Ob) (K:AV→Prop):Prop:=match x with
 | .clo f xs=>∃ args,y=some (args,st)∧CallF P f (args++xs.map AV.ip) K
 | _=>False
@[go_sem] theorem wU {P:Program} {f:FuncId} {xs:List (List Cl)} {args:List AV} {st:List Ob} {K:AV→Prop}:oN P (.clo f xs) (some (args,st)) st K=KI (CallF P f (args++xs.map AV.ip) K) False:=by
 simp[oN,KI]
theorem KR {P:Program} {s:MS} {o:Op} {K:AV→Prop} (h:∀ r,BD P s o r=(En P s o=some r)):DrK P s o K=Ig (En P s o) K:=by
 unfold DrK
 simp only[h]
 cases En P s o<;>simp[Ig]
section
variable {P:Program} {s:MS} {K:AV→Prop}
@[go_sem] theorem wV {x:Operand}:DrK P s (.move x) K=Ig (En P s (.move x)) K:=KR fun _=>rfl
@[go_sem] theorem rq {x:Operand}:DrK P s (.assign x) K=Ig (En P s (.assign x)) K:=KR fun _=>rfl
@[go_sem] theorem wW {c x y:Operand}:DrK P s (.pick c x y) K=Ig (En P s (.pick c x y)) K:=KR fun _=>rfl
@[go_sem] theorem wX {T:TypeId} {x:Operand}:DrK P s (.load T x) K=Ig (En P s (.load T x)) K:=KR fun _=>rfl
@[go_sem] theorem oO {x:Operand}:DrK P s (.nilCheck x) K=Ig (En P s (.nilCheck x)) K:=KR fun _=>rfl
@[go_sem] theorem uG {b:BinOp} {T T':TypeId} {x y:Operand}:DrK P s (.binOp b T x y T') K=Ig (En P s (.binOp b T x y T')) K:=KR fun _=>rfl
@[go_sem] theorem wY {b:UnOp} {T:TypeId} {x:Operand}:DrK P s (.unOp b T x) K=Ig (En P s (.unOp b T x)) K:=KR fun _=>rfl
@[go_sem] theorem lI {T:TypeId} {x:Operand} {i:Nat}:DrK P s (.fieldAddr T x i) K=Ig (En P s (.fieldAddr T x i)) K:=KR fun _=>rfl
@[go_sem] theorem lJ {T:TypeId} {x y:Operand}:DrK P s (.indexAddr T x y) K=Ig (En P s (.indexAddr T x y)) K:=KR fun _=>rfl
@[go_sem] theorem pg {x:Operand} {i:Nat}:DrK P s (.extract x i) K=Ig (En P s (.extract x i)) K:=KR fun _=>rfl
@[go_sem] theorem xy {args:Array Operand} {ts:Array TypeId}:DrK P s (.call ⟨.builtin .len,args,ts⟩) K=Ig (En P s (.call ⟨.builtin .len,args,ts⟩)) K:=KR fun _=>rfl
@[go_sem] theorem wZ {f:FuncId} {args:Array Operand} {ts:Array TypeId}:DrK P s (.call ⟨.value (.func f),args,ts⟩) K=KI (Zr P f (JW s.st (args.toList.map (Cf s))) s.st K) (rZ P f (Lh s.st (args.toList.map (Cf s))) K):=by
 simp only[DrK,Zr,CallF,BD,rZ,KI]
 apply propext
 constructor
 ·rintro⟨r,⟨args',rs,h1,h2,rfl⟩,h3⟩
  rcases h1 with h1 | ⟨h1,h4⟩
  ·exact .inl ⟨args',h1,rs,h2,h3⟩
  ·exact .inr ⟨args',rs,h1,h4,h2,h3⟩
 ·rintro(⟨args',h1,rs,h2,h3⟩ | ⟨args',rs,h1,h4,h2,h3⟩)
  ·exact⟨_,⟨args',rs,.inl h1,h2,rfl⟩,h3⟩
  ·exact⟨_,⟨args',rs,.inr ⟨h1,h4⟩,h2,rfl⟩,h3⟩
@[go_sem] theorem x_ {t:Nat} {args:Array Operand} {ts:Array TypeId}:DrK P s (.call ⟨.value (.tmp t),args,ts⟩) K=oN P (unpin (BK s.env t)) (JW s.st (args.toList.map (Cf s))) s.st K:=by
 simp only[DrK,oN,CallF,BD]
 cases unpin (BK s.env t) with
 | clo f xs =>
  apply propext
  constructor
  ·rintro⟨r,⟨args',rs,h1,h2,rfl⟩,h3⟩
   exact⟨args',h1,rs,h2,h3⟩
  ·rintro⟨args',h1,rs,h2,h3⟩
   exact⟨_,⟨args',rs,h1,h2,rfl⟩,h3⟩
 | _=>simp
end
def gV (b:Bool) (x:Option (AV×List Ob)) (st:List Ob) (K:AV→Prop):Prop:=match b,x with
 | true,some (r,st')=>st'=st∧K r
 | _,_=>False
@[go_sem] theorem uH {r:AV} {st:List Ob} {K:AV→Prop}:gV true (some (r,st)) st K=K r:=by simp[gV]
@[go_sem] theorem uI {P:Program} {s:MS} {K:AV→Prop} {T:TypeId} {ps:Array (Nat×Operand)}:DrK P s (.build T ps) K=gV (E8 P T) (MW P s T ps.toList) s.st K:=by
 unfold DrK gV
 simp only[BD]
 apply propext
 constructor
 ·rintro⟨r,⟨h1,h2⟩,h3⟩
  rw[h1,h2]
  exact⟨rfl,h3⟩
 ·intro h
  split at h
  ·rename_i r st' hb hx
   obtain⟨rfl,h⟩:=h
   exact⟨r,⟨hb,hx⟩,h⟩
  ·exact h.elim
@[go_sem] theorem uJ {P:Program} {s:MS} {K:AV→Prop} {T:TypeId} {x:Operand} {lo hi:Option Operand}:DrK P s (.slice T x lo hi none) K=gV true (Md P s T (Cf s x) lo hi) s.st K:=by
 unfold DrK gV
 simp only[BD]
 apply propext
 constructor
 ·rintro⟨r,h2,h3⟩
  rw[h2]
  exact⟨rfl,h3⟩
 ·intro h
  split at h
  ·rename_i r st' hb hx
   obtain⟨rfl,h⟩:=h
   exact⟨r,hx,h⟩
  ·exact h.elim
theorem Gy {l:Int} (h:vN (.c (.v (.int .i64 l)))):l≤9223372036854775807:=by
 simp only[vN,gZ,Kz,Lit.wf,IntKind.min,IntKind.max,IntKind.signed,IntKind.bits] at h
 simp at h
 omega
theorem Y8 {s:ByteArray} (h:gZ (.v (.string s))):s.size≤9223372036854775807:=by
 have h':decide (s.size≤maxLen)=true:=h
 have h2:=vJ h'
 simpa [maxLen] using h2
def grow (xs:List (List Cl)) (z:List Cl) (k:Nat):List (List Cl):=xs.take k++List.replicate (xs.length-k) z
theorem BH {xs:List (List Cl)} {z:List Cl}:grow xs z 0=List.replicate xs.length z:=by simp[grow]
theorem kZ {xs:List (List Cl)} {z:List Cl}:grow xs z xs.length=xs:=by simp[grow]
theorem P5 {xs:List (List Cl)} {z:List Cl} {k:Nat} (h:k≤xs.length):(grow xs z k).length=xs.length:=by simp[grow]; omega
theorem oP {xs:List (List Cl)} {z:List Cl} {k:Nat} (h:k<xs.length):(grow xs z k)[k]?=some z:=by
 have h1:(xs.take k).length=k:=by rw[ZV]; omega
 rw[grow,ak (Nat.le_of_eq h1),h1,Vg,List.getElem?_replicate,ED (by omega)]
theorem ku {xs:List (List Cl)} {z:List Cl} {k:Nat} (h:k<xs.length):(grow xs z k).set k xs[k]=grow xs z (k+1):=by
 have h1:(xs.take k).length=k:=by simp; omega
 apply List.ext_getElem?
 intro i
 rw[bK,P5 (by omega)]
 by_cases e:k=i
 ·subst e
  rw[ED rfl,ED h,grow,ah (by simp; omega)]
  simp[h]
 ·rw[Eh e]
  simp only[grow,List.getElem?_append,ZV,aV,List.getElem?_replicate]
  rcases aX i k with h2 | h2
  ·have a1:i<min k xs.length:=by omega
   have a2:i<min (k+1) xs.length:=by omega
   have a3:i<k+1:=by omega
   simp[a1,a2,h2,a3]
  ·have a1:¬ i<min k xs.length:=by omega
   have a2:¬ i<min (k+1) xs.length:=by omega
   simp only[a1,a2,aK]
   congr 1
   apply propext
   omega
theorem A7 {α:Type} {f:α→List Cl} {xs:List α} {z:List Cl} {k:Nat} (h:k≤xs.length):(grow (xs.map f) z k).length=xs.length:=by rw[P5 (by simpa using h),ae]
theorem Bl {α:Type} {f:α→List Cl} {xs:List α} {z:List Cl} {k:Nat} (h:k<xs.length):(grow (xs.map f) z k)[k]?=some z:=oP (by simpa using h)
theorem Dt {α:Type} {f:α→List Cl} {xs:List α} {z:List Cl} {k:Nat} (h:k<xs.length):(grow (xs.map f) z k).set k (f xs[k])=grow (xs.map f) z (k+1):=by
 have h2:k<(xs.map f).length:=by simpa using h
 have:=ku (z:=z) h2
 rwa [List.getElem_map] at this
theorem Du {α:Type} {f:α→List Cl} {xs:List α} {z:List Cl}:grow (xs.map f) z xs.length=xs.map f:=by
 have:=@kZ (xs.map f) z
 rwa [ae] at this
theorem Y9 {x:List Cl} (h:BI x=true):x.all (Dk 1)=true:=by
 refine aA.2 fun c hc=>?_
 have:=aA.1 h c hc
 cases c<;>simp_all [AO,Dk]
theorem IG {α:Type} {f:α→List Cl} (hf:∀ x,BI (f x)=true) {z:List Cl} (hz:z.all (Dk 1)=true) {xs:List α} {k T w:Nat} {wr live:Bool} :
  (List.take 1 [(⟨T,w,grow (xs.map f) z k,wr,live⟩:Ob)]).all (BQ 1)=true:=by
 simp only[bf,bG,aS,aZ,aH,BQ,jW]
 refine .inr (aA.2 fun x hx=>?_)
 simp only[grow,U8] at hx
 rcases hx with hx | hx
 ·obtain⟨y,_,rfl⟩:=cO.1 (qi hx)
  exact Y9 (hf y)
 ·rw[xK hx]; exact hz
theorem Xy {N:Nat} {x:List Cl} (h:x.all IJ=true):x.all (Dk N)=true:=by
 refine aA.2 fun c hc=>?_
 have:=aA.1 h c hc
 cases c<;>simp_all [IJ,Dk]
theorem FN {α:Type} {f:α→List Cl} (hf:∀ x,(f x).all IJ=true) {z:List Cl} (hz:z.all (Dk 1)=true) {xs:List α} {k T w:Nat} {wr live:Bool} :
  [(⟨T,w,grow (xs.map f) z k,wr,live⟩:Ob)].all (BQ 1)=true:=by
 simp only[aS,aZ,aH,BQ,jW]
 refine .inr (aA.2 fun x hx=>?_)
 simp only[grow,U8] at hx
 rcases hx with hx | hx
 ·obtain⟨y,_,rfl⟩:=cO.1 (qi hx)
  exact Xy (hf y)
 ·rw[xK hx]; exact hz
theorem EO:∀ (a b:List Cl),Gn (a++b)=Gn a++Gn b
 | [],b=>by simp[Gn]
 | c::a,b=>by simp[Gn,EO a b]
attribute [go_sem] dh Nat.reduceBEq Nat.reduceAdd Nat.reduceSub Nat.reduceMul Nat.reduceLT Nat.reduceLeDiff Nat.reduceEqDiff Nat.succ_ne_zero reduceIte true_or or_true
end Go.Vm
