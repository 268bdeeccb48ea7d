/- The value machine, part D: the operations that turn neither the objects nor the world. -/
import Derived.Test.YthoeeoddgkjkkaaGreatVmC
import Derived.WalkLawsBesides
import Derived.OpenShut
import Derived.Laws.StructEq
import Derived.ChangeKeysEq
import Derived.Laws.BytesArg
namespace Go.Vm
set_option linter.unusedSimpArgs false
set_option linter.unusedVariables false
open Go.RowKit
def TT (k:IntKind) (x y:Int):Int:=((BitVec.ofInt k.bits x &&& BitVec.ofInt k.bits y).toNat:Int)
def kW (k:IntKind) (x y:Int):Int:=((BitVec.ofInt k.bits x ||| BitVec.ofInt k.bits y).toNat:Int)
def vY (op:BinOp) (k:IntKind) (x y:Int):Option Value:=match op with
 | .add=>some (.int k (k.wrap (x+y)))
 | .sub=>some (.int k (k.wrap (x-y)))
 | .mul=>some (.int k (k.wrap (x*y)))
 | .quo=>if y=0 then none else some (.int k (k.wrap (x.tdiv y)))
 | .rem=>if y=0 then none else some (.int k (k.wrap (x.tmod y)))
 | .and=>some (.int k (k.wrap (TT k x y)))
 | .or=>some (.int k (k.wrap (kW k x y)))
 | .eql=>some (.bool (x==y))
 | .neq=>some (.bool (x != y))
 | .lss=>some (.bool (decide (x<y)))
 | .leq=>some (.bool (decide (x≤y)))
 | .gtr=>some (.bool (decide (x>y)))
 | .geq=>some (.bool (decide (x≥y)))
 | _=>none
def vZ (op:BinOp) (x y:ByteArray):Option Value:=match op with
 | .add=>if x.size+y.size≤maxLen then some (.string (x++y)) else none
 | .eql=>some (.bool (x.toList==y.toList))
 | .neq=>some (.bool (!(x.toList==y.toList)))
 | .lss=>some (.bool (Op.bytesLess x.toList y.toList))
 | .leq=>some (.bool (Op.bytesLess x.toList y.toList||x.toList==y.toList))
 | .gtr=>some (.bool (!(Op.bytesLess x.toList y.toList||x.toList==y.toList)))
 | .geq=>some (.bool (!(Op.bytesLess x.toList y.toList)))
 | _=>none
def oI (P:Program) (op:BinOp) (T:TypeId) (a b:Value):Option Value:=match a,b with
 | .int k x,.int k' y=>match op with
  | .shl=>if y<0 then none else some (.int k (k.wrap (x*2 ^ min y.toNat k.bits)))
  | .shr=>if y<0 then none else some (.int k (k.wrap (x.fdiv (2 ^ min y.toNat k.bits))))
  | op=>if k=k' then vY op k x y else none
 | .string x,.string y=>vZ op x y
 | .bool x,.bool y=>match P.underlying T with
  | some .bool=>(match op with
   | .eql=>some (.bool (x==y))
   | .neq=>some (.bool (!(x==y)))
   | _=>none)
  | _=>none
 | _,_=>none
theorem G9 {k:IntKind} {n:Int} (h:(Lit.int k n).wf=true):k.wrap n=n:=by
 simp only[Lit.wf,Bool.and_eq_true,decide_eq_true_eq] at h
 obtain⟨h1,h2⟩:=h
 unfold IntKind.wrap
 cases k<;>simp[IntKind.min,IntKind.max,IntKind.bits,IntKind.signed] at * <;> omega
theorem oJ {k:IntKind} {x y:Int} (h:(Lit.int k x).wf=true):(Lit.int k (x.tmod y)).wf=true:=by
 have h2:(x.tmod y).natAbs≤x.natAbs:=by
  rw[Int.natAbs_tmod]; exact Nat.mod_le _ _
 have h3:0≤x→0≤x.tmod y:=fun h=>Int.tmod_nonneg y h
 have h6:x≤0→x.tmod y≤0:=fun h=>by
  have:=Int.tmod_nonneg (a:=-x) y (by omega)
  rw[Int.neg_tmod] at this; omega
 have h4:x.tmod y≤x∨x.tmod y≤ -x:=by omega
 have h5:x≤x.tmod y∨ -x≤x.tmod y:=by omega
 generalize x.tmod y=z at *
 clear h2
 simp only[Lit.wf,Bool.and_eq_true,decide_eq_true_eq] at *
 cases k<;>simp[IntKind.min,IntKind.max,IntKind.bits,IntKind.signed] at * <;> omega
theorem oK {k:IntKind} {x:Int} {n:Nat} (h:(Lit.int k x).wf=true):(Lit.int k (x.fdiv (2 ^ n))).wf=true:=by
 have hp:(1:Int)≤2 ^ n:=by
  have:(0:Int)<2 ^ n:=Int.pow_pos (by decide)
  omega
 have e:x.fdiv (2 ^ n)=x/(2 ^ n):=by
  rw[Int.fdiv_eq_ediv_of_nonneg _ (by omega)]
 have h1:0≤x→0≤x/(2 ^ n)∧x/(2 ^ n)≤x:=fun hx=>⟨Int.ediv_nonneg hx (by omega),Int.ediv_le_self _ hx⟩
 have h2:x<0→x≤x/(2 ^ n)∧x/(2 ^ n)<0:=fun hx=>by
  refine⟨?_,Int.ediv_neg_of_neg_of_pos hx (by omega)⟩
  rw[Int.le_ediv_iff_mul_le (by omega)]
  have h:=Int.mul_nonneg (show 0≤ -x by omega) (show (0:Int)≤2 ^ n-1 by omega)
  rw[Int.mul_sub,Int.neg_mul] at h
  omega
 rw[e]
 simp only[Lit.wf,Bool.and_eq_true,decide_eq_true_eq] at *
 cases k<;>simp[IntKind.min,IntKind.max,IntKind.bits,IntKind.signed] at * <;> omega
theorem oM {P:Program} {op:BinOp} {T:TypeId} {a b r:Value} (ha:Kt a=true) (h:oI P op T a b=some r) (x y:Operand) (w:World) :
  (do eqGuard op T x y a b; binOp op T a b:Sem Value).run P w = .ok r w∧Kt r=true:=by
 unfold oI at h
 split at h
 ·rename_i k x' k' y'
  have hg:(eqGuard op T x y (.int k x') (.int k' y')).run P w = .ok () w:=by
   unfold eqGuard; cases op<;>simp
  simp only[Sem.run_bind,hg,Result.andThen_ok]
  simp only[Kt] at ha
  split at h
  ·split at h
   ·cases h
   ·simp only[Option.some.injEq] at h; subst h
    rename_i hy
    refine⟨?_,by simp only[Kt]; exact Go.wf_wrap _ _⟩
    simp[binOp,Op.shift,hy]
  ·split at h
   ·cases h
   ·simp only[Option.some.injEq] at h; subst h
    rename_i hy
    refine⟨?_,by simp only[Kt]; exact Go.wf_wrap _ _⟩
    have:=G9 (oK (n:=min y'.toNat k.bits) ha)
    simp[binOp,Op.shift,hy,this]
  ·split at h
   ·rename_i hn1 hn2 hk
    subst hk
    unfold vY at h
    cases op<;>simp only[Option.some.injEq] at h<;>first
     | (cases h; done)
     | (subst h; refine⟨by simp[binOp,Op.intArith,Op.intCmp,Op.intBits,TT,kW], ?_⟩; first | rfl | exact Go.wf_wrap _ _)
     | (
       split at h
       ·cases h
       ·simp only[Option.some.injEq] at h; subst h
        rename_i hy
        refine⟨?_,by simp only[Kt]; exact Go.wf_wrap _ _⟩
        have:=G9 (oJ (y:=y') ha)
        simp[binOp,Op.intDiv,hy,this])
     | skip
   ·cases h
 ·rename_i x' y'
  have hg:(eqGuard op T x y (.string x') (.string y')).run P w = .ok () w:=by
   unfold eqGuard; cases op<;>simp
  simp only[Sem.run_bind,hg,Result.andThen_ok]
  unfold vZ at h
  cases op<;>simp only[Option.some.injEq] at h<;>first
   | (cases h; done)
   | (subst h; refine⟨by simp[binOp,Op.stringOp],rfl⟩)
   | (
     split at h
     ·rename_i hs
      simp only[Option.some.injEq] at h; subst h
      have hs':¬ (IntKind.i64.max<((x'.size+y'.size:Nat):Int)):=by simp only[maxLen] at hs; simp[IntKind.max,IntKind.signed,IntKind.bits]; omega
      refine⟨?_, ?_⟩
      ·simp only[binOp,Op.stringOp,gt_iff_lt,if_neg hs',Sem.run_pure]
      ·simp only[Kt,decide_eq_true_eq]; simpa using hs
     ·cases h)
 ·rename_i x' y'
  have hg:(eqGuard op T x y (.bool x') (.bool y')).run P w = .ok () w:=by
   unfold eqGuard; cases op<;>simp
  simp only[Sem.run_bind,hg,Result.andThen_ok]
  split at h
  ·rename_i hu
   cases op<;>simp only[Option.some.injEq] at h<;>first
    | (cases h; done)
    | (
      subst h
      refine⟨?_,rfl⟩
      have he:(Op.equal T (.bool x') (.bool y')).run P w = .ok (x'==y') w:=by
       unfold Op.equal Op.maxDepth
       rw[Op.equalIn]
       simp[run_underlying hu]
      first
       | (show ((do pure (.bool (← Op.equal T (.bool x') (.bool y')))):Sem Value).run P w=_; simp only[Sem.run_bind,he,Result.andThen_ok,Sem.run_pure])
       | (show ((do pure (.bool (!(← Op.equal T (.bool x') (.bool y'))))):Sem Value).run P w=_; simp only[Sem.run_bind,he,Result.andThen_ok,Sem.run_pure]))
  ·cases h
 ·cases h
def aUn (op:UnOp) (a:Value):Option Value:=match op,a with
 | .neg,.int k n=>some (.int k (k.wrap (0-n)))
 | .not,.bool b=>some (.bool !b)
 | _,_=>none
theorem ve {P:Program} {op:UnOp} {a r:Value} (h:aUn op a=some r) (w:World):(Op.unary op a).run P w = .ok r w∧Kt r=true:=by
 unfold aUn at h
 split at h<;>(try simp only[Option.some.injEq] at h)<;>first
  | (subst h; exact⟨by simp[Op.unary,Op.intArith],by simp only[Kt]; exact Go.wf_wrap _ _⟩)
  | (subst h; exact⟨by simp[Op.unary],rfl⟩)
  | cases h
end Go.Vm
/- The value machine,part Ea: comparing structs of numbers,strings and truth values. -/
namespace Go.Vm
set_option linter.unusedSimpArgs false
set_option linter.unusedVariables false
open Go.RowKit
inductive Kd where
 | bool
 | int (k:IntKind)
 | str
def kX (P:Program) (t:TypeId):Option Kd:=match P.underlying t with
 | some .bool=>some .bool
 | some (.int k)=>some (.int k)
 | some .string=>some .str
 | _=>none
def flatK (P:Program):List Field→Nat→Option (List Kd)
 | [],_=>some []
 | f::fs,i=>match kX P f.type,flatK P fs (i+1) with
  | some k, some ks => if f.offset = i ∧ f.name ≠ "_" then some (k :: ks) else none
  | _,_=>none
def MW (P:Program) (T:TypeId):Option (List Kd):=match P.underlying T with
 | some (.struct fs)=>if P.eqGuardType P.depth T=false∧P.stoodInHeld T=false then flatK P fs.toList 0 else none
 | _=>none
def P9:Kd→Cl→Cl→Option Bool
 | .bool,.v (.bool a),.v (.bool b)=>some (a==b)
 | .int k,.v (.int k1 a),.v (.int k2 b)=>if k1=k∧k2=k then some (a==b) else none
 | .str,.v (.string a),.v (.string b)=>some (a.toList==b.toList)
 | _,_,_=>none
def Jd:List Kd→List Cl→List Cl→Option Bool
 | [],[],[]=>some true
 | k::ks,c::cs,d::ds=>match P9 k c d,Jd ks cs ds with
  | some b,some r=>some (b&&r)
  | _,_=>none
 | _,_,_=>none
theorem bY {P:Program} {t:TypeId} {k:Kd} (h:kX P t=some k):P.plainKey t=true:=by
 unfold kX at h
 unfold Program.plainKey
 split at h<;>simp_all
theorem vg {P:Program} {w:World} {t:TypeId} {k:Kd} {c d:Cl} {b:Bool} (hk:kX P t=some k) (h:P9 k c d=some b) (n:Nat):∃ x y,c = .v x∧d = .v y∧(Op.equalIn (n+1) t x y).run P w = .ok b w:=by
 unfold P9 at h
 unfold kX at hk
 split at h
 ·rename_i a a'
  simp only[Option.some.injEq] at h
  subst h
  split at hk<;>simp_all
  rename_i hu
  exact run_equalIn_bool w n t a a' hu
 ·rename_i q k1 a k2 a'
  split at h
  ·rename_i hkk
   obtain⟨rfl,rfl⟩:=hkk
   simp only[Option.some.injEq] at h
   subst h
   split at hk<;>simp_all
   rename_i hu
   simp[Op.equalIn,run_underlying hu]
  ·cases h
 ·rename_i a a'
  simp only[Option.some.injEq] at h
  subst h
  split at hk<;>simp_all
  rename_i hu
  rw[← beq_toListBytes]
  simp[Op.equalIn,run_underlying hu]
 ·cases h
theorem RD {P:Program} {w:World} (n:Nat) {us vs:List Value}:∀ (fs:List Field) (i:Nat) (ks:List Kd) (cs ds:List Cl) (r:Bool),flatK P fs i=some ks→Jd ks cs ds=some r →
  (∀ (k:Nat) (x:Value),cs[k]?=some (.v x)→us[i+k]?=some x)→(∀ (k:Nat) (x:Value),ds[k]?=some (.v x)→vs[i+k]?=some x)→(Op.eqFields (n+1) us.toArray vs.toArray fs).run P w = .ok r w
 | [],i,ks,cs,ds,r,hf,hb,hu,hv=>by
  simp only[flatK,Option.some.injEq] at hf
  subst hf
  unfold Jd at hb
  split at hb
  ·simp only[Option.some.injEq] at hb
   subst hb
   simp[Op.eqFields]
  ·rename_i he; cases he
  ·cases hb
 | f::fs,i,ks,cs,ds,r,hf,hb,hu,hv=>by
  simp only[flatK] at hf
  split at hf
  ·rename_i k ks' hk hks
   split at hf
   ·rename_i hc
    obtain⟨hoff,hname⟩:=hc
    simp only[Option.some.injEq] at hf
    subst hf
    cases cs with
    | nil=>simp[Jd] at hb
    | cons c cs =>
     cases ds with
     | nil=>simp[Jd] at hb
     | cons d ds =>
      simp only[Jd] at hb
      split at hb
      ·rename_i b r' hb1 hb2
       simp only[Option.some.injEq] at hb
       subst hb
       obtain⟨x,y,rfl,rfl,heq⟩:=vg (w:=w) hk hb1 n
       have hp:=bY hk
       have p1:(part f.type us.toArray f.offset).run P w = .ok x w:=run_part_plain w hp (by rw[hoff]; simpa using hu 0 x rfl)
       have p2:(part f.type vs.toArray f.offset).run P w = .ok y w:=run_part_plain w hp (by rw[hoff]; simpa using hv 0 y rfl)
       have ih:=RD (w:=w) n fs (i+1) ks' cs ds r' hks hb2 (fun k z hz=>by
        have:=hu (k+1) z (by simpa using hz)
        rwa [show i+(k+1)=i+1+k by omega] at this) (fun k z hz=>by
        have:=hv (k+1) z (by simpa using hz)
        rwa [show i+(k+1)=i+1+k by omega] at this)
       simp only[Op.eqFields,hname,ne_eq,not_false_eq_true,if_true,Sem.run_bind,p1,p2,heq,Result.andThen_ok,Sem.run_ite]
       cases b with
       | true=>simpa using ih
       | false=>simp
      ·cases hb
   ·cases hf
  ·cases hf
theorem Y9 {P:Program} {w:World} {T:TypeId} {ks:List Kd} {cs ds:List Cl} {r:Bool} {us vs:List Value} (hs:MW P T=some ks) (hb:Jd ks cs ds=some r) (hu:∀ (k:Nat) (x:Value),cs[k]?=some (.v x)→us[k]?=some x) (hv:∀ (k:Nat) (x:Value),ds[k]?=some (.v x)→vs[k]?=some x) (x y:Operand) :
  (do eqGuard .eql T x y (.agg us.toArray) (.agg vs.toArray); binOp .eql T (.agg us.toArray) (.agg vs.toArray):Sem Value).run P w = .ok (.bool r) w ∧
   (do eqGuard .neq T x y (.agg us.toArray) (.agg vs.toArray); binOp .neq T (.agg us.toArray) (.agg vs.toArray):Sem Value).run P w = .ok (.bool (!r)) w:=by
 unfold MW at hs
 split at hs
 ·rename_i fs hut
  split at hs
  ·rename_i hc
   obtain⟨hg,hst⟩:=hc
   have hfo:P.fieldsOf T=fs:=by simp[Program.fieldsOf,hut]
   have heq:(Op.equal T (.agg us.toArray) (.agg vs.toArray)).run P w = .ok r w:=by
    unfold Op.equal Op.maxDepth
    rw[run_equalIn_struct w 9999 T us.toArray vs.toArray (by rw[hfo]; exact hut) hst,hfo]
    exact RD 9998 fs.toList 0 ks cs ds r hs hb (fun k x hx=>by simpa using hu k x hx) (fun k x hx=>by simpa using hv k x hx)
   constructor
   ·simp[eqGuard,run_program,hg,binOp,heq]
   ·simp[eqGuard,run_program,hg,binOp,heq]
  ·cases hs
 ·cases hs
end Go.Vm
/- The value machine,part E: the operations that only read. -/
namespace Go.Vm
set_option linter.unusedSimpArgs false
set_option linter.unusedVariables false
open Go.RowKit
def Je (row:List Cl) (off n:Nat) (g:Bool):Option AV:=
 if g then(if off+n≤row.length then some (.agg ((row.drop off).take n)) else none)
 else match row[off]? with
  | some c=>some (.c c)
  | none=>none
def G8:AV→Bool
 | .c x=>!Ei x
 | .agg xs=>xs.all fun c=>!Ei c
 | _=>true
def NM (x:AV):Option Nat:=match x with
 | .c (.v (.int _ n))=>if 0≤n then some n.toNat else none
 | _=>none
def rF (t:Bool) (x y:AV):AV:=match t with
 | true=>x
 | false=>y
def LZ:List (List Cl)→Option (List Int)
 | []=>some []
 | [.v (.int .u8 n)]::r=>match LZ r with
  | some ns=>some (n::ns)
  | none=>none
 | _::_=>none
def FY (P:Program) (s:MS) (op:Op):Option AV:=match op with
 | .move x=>some (Dp s x)
 | .assign x=>some (Dp s x)
 | .pick c x y=>match Dp s c with
  | .c (.v (.bool t))=>some (rF t (Dp s x) (Dp s y))
  | _=>none
 | .load T a=>match AO P T,Aq P T with
  | some n,some g=>match Dp s a with
   | .lp l i off=>match Cc s.st l with
    | some ob=>match ob.xs[i]? with
     | some row=>match Je row off n g with
      | some y=>if G8 y=true then some y else none
      | none=>none
     | none=>none
    | none=>none
   | .ip row=>Je row 0 n g
   | _=>none
  | _,_=>none
 | .nilCheck x=>match Dp s x with
  | .lp l i off=>match Cc s.st l with
   | some _=>some (.lp l i off)
   | none=>none
  | .ip row=>some (.ip row)
  | .c (.v (.func (.func f) a b))=>some (.c (.v (.func (.func f) a b)))
  | _=>none
 | .binOp op T x y _=>match Dp s x,Dp s y with
  | .c (.v a),.c (.v b)=>match oI P op T a b with
   | some r=>some (.c (.v r))
   | none=>none
  | .agg cs,.agg ds=>match MW P T with
   | some ks=>match Jd ks cs ds with
    | some r=>match op with
     | .eql=>some (.c (.v (.bool r)))
     | .neq=>some (.c (.v (.bool (!r))))
     | _=>none
    | none=>none
   | none=>none
  | _,_=>none
 | .unOp op _ x=>match Dp s x with
  | .c (.v a)=>match aUn op a with
   | some r=>some (.c (.v r))
   | none=>none
  | _=>none
 | .convert src dst x=>match P.underlying src,P.underlying dst,Dp s x with
  | some _,some (.int k),.c (.v (.int _ n))=>some (.c (.v (.int k (k.wrap n))))
  | some _,some .string,.c (.v (.string b))=>some (.c (.v (.string b)))
  | some (.slice e),some .string,.c d=>match P.underlying e,NW s.st d with
   | some (.int .u8),some xs=>match LZ xs with
    | some ns=>some (.c (.v (.string (strOfNums ns))))
    | none=>none
   | _,_=>none
  | _,_,_=>none
 | .fieldAddr T x f=>match AB P T f with
  | some (fo,ft)=>match AO P ft with
   | some (_+1)=>match Dp s x with
    | .lp l i off=>match Cc s.st l with
     | some _=>some (.lp l i (off+fo))
     | none=>none
    | .ip row=>some (.ip (row.drop fo))
    | _=>none
   | _=>none
  | none=>none
 | .field T x f=>match AB P T f with
  | some (fo,ft)=>match AO P ft,Aq P ft,Dp s x with
   | some n,some g,.agg row=>Je row fo n g
   | _,_,_=>none
  | none=>none
 | .indexAddr T x ix=>match C_ P T with
  | some e=>match AO P e,NM (Dp s ix) with
   | some n,some k=>match Dp s x with
    | .c (.sl xs)=>match xs[k]? with
     | some row=>if row.length=n then some (.ip row) else none
     | none=>none
    | .c (.ref l)=>match Cc s.st l with
     | some ob=>if k<ob.xs.length∧ob.sz=n then some (.lp l k 0) else none
     | none=>none
    | _=>none
   | _,_=>none
  | none=>none
 | .index T x ix=>match P.underlying T with
  | some .string=>match Dp s x,NM (Dp s ix) with
   | .c (.v (.string b)),some k=>match b[k]? with
    | some c=>some (.c (.v (.int .u8 c.toNat)))
    | none=>none
   | _,_=>none
  | _=>none
 | .extract x ix=>match Dp s x with
  | .tup xs=>xs[ix]?
  | _=>none
 | .call c=>match c.callee with
  | .builtin .len=>match c.argTypes.toList,c.args.toList with
   | [t],[x]=>match P.underlying t,Dp s x with
    | some .string,.c (.v (.string b))=>some (.c (.v (.int .i64 b.size)))
    | some (.slice _),.c d=>match NW s.st d with
     | some xs=>some (.c (.v (.int .i64 xs.length)))
     | none=>none
    | _,_=>none
   | _,_=>none
  | .builtin .min=>match c.args.toList with
   | [x,y]=>match Dp s x,Dp s y with
    | .c (.v (.int .i64 a)),.c (.v (.int .i64 b))=>some (.c (.v (.int .i64 (if b<a then b else a))))
    | _,_=>none
   | _=>none
  | .builtin .max=>match c.args.toList with
   | [x,y]=>match Dp s x,Dp s y with
    | .c (.v (.int .i64 a)),.c (.v (.int .i64 b))=>some (.c (.v (.int .i64 (if a<b then b else a))))
    | _,_=>none
   | _=>none
  | _=>none
 | _=>none
end Go.Vm
