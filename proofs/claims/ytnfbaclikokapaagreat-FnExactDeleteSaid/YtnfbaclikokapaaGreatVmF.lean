/- A part. -/
import Derived.Test.YtnfbaclikokapaaGreatVmC
import Derived.WalkLawsBesides
import Derived.OpenShut
import Derived.Laws.StructEq
import Derived.ChangeKeysEq
import Derived.Laws.BytesArg
set_option linter.unusedSimpArgs false
set_option linter.unusedVariables false
namespace Go.Vm
open Go.RowKit
def X7 (k:IntKind) (x y:Int):Int:=((BitVec.ofInt k.bits x &&& BitVec.ofInt k.bits y).toNat:Int)
def orK (k:IntKind) (x y:Int):Int:=((BitVec.ofInt k.bits x ||| BitVec.ofInt k.bits y).toNat:Int)
def AEb (op:BinOp) (k:IntKind) (x y:Int):Option Value:=match op with
 | .add=>some (.int k (k.wrap (x+y)))
 | .sub=>some (.int k (k.wrap (x-y)))
 | .mul=>some (.int k (k.wrap (x*y)))
 | .quo=>if y=0 then none else some (.int k (k.wrap (x.tdiv y)))
 | .rem=>if y=0 then none else some (.int k (k.wrap (x.tmod y)))
 | .and=>some (.int k (k.wrap (X7 k x y)))
 | .or=>some (.int k (k.wrap (orK k x y)))
 | .eql=>some (.bool (x==y))
 | .neq=>some (.bool (x != y))
 | .lss=>some (.bool (decide (x<y)))
 | .leq=>some (.bool (decide (x≤y)))
 | .gtr=>some (.bool (decide (x>y)))
 | .geq=>some (.bool (decide (x≥y)))
 | _=>none
def AEc (op:BinOp) (x y:ByteArray):Option Value:=match op with
 | .add=>if x.size+y.size≤maxLen then some (.string (x++y)) else none
 | .eql=>some (.bool (x.toList==y.toList))
 | .neq=>some (.bool (!(x.toList==y.toList)))
 | .lss=>some (.bool (Op.bytesLess x.toList y.toList))
 | .leq=>some (.bool (Op.bytesLess x.toList y.toList||x.toList==y.toList))
 | .gtr=>some (.bool (!(Op.bytesLess x.toList y.toList||x.toList==y.toList)))
 | .geq=>some (.bool (!(Op.bytesLess x.toList y.toList)))
 | _=>none
def ACZ (P:Program) (op:BinOp) (T:TypeId) (a b:Value):Option Value:=match a,b with
 | .int k x,.int k' y=>match op with
  | .shl=>if y<0 then none else some (.int k (k.wrap (x*2 ^ min y.toNat k.bits)))
  | .shr=>if y<0 then none else some (.int k (k.wrap (x.fdiv (2 ^ min y.toNat k.bits))))
  | op=>if k=k' then AEb op k x y else none
 | .string x,.string y=>AEc op x y
 | .bool x,.bool y=>match P.underlying T with
  | some .bool=>(match op with
   | .eql=>some (.bool (x==y))
   | .neq=>some (.bool (!(x==y)))
   | _=>none)
  | _=>none
 | _,_=>none
theorem JW {k:IntKind} {n:Int} (h:(Lit.int k n).wf=true):k.wrap n=n:=by
 simp only[Lit.wf,ak,bf] at h
 obtain⟨h1,h2⟩:=h
 unfold IntKind.wrap
 cases k<;>simp[IntKind.min,IntKind.max,IntKind.bits,IntKind.signed] at * <;> omega
theorem ACa {k:IntKind} {x y:Int} (h:(Lit.int k x).wf=true):(Lit.int k (x.tmod y)).wf=true:=by
 have h2:(x.tmod y).natAbs≤x.natAbs:=by
  rw[Int.natAbs_tmod]; exact Nat.mod_le _ _
 have h3:0≤x→0≤x.tmod y:=fun h=>Int.tmod_nonneg y h
 have h6:x≤0→x.tmod y≤0:=fun h=>by
  have:=Int.tmod_nonneg (a:=-x) y (by omega)
  simp_all
 have h4:x.tmod y≤x∨x.tmod y≤ -x:=by omega
 have h5:x≤x.tmod y∨ -x≤x.tmod y:=by omega
 generalize x.tmod y=z at *
 clear h2
 simp only[Lit.wf,ak,bf] at *
 cases k<;>simp[IntKind.min,IntKind.max,IntKind.bits,IntKind.signed] at * <;> omega
theorem ACb {k:IntKind} {x:Int} {n:Nat} (h:(Lit.int k x).wf=true):(Lit.int k (x.fdiv (2 ^ n))).wf=true:=by
 have hp:(1:Int)≤2 ^ n:=by
  have:(0:Int)<2 ^ n:=Int.pow_pos (by decide)
  omega
 have e:x.fdiv (2 ^ n)=x/(2 ^ n):=by
  rw[aaL _ (by omega)]
 have h1:0≤x→0≤x/(2 ^ n)∧x/(2 ^ n)≤x:=fun hx=>⟨Int.ediv_nonneg hx (by omega),Int.ediv_le_self _ hx⟩
 have h2:x<0→x≤x/(2 ^ n)∧x/(2 ^ n)<0:=fun hx=>by
  refine⟨?_,Int.ediv_neg_of_neg_of_pos hx (by omega)⟩
  rw[Int.le_ediv_iff_mul_le (by omega)]
  have h:=aaY (show 0≤ -x by omega) (show (0:Int)≤2 ^ n-1 by omega)
  grind
 rw[e]
 simp only[Lit.wf,ak,bf] at *
 cases k<;>simp[IntKind.min,IntKind.max,IntKind.bits,IntKind.signed] at * <;> omega
theorem ACc {P:Program} {op:BinOp} {T:TypeId} {a b r:Value} (ha:O9 a=true) (h:ACZ P op T a b=some r) (x y:Operand) (w:World) :
  (do eqGuard op T x y a b; binOp op T a b:Sem Value).run P w = .ok r w∧O9 r=true:=by
 unfold ACZ at h
 split at h
 ·rename_i k x' k' y'
  have hg:(eqGuard op T x y (.int k x') (.int k' y')).run P w = .ok () w:=by
   unfold eqGuard; cases op<;>simp
  simp only[Sem.run_bind,hg,Result.andThen_ok]
  simp only[O9] at ha
  split at h
  ·split at h
   ·cases h
   ·simp only[ah] at h; subst h
    rename_i hy
    refine⟨?_,by simp only[O9]; exact Go.wf_wrap _ _⟩
    simp[binOp,Op.shift,hy]
  ·split at h
   ·cases h
   ·simp only[ah] at h; subst h
    rename_i hy
    refine⟨?_,by simp only[O9]; exact Go.wf_wrap _ _⟩
    have:=JW (ACb (n:=min y'.toNat k.bits) ha)
    simp[binOp,Op.shift,hy,this]
  ·split at h
   ·rename_i hn1 hn2 hk
    subst hk
    unfold AEb at h
    cases op<;>simp only[ah] at h<;>first
     | (cases h; done)
     | (subst h; refine⟨by simp[binOp,Op.intArith,Op.intCmp,Op.intBits,X7,orK], ?_⟩; first | rfl | exact Go.wf_wrap _ _)
     | (
       split at h
       ·cases h
       ·simp only[ah] at h; subst h
        rename_i hy
        refine⟨?_,by simp only[O9]; exact Go.wf_wrap _ _⟩
        have:=JW (ACa (y:=y') ha)
        simp[binOp,Op.intDiv,hy,this])
     | skip
   ·cases h
 ·rename_i x' y'
  have hg:(eqGuard op T x y (.string x') (.string y')).run P w = .ok () w:=by
   unfold eqGuard; cases op<;>simp
  simp only[Sem.run_bind,hg,Result.andThen_ok]
  unfold AEc at h
  cases op<;>simp only[ah] at h<;>first
   | (cases h; done)
   | (subst h; refine⟨by simp[binOp,Op.stringOp],rfl⟩)
   | (
     split at h
     ·rename_i hs
      simp only[ah] at h; subst h
      have hs':¬ (IntKind.i64.max<((x'.size+y'.size:Nat):Int)):=by simp only[maxLen] at hs; simp[IntKind.max,IntKind.signed,IntKind.bits]; omega
      refine⟨?_, ?_⟩
      ·simp only[binOp,Op.stringOp,gt_iff_lt,aV hs',Sem.run_pure]
      ·simp only[O9,bf]; grind
     ·cases h)
 ·rename_i x' y'
  have hg:(eqGuard op T x y (.bool x') (.bool y')).run P w = .ok () w:=by
   unfold eqGuard; cases op<;>simp
  simp only[Sem.run_bind,hg,Result.andThen_ok]
  split at h
  ·rename_i hu
   cases op<;>simp only[ah] at h<;>first
    | (cases h; done)
    | (
      subst h
      refine⟨?_,rfl⟩
      have he:(Op.equal T (.bool x') (.bool y')).run P w = .ok (x'==y') w:=by
       unfold Op.equal Op.maxDepth
       rw[Op.equalIn]
       simp[run_underlying hu]
      first
       | (show ((do pure (.bool (← Op.equal T (.bool x') (.bool y')))):Sem Value).run P w=_; simp_all)
       | (show ((do pure (.bool (!(← Op.equal T (.bool x') (.bool y'))))):Sem Value).run P w=_; simp_all))
  ·cases h
 ·cases h
def aUn (op:UnOp) (a:Value):Option Value:=match op,a with
 | .neg,.int k n=>some (.int k (k.wrap (0-n)))
 | .not,.bool b=>some (.bool !b)
 | _,_=>none
theorem AEd {P:Program} {op:UnOp} {a r:Value} (h:aUn op a=some r) (w:World):(Op.unary op a).run P w = .ok r w∧O9 r=true:=by
 unfold aUn at h
 split at h<;>(try simp only[ah] at h)<;>first
  | (subst h; exact⟨by simp[Op.unary,Op.intArith],by simp only[O9]; exact Go.wf_wrap _ _⟩)
  | (subst h; exact⟨by simp[Op.unary],rfl⟩)
  | cases h
inductive Kd where
 | bool
 | int (k:IntKind)
 | str
def AAu (P:Program) (t:TypeId):Option Kd:=match P.underlying t with
 | some .bool=>some .bool
 | some (.int k)=>some (.int k)
 | some .string=>some .str
 | _=>none
def flatK (P:Program):List Field→Nat→Option (List Kd)
 | [],_=>some []
 | f::fs,i=>match AAu P f.type,flatK P fs (i+1) with
  | some k, some ks => if f.offset = i ∧ f.name ≠ "_" then some (k :: ks) else none
  | _,_=>none
def XB (P:Program) (T:TypeId):Option (List Kd):=match P.underlying T with
 | some (.struct fs)=>if P.eqGuardType P.depth T=false∧P.stoodInHeld T=false then flatK P fs.toList 0 else none
 | _=>none
def Gs:Kd→Cl→Cl→Option Bool
 | .bool,.v (.bool a),.v (.bool b)=>some (a==b)
 | .int k,.v (.int k1 a),.v (.int k2 b)=>if k1=k∧k2=k then some (a==b) else none
 | .str,.v (.string a),.v (.string b)=>some (a.toList==b.toList)
 | _,_,_=>none
def Dc:List Kd→List Cl→List Cl→Option Bool
 | [],[],[]=>some true
 | k::ks,c::cs,d::ds=>match Gs k c d,Dc ks cs ds with
  | some b,some r=>some (b&&r)
  | _,_=>none
 | _,_,_=>none
theorem su {P:Program} {t:TypeId} {k:Kd} (h:AAu P t=some k):P.plainKey t=true:=by
 unfold AAu at h
 unfold Program.plainKey
 grind
theorem AEe {P:Program} {w:World} {t:TypeId} {k:Kd} {c d:Cl} {b:Bool} (hk:AAu P t=some k) (h:Gs k c d=some b) (n:Nat):∃ x y,c = .v x∧d = .v y∧(Op.equalIn (n+1) t x y).run P w = .ok b w:=by
 unfold Gs at h
 unfold AAu at hk
 split at h
 ·grind [ah,run_equalIn_bool]
 ·rename_i q k1 a k2 a'
  split at h
  ·rename_i hkk
   obtain⟨rfl,rfl⟩:=hkk
   simp only[ah] at h
   subst h
   split at hk<;>simp_all
   rename_i hu
   simp[Op.equalIn,run_underlying hu]
  ·cases h
 ·rename_i a a'
  simp only[ah] at h
  subst h
  split at hk<;>simp_all
  rename_i hu
  rw[← beq_toListBytes]
  simp[Op.equalIn,run_underlying hu]
 ·cases h
theorem Vq {P:Program} {w:World} (n:Nat) {us vs:List Value}:∀ (fs:List Field) (i:Nat) (ks:List Kd) (cs ds:List Cl) (r:Bool),flatK P fs i=some ks→Dc ks cs ds=some r →
  (∀ (k:Nat) (x:Value),cs[k]?=some (.v x)→us[i+k]?=some x)→(∀ (k:Nat) (x:Value),ds[k]?=some (.v x)→vs[i+k]?=some x)→(Op.eqFields (n+1) us.toArray vs.toArray fs).run P w = .ok r w
 | [],i,ks,cs,ds,r,hf,hb,hu,hv=>by
  simp only[flatK,ah] at hf
  subst hf
  unfold Dc at hb
  split at hb
  ·simp only[ah] at hb
   subst hb
   simp[Op.eqFields]
  ·rename_i he; cases he
  ·cases hb
 | f::fs,i,ks,cs,ds,r,hf,hb,hu,hv=>by
  simp only[flatK] at hf
  split at hf
  ·rename_i k ks' hk hks
   split at hf
   ·rename_i hc
    obtain⟨hoff,hname⟩:=hc
    simp only[ah] at hf
    subst hf
    cases cs with
    | nil=>simp[Dc] at hb
    | cons c cs =>
     cases ds with
     | nil=>simp[Dc] at hb
     | cons d ds =>
      simp only[Dc] at hb
      split at hb
      ·rename_i b r' hb1 hb2
       simp only[ah] at hb
       subst hb
       obtain⟨x,y,rfl,rfl,heq⟩:=AEe (w:=w) hk hb1 n
       have hp:=su hk
       have p1:(part f.type us.toArray f.offset).run P w = .ok x w:=run_part_plain w hp (by rw[hoff]; simpa using hu 0 x rfl)
       have p2:(part f.type vs.toArray f.offset).run P w = .ok y w:=run_part_plain w hp (by rw[hoff]; simpa using hv 0 y rfl)
       have ih:=Vq (w:=w) n fs (i+1) ks' cs ds r' hks hb2 (fun k z hz=>by
        have:=hu (k+1) z (by simpa using hz)
        rwa [show i+(k+1)=i+1+k by omega] at this) (fun k z hz=>by
        have:=hv (k+1) z (by simpa using hz)
        rwa [show i+(k+1)=i+1+k by omega] at this)
       simp only[Op.eqFields,hname,ne_eq,not_false_eq_true,bD,Sem.run_bind,p1,p2,heq,Result.andThen_ok,Sem.run_ite]
       cases b with
       | true=>simpa using ih
       | false=>simp
      ·cases hb
   ·cases hf
  ·cases hf
theorem nT {P:Program} {w:World} {T:TypeId} {ks:List Kd} {cs ds:List Cl} {r:Bool} {us vs:List Value} (hs:XB P T=some ks) (hb:Dc ks cs ds=some r) (hu:∀ (k:Nat) (x:Value),cs[k]?=some (.v x)→us[k]?=some x) (hv:∀ (k:Nat) (x:Value),ds[k]?=some (.v x)→vs[k]?=some x) (x y:Operand) :
  (do eqGuard .eql T x y (.agg us.toArray) (.agg vs.toArray); binOp .eql T (.agg us.toArray) (.agg vs.toArray):Sem Value).run P w = .ok (.bool r) w ∧
   (do eqGuard .neq T x y (.agg us.toArray) (.agg vs.toArray); binOp .neq T (.agg us.toArray) (.agg vs.toArray):Sem Value).run P w = .ok (.bool (!r)) w:=by
 unfold XB at hs
 split at hs
 ·rename_i fs hut
  split at hs
  ·rename_i hc
   obtain⟨hg,hst⟩:=hc
   have hfo:P.fieldsOf T=fs:=by simp[Program.fieldsOf,hut]
   have heq:(Op.equal T (.agg us.toArray) (.agg vs.toArray)).run P w = .ok r w:=by
    unfold Op.equal Op.maxDepth
    rw[run_equalIn_struct w 9999 T us.toArray vs.toArray (by grind) hst,hfo]
    exact Vq 9998 fs.toList 0 ks cs ds r hs hb (fun k x hx=>by grind) (fun k x hx=>by grind)
   constructor
   ·simp[eqGuard,run_program,hg,binOp,heq]
   ·simp[eqGuard,run_program,hg,binOp,heq]
  ·cases hs
 ·cases hs
def NF (row:List Cl) (off n:Nat) (g:Bool):Option AV:=
 if g then(if off+n≤row.length then some (.agg ((row.drop off).take n)) else none)
 else match row[off]? with
  | some c=>some (.c c)
  | none=>none
def JJ:AV→Bool
 | .c x=>!E8 x
 | .agg xs=>xs.all fun c=>!E8 c
 | _=>true
def TT (x:AV):Option Nat:=match x with
 | .c (.v (.int _ n))=>if 0≤n then some n.toNat else none
 | _=>none
def ADj (t:Bool) (x y:AV):AV:=match t with
 | true=>x
 | false=>y
def PY:List (List Cl)→Option (List Int)
 | []=>some []
 | [.v (.int .u8 n)]::r=>match PY r with
  | some ns=>some (n::ns)
  | none=>none
 | _::_=>none
def Hr (P:Program) (s:MS) (op:Op):Option AV:=match op with
 | .move x=>some (EC s x)
 | .assign x=>some (EC s x)
 | .pick c x y=>match EC s c with
  | .c (.v (.bool t))=>some (ADj t (EC s x) (EC s y))
  | _=>none
 | .load T a=>match AZ P T,BR P T with
  | some n,some g=>match EC s a with
   | .lp l i off=>match CO s.st l with
    | some ob=>match ob.xs[i]? with
     | some row=>match NF row off n g with
      | some y=>if JJ y=true then some y else none
      | none=>none
     | none=>none
    | none=>none
   | .ip row=>NF row 0 n g
   | _=>none
  | _,_=>none
 | .nilCheck x=>match EC s x with
  | .lp l i off=>match CO s.st l with
   | some _=>some (.lp l i off)
   | none=>none
  | .ip row=>some (.ip row)
  | .c (.v (.func (.func f) a b))=>some (.c (.v (.func (.func f) a b)))
  | _=>none
 | .binOp op T x y _=>match EC s x,EC s y with
  | .c (.v a),.c (.v b)=>match ACZ P op T a b with
   | some r=>some (.c (.v r))
   | none=>none
  | .agg cs,.agg ds=>match XB P T with
   | some ks=>match Dc ks cs ds with
    | some r=>match op with
     | .eql=>some (.c (.v (.bool r)))
     | .neq=>some (.c (.v (.bool (!r))))
     | _=>none
    | none=>none
   | none=>none
  | _,_=>none
 | .unOp op _ x=>match EC s x with
  | .c (.v a)=>match aUn op a with
   | some r=>some (.c (.v r))
   | none=>none
  | _=>none
 | .convert src dst x=>match P.underlying src,P.underlying dst,EC s x with
  | some _,some (.int k),.c (.v (.int _ n))=>some (.c (.v (.int k (k.wrap n))))
  | some _,some .string,.c (.v (.string b))=>some (.c (.v (.string b)))
  | some (.slice e),some .string,.c d=>match P.underlying e,Q7 s.st d with
   | some (.int .u8),some xs=>match PY xs with
    | some ns=>some (.c (.v (.string (strOfNums ns))))
    | none=>none
   | _,_=>none
  | _,_,_=>none
 | .fieldAddr T x f=>match AB P T f with
  | some (fo,ft)=>match AZ P ft with
   | some (_+1)=>match EC s x with
    | .lp l i off=>match CO s.st l with
     | some _=>some (.lp l i (off+fo))
     | none=>none
    | .ip row=>some (.ip (row.drop fo))
    | _=>none
   | _=>none
  | none=>none
 | .field T x f=>match AB P T f with
  | some (fo,ft)=>match AZ P ft,BR P ft,EC s x with
   | some n,some g,.agg row=>NF row fo n g
   | _,_,_=>none
  | none=>none
 | .indexAddr T x ix=>match DZ P T with
  | some e=>match AZ P e,TT (EC s ix) with
   | some n,some k=>match EC s x with
    | .c (.sl xs)=>match xs[k]? with
     | some row=>if row.length=n then some (.ip row) else none
     | none=>none
    | .c (.ref l)=>match CO s.st l with
     | some ob=>if k<ob.xs.length∧ob.sz=n then some (.lp l k 0) else none
     | none=>none
    | _=>none
   | _,_=>none
  | none=>none
 | .index T x ix=>match P.underlying T with
  | some .string=>match EC s x,TT (EC s ix) with
   | .c (.v (.string b)),some k=>match b[k]? with
    | some c=>some (.c (.v (.int .u8 c.toNat)))
    | none=>none
   | _,_=>none
  | _=>none
 | .extract x ix=>match EC s x with
  | .tup xs=>xs[ix]?
  | _=>none
 | .call c=>match c.callee with
  | .builtin .len=>match c.argTypes.toList,c.args.toList with
   | [t],[x]=>match P.underlying t,EC s x with
    | some .string,.c (.v (.string b))=>some (.c (.v (.int .i64 b.size)))
    | some (.slice _),.c d=>match Q7 s.st d with
     | some xs=>some (.c (.v (.int .i64 xs.length)))
     | none=>none
    | _,_=>none
   | _,_=>none
  | .builtin .min=>match c.args.toList with
   | [x,y]=>match EC s x,EC s y with
    | .c (.v (.int .i64 a)),.c (.v (.int .i64 b))=>some (.c (.v (.int .i64 (if b<a then b else a))))
    | _,_=>none
   | _=>none
  | .builtin .max=>match c.args.toList with
   | [x,y]=>match EC s x,EC s y with
    | .c (.v (.int .i64 a)),.c (.v (.int .i64 b))=>some (.c (.v (.int .i64 (if a<b then b else a))))
    | _,_=>none
   | _=>none
  | _=>none
 | _=>none
theorem addr_add (b o j:Nat):(⟨b,o,none⟩:Addr).add j=⟨b,o+j,none⟩:=by
 unfold Addr.add; grind
theorem Ko {R:Cl→Value→Prop} {w:World} {b:Nat}:∀ (xs:List Cl) (o:Nat),(∀ (j:Nat) (c:Cl),xs[j]?=some c→∃ u,w.cell? ⟨b,o+j,none⟩=some u∧R c u) →
  ∃ us:List Value,us.length=xs.length∧∀ (j:Nat) (c:Cl),xs[j]?=some c→∃ u,us[j]?=some u∧w.cell? ⟨b,o+j,none⟩=some u∧R c u
 | [],_,_=>⟨[],rfl,fun j c h=>by simp at h⟩
 | x::xs,o,h=>by
  obtain⟨us,h1,h2⟩:=Ko xs (o+1) fun j c hj=>by
   have:=h (j+1) c (by grind)
   rwa [show o+(j+1)=o+1+j by omega] at this
  obtain⟨u,hu⟩:=h 0 x rfl
  refine⟨u::us,by simp[h1],fun j c hj=>?_⟩
  grind
section
variable {P:Program} {w:World} {St:Nat→Nat→Prop} {st:List Ob} {β:Nat→Option Nat}
theorem yc {row:List Cl} {off n:Nat} {g:Bool} {x:AV} (h:∀ (j:Nat) (c:Cl),row[j]?=some c→E8 c=false) (hx:NF row off n g=some x):JJ x=true:=by
 unfold NF at hx
 cases g with
 | true =>
  simp only[bD] at hx
  split at hx
  ·simp only[ah] at hx
   subst hx
   simp only[JJ,aF]
   grind [aa7,aaJ,yR]
  ·cases hx
 | false =>
  simp only[aC,aT] at hx
  split at hx
  ·rename_i c hc
   simp only[ah] at hx
   subst hx
   simp[JJ,h _ c hc]
  ·cases hx
theorem wF {row:List Cl} {b o off n:Nat} {g:Bool} {T:TypeId} {x:AV} (hcells:∀ (j:Nat) (c:Cl),row[j]?=some c→∃ u,w.cell? ⟨b,o+j,none⟩=some u∧RdB w St st β c u)
  (hs:AZ P T=some n) (hg:BR P T=some g) (hx:NF row off n g=some x) (hno:JJ x=true) :
  ∃ v,(Instr.loadAt T (.pointer (some ⟨b,o+off,none⟩))).run P w = .ok v w∧AVR w St st β x v:=by
 unfold NF at hx
 cases g with
 | true =>
  simp only[bD] at hx
  split at hx
  ·rename_i hle
   simp only[ah] at hx
   subst hx
   obtain⟨us,h1,h2⟩:=Ko (R:=RdC w St st β) (w:=w) (b:=b) ((row.drop off).take n) (o+off) (fun j c hj=>by
    rw[yS] at hj
    split at hj
    ·rw[aba] at hj
     obtain⟨u,hu,hr⟩:=hcells _ c hj
     rw[show o+(off+j)=o+off+j by omega] at hu
     refine⟨u,hu,hr.toC ?_⟩
     simp only[JJ,aF] at hno
     have hcm:=hno c (aY (i:=j) (by grind))
     grind
    ·cases hj)
   have hlen:us.length=n:=by rw[h1]; simp; omega
   have hl:(loadCells ⟨b,o+off,none⟩ us.length).run P w = .ok us.toArray w:=
    run_loadCells_list (P:=P) w ⟨b,o+off,none⟩ us (fun j v hv=>by
     rw[addr_add]
     have hj:j<((row.drop off).take n).length:=by
      rw[← h1]
      rcases bI j us.length with h' | h'
      ·exact h'
      ·grind
     obtain⟨u,hu1,hu2,_⟩:=h2 j _ (aA hj)
     grind)
   refine⟨.agg us.toArray, ?_, ?_⟩
   ·rw[hlen] at hl
    simp[Instr.loadAt,Instr.sureAddr,loadVar,TR hg,Ha hs,hl]
   ·simp only[AVR]
    grind
  ·cases hx
 | false =>
  simp only[aC,aT] at hx
  split at hx
  ·rename_i c hc
   simp only[ah] at hx
   subst hx
   obtain⟨u,hu1,hu2⟩:=hcells off c hc
   have hu3:=hu2.toC (by simpa [JJ] using hno)
   refine⟨u, ?_,by simpa only[AVR] using hu3⟩
   simp[Instr.loadAt,Instr.sureAddr,loadVar,TR hg,hu1]
  ·cases hx
theorem ACd {row:List Cl} {us:List Value} {off n:Nat} {g:Bool} {T:TypeId} {x:AV} (hl:us.length=row.length) (hcells:∀ (j:Nat) (c:Cl),row[j]?=some c→∃ u,us[j]?=some u∧RdC w St st β c u)
  (hs:AZ P T=some n) (hg:BR P T=some g) (hx:NF row off n g=some x) :
  ∃ v,(part T us.toArray off).run P w = .ok v w∧AVR w St st β x v:=by
 unfold NF at hx
 cases g with
 | true =>
  simp only[bD] at hx
  split at hx
  ·rename_i hle
   simp only[ah] at hx
   subst hx
   refine⟨.agg (us.toArray.extract off (off+n)),by simp[part,TR hg,Ha hs], ?_⟩
   simp only[AVR]
   grind
  ·cases hx
 | false =>
  simp only[aC,aT] at hx
  split at hx
  ·rename_i c hc
   simp only[ah] at hx
   subst hx
   obtain⟨u,hu1,hu2⟩:=hcells off c hc
   refine⟨u, ?_,by simpa only[AVR] using hu2⟩
   simp[part,TR hg,hu1]
  ·cases hx
theorem ig:∀ {xs:List AV} {us:List Value},AVRs w St st β xs us→∀ (j:Nat) (x:AV),xs[j]?=some x→∃ u,us[j]?=some u∧AVR w St st β x u
 | [],_,_,j,x,h=>by simp at h
 | x0::xs,us,h,j,x,hj=>by
  simp only[AVRs] at h
  obtain⟨y,ys,rfl,h1,h2⟩:=h
  cases j with
  | zero=>simp at hj; subst hj; exact⟨y,rfl,h1⟩
  | succ j=>simpa using ig h2 j x (by simpa using hj)
theorem ik {x:AV} {u:Value} {k:Nat} (h:AVR w St st β x u) (hk:TT x=some k):∃ kd,u = .int kd (k:Int):=by
 unfold TT at hk
 split at hk
 ·rename_i kd n
  split at hk
  ·rename_i hn
   simp only[ah] at hk
   simp only[AVR,RdC,RdD] at h
   grind
  ·cases hk
 ·cases hk
theorem Nb {v u:Value} (h:AVR w St st β (.c (.v v)) u):u=v∧O9 v=true:=by
 simp only[AVR,RdC,RdD] at h
 omega
theorem U2 {v:Value} (h:O9 v=true):AVR w St st β (.c (.v v)) v:=by
 simp only[AVR,RdC,RdD]
 grind
end
theorem ACe (c:UInt8):O9 (.int .u8 (c.toNat:Int))=true:=by
 have:=c.toNat_lt
 simp[O9,Lit.wf,IntKind.min,IntKind.max,IntKind.signed,IntKind.bits]; omega
theorem AAv {n:Nat} (h:n≤maxLen):O9 (.int .i64 (n:Int))=true:=by
 simp only[maxLen] at h
 simp[O9,Lit.wf,IntKind.min,IntKind.max,IntKind.signed,IntKind.bits]; omega
theorem nU {w0:Bs} {St0 St:Nat→Nat→Prop} {β:Nat→Option Nat} {s:MS} {a:Act} {w:World} (_:Core w0 St0 St β s a w) {d:Cl} {u:Value} {xs:List (List Cl)} (hd:RdC w St s.st β d u) (hx:Q7 s.st d=some xs) :
  ∃ ad cap,u = .slice ad xs.length cap∧xs.length≤cap∧cap≤maxLen:=by
 unfold Q7 at hx
 split at hx
 ·simp only[ah] at hx
  subst hx
  simp only[RdC,RdD] at hd
  grind
 ·cases hx
 ·simp only[ah] at hx
  subst hx
  simp only[RdC,RdD] at hd
  grind
 ·rename_i l
  cases ho:CO s.st l with
  | none=>grind
  | some ob =>
   simp only[ho,bP,ah] at hx
   subst hx
   obtain⟨hl,hlive⟩:=Aw ho
   simp only[RdC,A_,hl] at hd
   grind
 ·cases hx
theorem wG {w0:Bs} {St0 St:Nat→Nat→Prop} {β:Nat→Option Nat} {s:MS} {a:Act} {w:World} (h:Core w0 St0 St β s a w) {l i off:Nat} {u:Value} {ob:Ob} (hu:AVR w St s.st β (.lp l i off) u) (ho:CO s.st l=some ob) :
  ∃ b cs,β l=some b∧u = .pointer (some ⟨b,i*ob.sz+off,none⟩)∧w.heap[b]?=some (.cells cs ob.ty (0,0))∧(∀ x∈ob.xs,x.length=ob.sz) ∧
   (∀ (k:Nat) (c:Cl),ob.xs.flatten[k]?=some c→∃ u,cs[k]?=some u∧RdB w St s.st β c u):=by
 obtain⟨hl,hlive⟩:=Aw ho
 simp only[AVR,hl] at hu
 obtain⟨b,hb,rfl⟩:=hu hlive
 obtain⟨_,_,cs,g1,g2,g3⟩:=h.obs l ob b hl hlive hb
 grind
theorem yf {w:World} {St:Nat→Nat→Prop} {st:List Ob} {β:Nat→Option Nat} {ob:Ob} {b:Nat} {cs:Array Value} (g1:w.heap[b]?=some (.cells cs ob.ty (0,0))) (g2:∀ x∈ob.xs,x.length=ob.sz)
  (g3:∀ (k:Nat) (c:Cl),ob.xs.flatten[k]?=some c→∃ u,cs[k]?=some u∧RdB w St st β c u) {i:Nat} {row:List Cl} (hi:ob.xs[i]?=some row) :
  ∀ (j:Nat) (c:Cl),row[j]?=some c→∃ u,w.cell? ⟨b,i*ob.sz+j,none⟩=some u∧RdB w St st β c u:=fun j c hj=>by
 obtain⟨u,hu,hc⟩:=g3 _ c (EL g2 i j row c hi hj)
 exact⟨u,by simp[World.cell?,g1,hu],hc⟩
theorem RdD.toC {w:World} {St:Nat→Nat→Prop} {st:List Ob} {β:Nat→Option Nat} {c:Cl} {u:Value} (h:RdD w St c u):RdC w St st β c u:=by
 cases c with
 | ref l=>simp[RdD] at h
 | v x=>exact h
 | sl xs=>exact h
 | ow ty sz xs=>simp[RdD] at h
theorem Rl {w0:Bs} {St0 St:Nat→Nat→Prop} {β:Nat→Option Nat} {s:MS} {a:Act} {w:World} (h:Core w0 St0 St β s a w) {d:Cl} {u:Value} {xs:List (List Cl)} (hd:RdC w St s.st β d u) (hx:Q7 s.st d=some xs) :
  ∃ ad cap,u = .slice ad xs.length cap∧(∃ sz,∀ x∈xs,x.length=sz)∧(xs = []∨∃ b off,ad=some ⟨b,off,none⟩∧∀ (k:Nat) (c:Cl),xs.flatten[k]?=some c→∃ v,w.cell? ⟨b,off+k,none⟩=some v∧RdB w St s.st β c v):=by
 unfold Q7 at hx
 split at hx
 ·simp only[ah] at hx
  subst hx
  simp only[RdC,RdD] at hd
  simp_all
 ·cases hx
 ·simp only[ah] at hx
  subst hx
  simp only[RdC,RdD] at hd
  obtain⟨ad,cap,h1,h2,h3,⟨sz,h4⟩,h5⟩:=hd
  refine⟨ad,cap,h1,⟨sz,h4⟩, ?_⟩
  rcases h5 with rfl | ⟨b,off,rfl,h6⟩
  ·grind
  ·refine .inr ⟨b,off,rfl, ?_⟩
   have key:∀ (xs:List (List Cl)) (off:Nat),RdE w St xs b off→∀ (k:Nat) (c:Cl),xs.flatten[k]?=some c→∃ v,w.cell? ⟨b,off+k,none⟩=some v∧RdB w St s.st β c v:=by
    intro xs
    induction xs with
    | nil=>grind
    | cons x xs ih =>
     intro off hr k c hk
     simp only[RdE] at hr
     simp only[bT] at hk
     rcases bI k x.length with h' | h'
     ·rw[aZ h'] at hk
      obtain⟨_,v,hv,hc⟩:=hr.1.at k c hk
      exact⟨v,hv,hc.toC.toB⟩
     grind
   grind
 ·rename_i l
  cases ho:CO s.st l with
  | none=>grind
  | some ob =>
   simp only[ho,bP,ah] at hx
   subst hx
   obtain⟨hl,hlive⟩:=Aw ho
   simp only[RdC,A_,hl] at hd
   have h2:=hd.2 hlive
   split at h2
   ·simp_all
   ·rename_i b hb
    obtain⟨cap,cs,h1,h3,h4,_⟩:=h2
    obtain⟨_,_,cs',g1,g2,g3⟩:=h.obs l ob b hl hlive hb
    refine⟨_,cap,h1,⟨ob.sz,g2⟩,.inr ⟨b,0,rfl,fun k c hk=>?_⟩⟩
    obtain⟨v,hv,hc⟩:=g3 k c hk
    exact⟨v,by simp[World.cell?,g1,hv],hc⟩
 ·cases hx
theorem dN:∀ {xs:List (List Cl)} {ns:List Int},PY xs=some ns→ns.length=xs.length∧∀ (k:Nat) (n:Int),ns[k]?=some n→xs.flatten[k]?=some (.v (.int .u8 n))
 | [],ns,h=>by
  simp only[PY,ah] at h
  subst h
  exact⟨rfl,fun k n hk=>by simp at hk⟩
 | x::r,ns,h=>by
  unfold PY at h
  split at h
  ·rename_i he; cases he
  ·rename_i n r' he
   cases he
   split at h
   ·rename_i ns' h'
    simp only[ah] at h
    subst h
    obtain⟨q1,q2⟩:=dN h'
    refine⟨by simp[q1],fun k m hk=>?_⟩
    cases k with
    | zero=>simp only[aB,ah] at hk; subst hk; rfl
    | succ k=>simpa using q2 k m (by simpa using hk)
   ·cases h
  ·cases h
end Go.Vm
