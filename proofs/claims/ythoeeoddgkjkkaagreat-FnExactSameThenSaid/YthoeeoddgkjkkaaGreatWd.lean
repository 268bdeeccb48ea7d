/- Plain law: columns of values in bytes: runs, dictionaries, frames; both ways to read them say the same. -/
import Derived.Test.YthoeeoddgkjkkaaGreatWb
import Derived.Test.YthoeeoddgkjkkaaGreatAa
import Derived.Test.YthoeeoddgkjkkaaGreatAx
namespace Go.Proofs.YthoeeoddgkjkkaaGreat
set_option linter.unusedSimpArgs false
set_option linter.unusedVariables false
open Go.Vm
set_option maxHeartbeats 2000000
theorem again_len {b : List Int} {k : Int} {l l' : List DVal} {e : List Int} (h : again b k l e = some l') : l' = l ∧ 1 ≤ k ∧ k ≤ 64 ∧ (l.length : Int) = k ∧ b = e:=by
 unfold again at h
 split at h
 ·rename_i h1
  simp only [Option.some.injEq] at h
  exact ⟨h.symm,h1⟩
 ·cases h
theorem valOk_ty {v : DVal} (h : valOk v = true) : v.ty = 1 ∨ v.ty = 2:=by
 unfold valOk at h
 split at h
 ·left; assumption
 ·simp only [Bool.and_eq_true,beq_iff_eq] at h
  exact .inr h.1.1.1
theorem typeOf_3 (l : List DVal) : typeOf l = 0 ∨ typeOf l = 1 ∨ typeOf l = 2:=by
 cases l with
 | nil=>exact .inl rfl
 | cons v r =>
  show (if (v :: r).length ≤ 64 ∧ ∀ x ∈ (v :: r),valOk x = true ∧ x.ty = v.ty then v.ty else 0) = 0 ∨ (if (v :: r).length ≤ 64 ∧ ∀ x ∈ (v :: r),valOk x = true ∧ x.ty = v.ty then v.ty else 0) = 1 ∨ (if (v :: r).length ≤ 64 ∧ ∀ x ∈ (v :: r),valOk x = true ∧ x.ty = v.ty then v.ty else 0) = 2
  split
  ·rename_i h
   exact .inr (valOk_ty (h.2 v (by simp)).1)
  ·exact .inl rfl
def runs : List DVal → List (DVal × Int)
 | []=>[]
 | v :: l=>match runs l with
  | []=>[(v,1)]
  | (x,k) :: r=>if eqV v x = true then (x,k + 1) :: r else (v,1) :: (x,k) :: r
def spreadL : List (DVal × Int) → Nat → Option (List DVal)
 | [],_=>some []
 | (v,k) :: r,n=>if k < 1 ∨ k > 64 - n then none else (spreadL r (n + k.toNat)).map fun l=>List.replicate k.toNat v ++ l
def spread (r : List (DVal × Int)) : List DVal:=(spreadL r 0).getD []
noncomputable def encRuns (l : List DVal) : List Int:=if typeOf l = 0 then [] else numB (runs l).length ++ ((runs l).map fun r=>numB r.2 ++ valB r.1).flatten
noncomputable def getRuns (b : List Int) (ty : Int) : Nat → Nat → Option (List (DVal × Int))
 | 0,_=>some []
 | n + 1,p=>match getNum b p with
  | none=>none
  | some (m,q)=>match getVal b q ty with
   | none=>none
   | some (v,q')=>(getRuns b ty n q').map fun r=>(v,m) :: r
noncomputable def decRuns (b : List Int) (ty k : Int) : Option (List DVal):=match getNum b 0 with
 | none=>none
 | some (n,p)=>if 1 ≤ n ∧ n ≤ 64 then match getRuns b ty n.toNat p with
   | none=>none
   | some r=>again b k (spread r) (encRuns (spread r))
  else none
def bitAt (b : List Int) (n : Int) : Int:=if n < 0 then 0 else match b[(n / 8).toNat]? with
 | some c=>c / 2 ^ (n % 8).toNat % 2
 | none=>0
def bytesFor (k w : Int) : Int:=if (0 ≤ k ∧ k ≤ 64) ∧ 0 ≤ w ∧ w ≤ 31 then (k * w + 7) / 8 else 0
def bitsV (b : List Int) (o : Int) : Nat → Int
 | 0=>0
 | j + 1=>bitsV b o j + bitAt b (o + j) * 2 ^ j
noncomputable def unpack (b : List Int) (w k : Int) : Option (List Int) :=
 if ((0 ≤ w ∧ w ≤ 31) ∧ (0 ≤ k ∧ k ≤ 64) ∧ (b.length : Int) = bytesFor k w) ∧ (∀ n ∈ List.range (8 * b.length),k * w ≤ (n : Int) → bitAt b (n : Int) = 0) then some ((List.range k.toNat).map fun (i : Nat)=>bitsV b ((i : Int) * w) w.toNat) else none
theorem unpack_len {b : List Int} {w k : Int} {o : List Int} (h : unpack b w k = some o) : (o.length : Int) = k:=by
 unfold unpack at h
 split at h
 ·rename_i h1
  simp only [Option.some.injEq] at h
  subst h
  simp only [List.length_map,List.length_range]
  omega
 ·cases h
def widL : Nat → Int → Int
 | 0,_=>0
 | f + 1,x=>if x > 0 then widL f (x / 2) + 1 else 0
def widthOf (n : Int) : Int:=if 0 ≤ n ∧ n ≤ 2147483647 then widL 32 n else 0
def widthFor (l : List Int) : Int:=l.foldl (fun w n=>max w (widthOf n)) 0
def packBit (l : List Int) (w : Int) (n : Nat) : Int:=match l[n / w.toNat]? with
 | some x=>x / 2 ^ (n % w.toNat) % 2
 | none=>0
def packByte (l : List Int) (w : Int) (m : Nat) : Nat → Int
 | 0=>0
 | t + 1=>packByte l w m t + packBit l w (8 * m + t) * 2 ^ t
noncomputable def packBits (l : List Int) (w : Int) : List Int :=
 if (0 ≤ w ∧ w ≤ 31) ∧ ∀ n ∈ l,(0 ≤ n ∧ n ≤ 2147483647) ∧ widthOf n ≤ w then (List.range ((l.length * w.toNat + 7) / 8)).map fun m=>packByte l w m 8 else []
def ins (v : DVal) : List DVal → List DVal
 | []=>[v]
 | x :: r=>if lessV x v = true then x :: ins v r else if eqV x v = true then x :: r else v :: x :: r
def dict (l : List DVal) : List DVal:=l.foldl (fun d v=>ins v d) []
theorem ins_len (v : DVal) : ∀ d : List DVal,(ins v d).length ≤ d.length + 1
 | []=>Nat.le_refl _
 | x :: r=>by
  simp only [ins]
  have:=ins_len v r
  repeat' split
  all_goals simp only [List.length_cons]; omega
theorem dict_len (l : List DVal) : (dict l).length ≤ l.length:=by
 have key : ∀ (l d : List DVal),(l.foldl (fun d v=>ins v d) d).length ≤ d.length + l.length:=by
  intro l
  induction l with
  | nil=>intro d; simp
  | cons v l ih =>
   intro d
   have:=ins_len v d
   have:=ih (ins v d)
   simp only [List.foldl_cons,List.length_cons]; omega
 simpa [dict] using key l []
def placeOf (v : DVal) : List DVal → Nat → Option Int
 | [],_=>none
 | x :: r,i=>if eqV x v = true then some (i : Int) else placeOf v r (i + 1)
def places (d : List DVal) : List DVal → Option (List Int)
 | []=>some []
 | v :: l=>match placeOf v d 0,places d l with
  | some i,some r=>some (i :: r)
  | _,_=>none
def picked (d : List DVal) : List Int → Option (List DVal)
 | []=>some []
 | i :: l=>if 0 ≤ i then match d[i.toNat]?,picked d l with
   | some v,some r=>some (v :: r)
   | _,_=>none
  else none
theorem picked_len {d : List DVal} : ∀ {o : List Int} {l : List DVal},picked d o = some l → l.length = o.length
 | [],l,h=>by simp only [picked,Option.some.injEq] at h; subst h; rfl
 | i :: o,l,h=>by
  simp only [picked] at h
  split at h
  ·split at h
   ·rename_i v r h1 h2
    simp only [Option.some.injEq] at h
    subst h
    simp [picked_len h2]
   ·cases h
  ·cases h
noncomputable def encDict (l : List DVal) : List Int:=if typeOf l = 0 then [] else numB (dict l).length ++ (valsB (dict l) ++ packBits ((places (dict l) l).getD []) (widthOf ((dict l).length - 1)))
theorem pnL_free : ∀ (f g : Nat) (x y : Int) (r s : List Int),0 ≤ x → x < 128 ^ (f + 1) → 0 ≤ y → y < 128 ^ (g + 1) → pnL f x ++ r = pnL g y ++ s → x = y:=by
 have hd : ∀ (g : Nat) (y : Int),0 ≤ y → y < 128 ^ (g + 1) → ∃ c t,pnL g y = c :: t ∧ (y < 128 → c = y ∧ t = []) ∧ (y ≥ 128 → ∃ g',g = g' + 1 ∧ c = y % 128 + 128 ∧ t = pnL g' (y / 128)):=by
  intro g y h0 h1
  cases g with
  | zero=>exact ⟨y,[],rfl,fun _=>⟨rfl,rfl⟩,fun h=>by simp at h1; omega⟩
  | succ g =>
   by_cases h : y ≥ 128
   ·exact ⟨_,_,by rw [pnL,if_pos h],fun h2=>by omega,fun _=>⟨g,rfl,rfl,rfl⟩⟩
   ·exact ⟨y,[],by rw [pnL,if_neg h],fun _=>⟨rfl,rfl⟩,fun h2=>by omega⟩
 intro f
 induction f with
 | zero =>
  intro g x y r s hx hx2 hy hy2 h
  obtain ⟨c,t,e1,e2,e3⟩:=hd g y hy hy2
  simp only [Int.pow_succ,Int.pow_zero,Int.one_mul,Nat.zero_add] at hx2
  rw [e1] at h
  simp only [pnL,List.cons_append,List.nil_append,List.cons.injEq] at h
  by_cases h2 : y < 128
  ·have:=(e2 h2).1; omega
  ·obtain ⟨g',_,e4,_⟩:=e3 (by omega)
   omega
 | succ f ih =>
  intro g x y r s hx hx2 hy hy2 h
  obtain ⟨c,t,e1,e2,e3⟩:=hd (f + 1) x hx hx2
  obtain ⟨c',t',d1,d2,d3⟩:=hd g y hy hy2
  rw [e1,d1] at h
  simp only [List.cons_append,List.cons.injEq] at h
  obtain ⟨hc,ht⟩:=h
  by_cases h1 : x < 128
  ·by_cases h2 : y < 128
   ·have:=(e2 h1).1; have:=(d2 h2).1; omega
   ·obtain ⟨g',_,e4,_⟩:=d3 (by omega)
    have:=(e2 h1).1; omega
  ·obtain ⟨f',e5,e6,e7⟩:=e3 (by omega)
   by_cases h2 : y < 128
   ·have:=(d2 h2).1; omega
   ·obtain ⟨g',d5,d6,d7⟩:=d3 (by omega)
    have hf : f' = f:=by omega
    subst hf
    subst d5
    rw [e7,d7] at ht
    have e8 : x / 128 < 128 ^ (f' + 1):=by
     rw [Int.pow_succ] at hx2
     exact Int.ediv_lt_of_lt_mul (by omega) hx2
    have e9 : y / 128 < 128 ^ (g' + 1):=by
     rw [Int.pow_succ] at hy2
     exact Int.ediv_lt_of_lt_mul (by omega) hy2
    have:=ih g' (x / 128) (y / 128) r s (by omega) e8 (by omega) e9 ht
    omega
theorem zig_bd {n : Int} (h : -1000000000 ≤ n) (h2 : n ≤ 1000000000) : 0 ≤ zig n ∧ zig n < 128 ^ 5:=by
 unfold zig
 have : (128 : Int) ^ 5 = 34359738368:=by decide
 split <;> constructor <;> omega
theorem zig_inj {n m : Int} (h : zig n = zig m) : n = m:=by
 unfold zig at h
 split at h <;> split at h <;> omega
theorem numB_free {n m : Int} {r s : List Int} (hn : -1000000000 ≤ n ∧ n ≤ 1000000000) (hm : -1000000000 ≤ m ∧ m ≤ 1000000000) (h : numB n ++ r = numB m ++ s) : n = m :=
 zig_inj (pnL_free 4 4 _ _ r s (zig_bd hn.1 hn.2).1 (zig_bd hn.1 hn.2).2 (zig_bd hm.1 hm.2).1 (zig_bd hm.1 hm.2).2 h)
noncomputable def decDict (b : List Int) (ty k : Int) : Option (List DVal):=match getNum b 0 with
 | none=>none
 | some (n,p)=>if (1 ≤ k ∧ k ≤ 64) ∧ 1 ≤ n ∧ n ≤ k then match getVals b ty n.toNat p with
   | none=>none
   | some (d,q)=>match unpack (b.drop q) (widthOf (n - 1)) k with
    | none=>none
    | some o=>match picked d o with
     | none=>none
     | some l=>if encDict l = b then some l else none
  else none
noncomputable def decDictI (b : List Int) (ty k : Int) : Option (List DVal):=match getNum b 0 with
 | none=>none
 | some (n,p)=>if 1 ≤ n ∧ n ≤ 64 then match getVals b ty n.toNat p with
   | none=>none
   | some (d,q)=>match unpack (b.drop q) (widthOf (n - 1)) k with
    | none=>none
    | some o=>again b k ((picked d o).getD []) (encDict ((picked d o).getD []))
  else none
theorem head_num {b : List Int} (hb : bytesOk b) {n : Int} {p : Nat} (h : getNum b 0 = some (n,p)) : (-1000000000 ≤ n ∧ n ≤ 1000000000) ∧ b = numB n ++ b.drop p ∧ b ≠ []:=by
 obtain ⟨_,h2,h3,h4,h5,h6⟩:=getNum_ok hb h
 refine ⟨⟨h4,h5⟩, ?_, ?_⟩
 ·have e : b.take p = numB n:=by simpa using h6
  rw [← e]; simp
 ·intro e; rw [e] at h3; simp at h3; omega
theorem decDict_eq {b : List Int} (hb : bytesOk b) (ty k : Int) : decDictI b ty k = decDict b ty k:=by
 unfold decDictI decDict
 cases hn : getNum b 0 with
 | none=>rfl
 | some x =>
  obtain ⟨n,p⟩:=x
  obtain ⟨hnr,hbn,hne⟩:=head_num hb hn
  dsimp only
  by_cases h1 : 1 ≤ n ∧ n ≤ 64
  ·rw [if_pos h1]
   cases hd : getVals b ty n.toNat p with
   | none=>simp
   | some y =>
    obtain ⟨d,q⟩:=y
    dsimp only
    cases hu : unpack (b.drop q) (widthOf (n - 1)) k with
    | none=>simp
    | some o =>
     have hol:=unpack_len hu
     dsimp only
     by_cases h2 : (1 ≤ k ∧ k ≤ 64) ∧ 1 ≤ n ∧ n ≤ k
     ·rw [if_pos h2]
      cases hp : picked d o with
      | none =>
       simp only [Option.getD_none,again]
       rw [if_neg]
       simp only [List.length_nil]; omega
      | some l =>
       have:=picked_len hp
       simp only [Option.getD_some,again]
       by_cases h3 : encDict l = b
       ·rw [if_pos h3,if_pos ⟨h2.1.1,h2.1.2,by omega,h3.symm⟩]
       ·rw [if_neg h3,if_neg fun h4=>h3 h4.2.2.2.symm]
     ·rw [if_neg h2]
      unfold again
      rw [if_neg]
      rintro ⟨k1,k2,k3,k4⟩
      have hnk : k < n:=by omega
      generalize hl : (picked d o).getD [] = l at k3 k4
      unfold encDict at k4
      split at k4
      ·exact hne k4
      ·have:=dict_len l
       have e:=numB_free hnr ⟨by omega,by omega⟩ (hbn.symm.trans k4)
       omega
  ·rw [if_neg h1,if_neg (by omega)]
def baseOf : List DVal → Int
 | []=>0
 | v :: l=>l.foldl (fun n x=>min n x.n) v.n
noncomputable def offsets (l : List DVal) : List Int:=if typeOf l ≠ 1 then [] else l.map fun v=>v.n - baseOf l
noncomputable def encFrame (l : List DVal) : List Int:=if typeOf l ≠ 1 then [] else numB (baseOf l) ++ (widthFor (offsets l) :: packBits (offsets l) (widthFor (offsets l)))
def raised (base : Int) (l : List Int) : Option (List DVal) :=
 if (-1000000000 ≤ base ∧ base ≤ 1000000000) ∧ ∀ x ∈ l,(0 ≤ x ∧ x ≤ 2000000000) ∧ base + x ≤ 1000000000 then some (l.map fun x=>⟨1,base + x,ByteArray.empty⟩) else none
theorem raised_len {base : Int} {o : List Int} {l : List DVal} (h : raised base o = some l) : l.length = o.length:=by
 unfold raised at h
 split at h
 ·simp only [Option.some.injEq] at h
  subst h; simp
 ·cases h
noncomputable def decFrame (b : List Int) (k : Int) : Option (List DVal):=match getNum b 0 with
 | none=>none
 | some (base,p)=>match b[p]? with
  | none=>none
  | some w=>if 1 ≤ k ∧ k ≤ 64 then match unpack (b.drop (p + 1)) w k with
    | none=>none
    | some o=>match raised base o with
     | none=>none
     | some l=>if encFrame l = b then some l else none
   else none
noncomputable def decFrameI (b : List Int) (k : Int) : Option (List DVal):=match getNum b 0 with
 | none=>none
 | some (base,p)=>match b[p]? with
  | none=>none
  | some w=>match unpack (b.drop (p + 1)) w k with
    | none=>none
    | some o=>again b k ((raised base o).getD []) (encFrame ((raised base o).getD []))
theorem decFrame_eq (b : List Int) (k : Int) : decFrameI b k = decFrame b k:=by
 unfold decFrameI decFrame
 cases hn : getNum b 0 with
 | none=>rfl
 | some x =>
  obtain ⟨base,p⟩:=x
  dsimp only
  cases hw : b[p]? with
  | none=>rfl
  | some w =>
   dsimp only
   cases hu : unpack (b.drop (p + 1)) w k with
   | none=>simp
   | some o =>
    have hol:=unpack_len hu
    dsimp only
    by_cases h2 : 1 ≤ k ∧ k ≤ 64
    ·rw [if_pos h2]
     cases hp : raised base o with
     | none =>
      simp only [Option.getD_none,again]
      rw [if_neg]
      simp only [List.length_nil]; omega
     | some l =>
      have:=raised_len hp
      simp only [Option.getD_some,again]
      by_cases h3 : encFrame l = b
      ·rw [if_pos h3,if_pos ⟨h2.1,h2.2,by omega,h3.symm⟩]
      ·rw [if_neg h3,if_neg fun h4=>h3 h4.2.2.2.symm]
    ·rw [if_neg h2]
     unfold again
     rw [if_neg fun h3=>h2 ⟨h3.1,h3.2.1⟩]
end Go.Proofs.YthoeeoddgkjkkaaGreat
/- Plain law: columns and groups in bytes: both ways to read them say the same. -/
namespace Go.Proofs.YthoeeoddgkjkkaaGreat
set_option linter.unusedSimpArgs false
set_option linter.unusedVariables false
open Go.Vm
set_option maxHeartbeats 2000000
noncomputable def encBy (kind : Int) (l : List DVal) : List Int:=if kind = 0 then encPlain l else if kind = 1 then encRuns l else if kind = 2 then encDict l else if kind = 3 then encFrame l else []
noncomputable def bk1 (l : List DVal) : Int:=if (encBy 1 l).length < (encBy 0 l).length then 1 else 0
noncomputable def bk2 (l : List DVal) : Int:=if (encBy 2 l).length < (encBy (bk1 l) l).length then 2 else bk1 l
noncomputable def bk3 (l : List DVal) : Int:=if typeOf l = 1 ∧ (encBy 3 l).length < (encBy (bk2 l) l).length then 3 else bk2 l
noncomputable def bestKind (l : List DVal) : Int:=if typeOf l = 0 then -1 else bk3 l
noncomputable def encCol (l : List DVal) : List Int:=if bestKind l < 0 then [] else bestKind l :: encBy (bestKind l) l
noncomputable def disp (b : List Int) (ty k : Int) : Option (List DVal):=match b with
 | []=>none
 | c :: r=>if c = 0 then decPlain r ty k else if c = 1 then decRuns r ty k else if c = 2 then decDict r ty k else if c = 3 then decFrame r k else none
noncomputable def dispI (b : List Int) (ty k : Int) : Option (List DVal):=match b with
 | []=>none
 | c :: r=>if c = 0 then decPlainI r ty k else if c = 1 then decRuns r ty k else if c = 2 then decDictI r ty k else if c = 3 then decFrameI r k else none
noncomputable def decCol (b : List Int) (ty k : Int) : Option (List DVal):=if 1 ≤ ty ∧ ty ≤ 2 then match disp b ty k with
  | none=>none
  | some l=>if typeOf l = ty ∧ encCol l = b then some l else none
 else none
noncomputable def decColI (b : List Int) (ty k : Int) : Option (List DVal):=if b = [] then none else
 if typeOf ((dispI b ty k).getD []) = ty then again b k ((dispI b ty k).getD []) (encCol ((dispI b ty k).getD [])) else none
theorem disp_eq {b : List Int} (hb : bytesOk b) (ty k : Int) : dispI b ty k = disp b ty k:=by
 cases b with
 | nil=>rfl
 | cons c r =>
  have hr : bytesOk r:=fun x hx=>hb x (by simp [hx])
  simp only [dispI,disp,decPlain_eq hr,decDict_eq hr,decFrame_eq]
theorem decRuns_ok {b : List Int} (hb : bytesOk b) {ty k : Int} {l : List DVal} (h : decRuns b ty k = some l) : (1 ≤ k ∧ k ≤ 64 ∧ (l.length : Int) = k) ∧ typeOf l ≠ 0:=by
 unfold decRuns at h
 cases hn : getNum b 0 with
 | none=>simp [hn] at h
 | some x =>
  obtain ⟨n,p⟩:=x
  obtain ⟨_,_,hne⟩:=head_num hb hn
  simp only [hn] at h
  split at h
  ·split at h
   ·cases h
   ·obtain ⟨h1,h2,h3,h4,h5⟩:=again_len h
    rw [h1]
    refine ⟨⟨h2,h3,h4⟩,fun h0=>hne ?_⟩
    rw [h5,encRuns,if_pos h0]
  ·cases h
theorem decDict_ok {b : List Int} (hb : bytesOk b) {ty k : Int} {l : List DVal} (h : decDict b ty k = some l) : (1 ≤ k ∧ k ≤ 64 ∧ (l.length : Int) = k) ∧ typeOf l ≠ 0:=by
 unfold decDict at h
 cases hn : getNum b 0 with
 | none=>simp [hn] at h
 | some x =>
  obtain ⟨n,p⟩:=x
  obtain ⟨_,_,hne⟩:=head_num hb hn
  simp only [hn] at h
  split at h
  ·rename_i hk
   split at h
   ·cases h
   ·split at h
    ·cases h
    ·rename_i o hu
     split at h
     ·cases h
     ·rename_i l' hp
      split at h
      ·rename_i he
       simp only [Option.some.injEq] at h
       subst h
       have h1:=unpack_len hu
       have h2:=picked_len hp
       refine ⟨⟨hk.1.1,hk.1.2,by omega⟩,fun h0=>hne ?_⟩
       rw [← he,encDict,if_pos h0]
      ·cases h
  ·cases h
theorem decFrame_ok {b : List Int} (hb : bytesOk b) {k : Int} {l : List DVal} (h : decFrame b k = some l) : (1 ≤ k ∧ k ≤ 64 ∧ (l.length : Int) = k) ∧ typeOf l ≠ 0:=by
 unfold decFrame at h
 cases hn : getNum b 0 with
 | none=>simp [hn] at h
 | some x =>
  obtain ⟨n,p⟩:=x
  obtain ⟨_,_,hne⟩:=head_num hb hn
  simp only [hn] at h
  split at h
  ·cases h
  ·split at h
   ·rename_i hk
    split at h
    ·cases h
    ·rename_i o hu
     split at h
     ·cases h
     ·rename_i l' hp
      split at h
      ·rename_i he
       simp only [Option.some.injEq] at h
       subst h
       have h1:=unpack_len hu
       have h2:=raised_len hp
       refine ⟨⟨hk.1,hk.2,by omega⟩,fun h0=>hne ?_⟩
       rw [← he,encFrame,if_pos (by omega)]
      ·cases h
   ·cases h
theorem decPlain_ty {b : List Int} (hb : bytesOk b) {ty k : Int} {l : List DVal} (h : decPlain b ty k = some l) : typeOf l ≠ 0:=by
 unfold decPlain at h
 split at h
 ·rename_i hk
  cases hv : getVals b ty k.toNat 0 with
  | none=>simp [hv] at h
  | some x =>
   obtain ⟨l',q⟩:=x
   simp only [hv] at h
   split at h
   ·simp only [Option.some.injEq] at h
    subst h
    obtain ⟨_,_,c3,c4,_⟩:=getVals_ok hb k.toNat 0 _ q (Nat.zero_le _) hv
    have h0 : 0 < l'.length:=by omega
    have hty:=(c4 _ (List.getElem_mem h0)).2.2
    rw [typeOf_of (ty:=ty) (by omega) (by omega) fun v hv=>⟨(c4 v hv).1,(c4 v hv).2.1⟩]
    omega
   ·cases h
 ·cases h
theorem disp_ok {b : List Int} (hb : bytesOk b) {ty k : Int} {l : List DVal} (h : disp b ty k = some l) : (1 ≤ k ∧ k ≤ 64 ∧ (l.length : Int) = k) ∧ typeOf l ≠ 0:=by
 cases b with
 | nil=>cases h
 | cons c r =>
  have hr : bytesOk r:=fun x hx=>hb x (by simp [hx])
  simp only [disp] at h
  split at h
  ·exact ⟨decPlain_ok hr h,decPlain_ty hr h⟩
  ·split at h
   ·exact decRuns_ok hr h
   ·split at h
    ·exact decDict_ok hr h
    ·split at h
     ·exact decFrame_ok hr h
     ·cases h
theorem decCol_eq {b : List Int} (hb : bytesOk b) (ty k : Int) : decColI b ty k = decCol b ty k:=by
 unfold decColI decCol
 rw [disp_eq hb]
 by_cases h0 : b = []
 ·rw [if_pos h0,h0]
  simp [disp]
 ·rw [if_neg h0]
  cases hd : disp b ty k with
  | none =>
   simp only [Option.getD_none]
   have ht : typeOf [] = 0:=rfl
   rw [ht]
   unfold again
   by_cases h1 : (0 : Int) = ty
   ·rw [if_pos h1,if_neg (by simp only [List.length_nil]; omega)]
    split <;> rfl
   ·rw [if_neg h1]
    split <;> rfl
  | some l =>
   obtain ⟨⟨k1,k2,k3⟩,k4⟩:=disp_ok hb hd
   simp only [Option.getD_some]
   by_cases h1 : typeOf l = ty
   ·rw [if_pos h1,if_pos (by have:=typeOf_3 l; omega)]
    unfold again
    by_cases h2 : encCol l = b
    ·rw [if_pos ⟨k1,k2,k3,h2.symm⟩,if_pos ⟨h1,h2⟩]
    ·rw [if_neg fun h3=>h2 h3.2.2.2.symm,if_neg fun h3=>h2 h3.2]
   ·rw [if_neg h1]
    split
    ·rw [if_neg fun h3=>h1 h3.1]
    ·rfl
theorem decCol_ok {b : List Int} (hb : bytesOk b) {ty k : Int} {l : List DVal} (h : decCol b ty k = some l) : (l.length : Int) = k ∧ typeOf l = ty ∧ encCol l = b:=by
 unfold decCol at h
 split at h
 ·cases hd : disp b ty k with
  | none=>simp [hd] at h
  | some l' =>
   simp only [hd] at h
   split at h
   ·rename_i he
    simp only [Option.some.injEq] at h
    subst h
    exact ⟨(disp_ok hb hd).1.2.2,he⟩
   ·cases h
 ·cases h
def getNumL (b : List Int) : Nat → Nat → Option (List Int × Nat)
 | 0,p=>some ([],p)
 | k + 1,p=>match getNum b p with
  | none=>none
  | some (n,q)=>(getNumL b k q).map fun x=>(n :: x.1,x.2)
def getNums (b : List Int) (p : Int) : Option (List Int × Nat):=match getNum b p with
 | none=>none
 | some (k,q)=>if 0 ≤ k ∧ k ≤ 64 then getNumL b k.toNat q else none
def numsB (l : List Int) : List Int:=numB l.length ++ (l.map numB).flatten
theorem getNumL_ok {b : List Int} (hb : bytesOk b) : ∀ (k p : Nat) (l : List Int) (q : Nat),p ≤ b.length → getNumL b k p = some (l,q) →
  p ≤ q ∧ q ≤ b.length ∧ l.length = k ∧ (b.drop p).take (q - p) = (l.map numB).flatten
 | 0,p,l,q,hp,h=>by
  simp only [getNumL,Option.some.injEq,Prod.mk.injEq] at h
  obtain ⟨rfl,rfl⟩:=h
  exact ⟨Nat.le_refl _,hp,rfl,by simp⟩
 | k + 1,p,l,q,hp,h=>by
  rw [getNumL] at h
  cases hv : getNum b p with
  | none=>simp [hv] at h
  | some x =>
   obtain ⟨v,m⟩:=x
   simp only [hv] at h
   cases hr : getNumL b k m with
   | none=>simp [hr] at h
   | some y =>
    obtain ⟨l',q'⟩:=y
    simp only [hr,Option.map_some,Option.some.injEq,Prod.mk.injEq] at h
    obtain ⟨rfl,rfl⟩:=h
    obtain ⟨_,a2,a3,_,_,a6⟩:=getNum_ok hb hv
    obtain ⟨c1,c2,c3,c5⟩:=getNumL_ok hb k m l' q' a3 hr
    refine ⟨by omega,c2,by simp [c3], ?_⟩
    rw [seg_app b (p:=p) (q:=m) (r:=q') (by omega) c1,c5]
    have : (b.drop p).take (m - p) = numB v:=by simpa using a6
    rw [this]; rfl
theorem getNums_ok {b : List Int} (hb : bytesOk b) {l : List Int} {q : Nat} (h : getNums b 0 = some (l,q)) : q ≤ b.length ∧ l.length ≤ 64 ∧ b.take q = numsB l:=by
 unfold getNums at h
 cases hn : getNum b 0 with
 | none=>simp [hn] at h
 | some x =>
  obtain ⟨k,p⟩:=x
  simp only [hn] at h
  split at h
  ·rename_i hk
   obtain ⟨_,a2,a3,_,_,a6⟩:=getNum_ok hb hn
   obtain ⟨c1,c2,c3,c5⟩:=getNumL_ok hb k.toNat p l q a3 h
   refine ⟨c2,by omega, ?_⟩
   have e1:=seg_app b (p:=0) (q:=p) (r:=q) (Nat.zero_le _) c1
   simp only [List.drop_zero,Nat.sub_zero] at e1
   have e2 : b.take p = numB k:=by simpa using a6
   rw [e1,c5,e2,numsB,c3]
   congr 2
   omega
  ·cases h
noncomputable def colB (l : List DVal) : List Int:=numB (encCol l).length ++ encCol l
noncomputable def getCols (b : List Int) (n : Nat) : List Int → Nat → Option (List (List DVal) × Nat)
 | [],p=>some ([],p)
 | ty :: r,p=>match getNum b p with
  | none=>none
  | some (m,q)=>if 0 ≤ m ∧ m ≤ (b.length : Int) - q then match decCol ((b.drop q).take m.toNat) ty n with
    | none=>none
    | some l=>(getCols b n r (q + m.toNat)).map fun x=>(l :: x.1,x.2)
   else none
theorem getCols_ok {b : List Int} (hb : bytesOk b) (n : Nat) : ∀ (cols : List Int) (p : Nat) (cs : List (List DVal)) (q : Nat),p ≤ b.length → getCols b n cols p = some (cs,q) →
  p ≤ q ∧ q ≤ b.length ∧ cs.length = cols.length ∧ (∀ c ∈ cs,c.length = n) ∧ (b.drop p).take (q - p) = (cs.map colB).flatten
 | [],p,cs,q,hp,h=>by
  simp only [getCols,Option.some.injEq,Prod.mk.injEq] at h
  obtain ⟨rfl,rfl⟩:=h
  exact ⟨Nat.le_refl _,hp,rfl,by simp,by simp⟩
 | ty :: r,p,cs,q,hp,h=>by
  rw [getCols] at h
  cases hv : getNum b p with
  | none=>simp [hv] at h
  | some x =>
   obtain ⟨m,q1⟩:=x
   simp only [hv] at h
   split at h
   ·rename_i hm
    cases hd : decCol ((b.drop q1).take m.toNat) ty n with
    | none=>simp [hd] at h
    | some l =>
     simp only [hd] at h
     cases hr : getCols b n r (q1 + m.toNat) with
     | none=>simp [hr] at h
     | some y =>
      obtain ⟨cs',q'⟩:=y
      simp only [hr,Option.map_some,Option.some.injEq,Prod.mk.injEq] at h
      obtain ⟨rfl,rfl⟩:=h
      obtain ⟨_,a2,a3,_,_,a6⟩:=getNum_ok hb hv
      obtain ⟨d1,_,d3⟩:=decCol_ok (bytes_seg hb _ _) hd
      obtain ⟨c1,c2,c3,c4,c5⟩:=getCols_ok hb n r (q1 + m.toNat) cs' q' (by omega) hr
      refine ⟨by omega,c2,by simp [c3],fun c hc=>?_, ?_⟩
      ·rcases List.mem_cons.1 hc with rfl | hc
       ·omega
       ·exact c4 c hc
      ·rw [seg_app b (p:=p) (q:=q1) (r:=q') (by omega) (by omega),seg_app b (p:=q1) (q:=q1 + m.toNat) (r:=q') (by omega) c1,c5]
       have e1 : (b.drop p).take (q1 - p) = numB m:=by simpa using a6
       have e2 : q1 + m.toNat - q1 = m.toNat:=by omega
       have e3 : (encCol l).length = m.toNat:=by rw [d3]; simp; omega
       rw [e1,e2,← d3]
       simp only [List.map_cons,List.flatten_cons,colB,e3,List.append_assoc]
       congr 2
       omega
   ·cases h
def rowsOf (ids : List Int) (cs : List (List DVal)) : List DRow:=(List.range ids.length).map fun i=>⟨(ids[i]?).getD 0,cs.map fun c=>(c[i]?).getD zeroW⟩
where zeroW : DVal:=⟨0,0,ByteArray.empty⟩
theorem rowsOf_ids (ids : List Int) (cs : List (List DVal)) : (rowsOf ids cs).map DRow.id = ids:=by
 unfold rowsOf
 rw [List.map_map]
 apply List.ext_getElem
 ·simp
 ·intro i h1 h2
  simp at h1 h2 ⊢
  simp [h2]
theorem rowsOf_len (ids : List Int) (cs : List (List DVal)) : (rowsOf ids cs).length = ids.length:=by simp [rowsOf]
theorem filterMap_map {α β : Type} {f : α → Option β} {g : α → β} : ∀ (l : List α),(∀ x ∈ l,f x = some (g x)) → l.filterMap f = l.map g
 | [],_=>rfl
 | x :: l,h=>by
  rw [List.filterMap_cons,h x (by simp),List.map_cons,filterMap_map l fun y hy=>h y (by simp [hy])]
theorem range_get (l : List DVal) (z : DVal) : (List.range l.length).map (fun i=>(l[i]?).getD z) = l:=by
 apply List.ext_getElem
 ·simp
 ·intro i h1 h2
  simp at h1 h2 ⊢
  simp [h2]
theorem rowsOf_col {ids : List Int} {cs : List (List DVal)} (h : ∀ c ∈ cs,c.length = ids.length) {k : Nat} (hk : k < cs.length) : colm (rowsOf ids cs) k = cs[k]:=by
 have hl:=h _ (List.getElem_mem hk)
 unfold colm rowsOf
 rw [List.filterMap_map,filterMap_map (g:=fun i=>((cs[k])[i]?).getD rowsOf.zeroW),← hl]
 ·exact range_get _ _
 ·intro i hi
  have hi' : i < (cs[k]).length:=by rw [hl]; simpa using hi
  simp [hk,hi']
noncomputable def grpOk (cols : List Int) (l : List DRow) : Bool:=(colsOk cols && decide (l.length ≤ 12)) && (rowsOk cols l && decide (∀ r ∈ l,r.id ≤ 1000000000))
noncomputable def putGroup (cols : List Int) (l : List DRow) : List Int :=
 if grpOk cols l = true then numsB (l.map DRow.id) ++ (if l = [] then [] else ((List.range cols.length).map fun (k : Nat)=>colB (colm l (k : Int))).flatten) else []
noncomputable def groupCols (b : List Int) (cols ids : List Int) (p : Nat) : Option (List (List DVal) × Nat):=if ids = [] then some ([],p) else getCols b ids.length cols p
noncomputable def getGroup (cols b : List Int) : Option (List DRow):=match getNums b 0 with
 | none=>none
 | some (ids,p)=>if colsOk cols = true ∧ ids.length ≤ 12 then match groupCols b cols ids p with
   | none=>none
   | some (cs,q)=>if q = b.length ∧ grpOk cols (rowsOf ids cs) = true then some (rowsOf ids cs) else none
  else none
noncomputable def getGroupI (cols b : List Int) : Option (List DRow):=match getNums b 0 with
 | none=>none
 | some (ids,p)=>if colsOk cols = true then match groupCols b cols ids p with
   | none=>none
   | some (cs,_)=>if grpOk cols (rowsOf ids cs) = true ∧ putGroup cols (rowsOf ids cs) = b then some (rowsOf ids cs) else none
  else none
theorem take_whole {b : List Int} {q : Nat} (h : q ≤ b.length) : b.take q = b ↔ q = b.length:=by
 constructor
 ·intro e
  have:=congrArg List.length e
  simp only [List.length_take] at this
  omega
 ·rintro rfl
  exact List.take_length
theorem getGroup_eq {b : List Int} (hb : bytesOk b) (cols : List Int) : getGroupI cols b = getGroup cols b:=by
 unfold getGroupI getGroup
 cases hn : getNums b 0 with
 | none=>rfl
 | some x =>
  obtain ⟨ids,p⟩:=x
  obtain ⟨n1,n2,n3⟩:=getNums_ok hb hn
  dsimp only
  by_cases hc : colsOk cols = true
  ·rw [if_pos hc]
   cases hg : groupCols b cols ids p with
   | none=>dsimp only; split <;> rfl
   | some y =>
    obtain ⟨cs,q⟩:=y
    dsimp only
    by_cases h12 : ids.length ≤ 12
    ·have key : grpOk cols (rowsOf ids cs) = true → (putGroup cols (rowsOf ids cs) = b ↔ q = b.length):=by
      intro hok
      have hput : putGroup cols (rowsOf ids cs) = b.take q ∧ q ≤ b.length:=by
       unfold putGroup
       rw [if_pos hok,rowsOf_ids,← n3]
       unfold groupCols at hg
       by_cases hi : ids = []
       ·rw [if_pos hi] at hg
        simp only [Option.some.injEq,Prod.mk.injEq] at hg
        obtain ⟨rfl,rfl⟩:=hg
        rw [if_pos (by apply List.eq_nil_of_length_eq_zero; rw [rowsOf_len,hi]; rfl)]
        exact ⟨by simp,n1⟩
       ·rw [if_neg hi] at hg
        obtain ⟨c1,c2,c3,c4,c5⟩:=getCols_ok hb ids.length cols p cs q n1 hg
        rw [if_neg (by intro h0; have:=rowsOf_len ids cs; rw [h0] at this; exact hi (List.eq_nil_of_length_eq_zero this.symm))]
        have e1:=seg_app b (p:=0) (q:=p) (r:=q) (Nat.zero_le _) c1
        simp only [List.drop_zero,Nat.sub_zero] at e1
        refine ⟨?_,c2⟩
        rw [e1,c5]
        congr 2
        apply List.ext_getElem
        ·simp [c3]
        ·intro k h1 h2
         have hk : k < cs.length:=by simpa using h2
         simp only [List.getElem_map,List.getElem_range]
         rw [rowsOf_col c4 hk]
      rw [hput.1]
      exact take_whole hput.2
     by_cases hok : grpOk cols (rowsOf ids cs) = true
     ·simp only [hok,key hok,hc,h12,true_and,and_true,and_self,if_true]
     ·simp only [hok,hc,h12,false_and,and_false,and_self,if_true,if_false,Bool.false_eq_true]
    ·have hok : ¬ grpOk cols (rowsOf ids cs) = true:=by
      intro h
      simp only [grpOk,Bool.and_eq_true,decide_eq_true_eq,rowsOf_len] at h
      exact h12 h.1.2
     simp only [hok,h12,false_and,and_false,if_false,Bool.false_eq_true]
  ·rw [if_neg hc,if_neg fun h=>hc h.1]
end Go.Proofs.YthoeeoddgkjkkaaGreat
