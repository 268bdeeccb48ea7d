/- Plain law: numbers in bytes: what is read back is what is written. -/
import Derived.Test.YthoeeoddgkjkkaaGreatDa
import Derived.Test.YthoeeoddgkjkkaaGreatIa
namespace Go.Proofs.YthoeeoddgkjkkaaGreat
set_option linter.unusedSimpArgs false
set_option linter.unusedVariables false
open Go.Vm
set_option maxHeartbeats 2000000
def isByte (c : Int) : Prop:=0 ≤ c ∧ c < 256
def bytesOk (b : List Int) : Prop:=∀ c ∈ b,isByte c
theorem bytesOk_at {b : List Int} (h : bytesOk b) {k : Nat} {c : Int} (hk : b[k]? = some c) : isByte c:=h c (List.mem_of_getElem? hk)
def zig (n : Int) : Int:=if n < 0 then -2 * n - 1 else 2 * n
def zag (x : Int) : Int:=if x % 2 = 1 then -((x + 1) / 2) else x / 2
theorem zig_zag {x : Int} (h : 0 ≤ x) : zig (zag x) = x:=by
 unfold zig zag
 split
 ·rw [if_pos (by omega)]; omega
 ·rw [if_neg (by omega)]; omega
theorem zag_num {x : Int} (h : 0 ≤ x) (h2 : x ≤ 2000000000) : -1000000000 ≤ zag x ∧ zag x ≤ 1000000000:=by
 unfold zag
 split <;> constructor <;> omega
def pnL : Nat → Int → List Int
 | 0,x=>[x]
 | f + 1,x=>if x ≥ 128 then (x % 128 + 128) :: pnL f (x / 128) else [x]
def numB (n : Int) : List Int:=pnL 4 (zig n)
def gnLoop (b : List Int) (p : Nat) : Nat → Int → Nat → Option (Int × Nat)
 | 0,_,_=>none
 | f + 1,x,i=>match b[p + i]? with
  | none=>none
  | some c=>if c ≥ 128 then gnLoop b p f (x + (c % 128) * 128 ^ i) (i + 1) else
   if (0 < i ∧ c = 0) ∨ x + (c % 128) * 128 ^ i > 2000000000 then none else some (zag (x + (c % 128) * 128 ^ i),p + i + 1)
def getNum (b : List Int) (p : Int) : Option (Int × Nat):=if 0 ≤ p then gnLoop b p.toNat 5 0 0 else none
theorem gnLoop_ok {b : List Int} (hb : bytesOk b) (p : Nat) : ∀ (f : Nat) (x : Int) (i : Nat) (n : Int) (q : Nat),0 ≤ x → gnLoop b p (f + 1) x i = some (n,q) →
  ∃ y : Int,0 ≤ y ∧ (0 < i → 0 < y) ∧ x + y * 128 ^ i ≤ 2000000000 ∧ n = zag (x + y * 128 ^ i) ∧ p + i < q ∧ q ≤ b.length ∧ (b.drop (p + i)).take (q - (p + i)) = pnL f y:=by
 intro f
 induction f with
 | zero =>
  intro x i n q hx h
  simp only [gnLoop] at h
  cases hc : b[p + i]? with
  | none=>simp [hc] at h
  | some c =>
   simp only [hc] at h
   obtain ⟨c0,c1⟩:=bytesOk_at hb hc
   split at h
   ·cases h
   ·rename_i hlt
    split at h
    ·cases h
    ·rename_i hno
     simp only [Option.some.injEq,Prod.mk.injEq] at h
     obtain ⟨rfl,rfl⟩:=h
     have hm : c % 128 = c:=by omega
     rw [hm] at hno ⊢
     have hl:=(List.getElem?_eq_some_iff.1 hc).1
     refine ⟨c,c0,fun hi=>?_,by omega,rfl,by omega,by omega, ?_⟩
     ·have : ¬ (0 < i ∧ c = 0):=fun hh=>hno (.inl hh)
      omega
     ·rw [List.drop_eq_getElem_cons hl]
      have e1 : p + i + 1 - (p + i) = 1:=by omega
      have e2 : b[p + i] = c:=(List.getElem?_eq_some_iff.1 hc).2
      rw [e1,e2]; simp [pnL]
 | succ f ih =>
  intro x i n q hx h
  rw [gnLoop] at h
  cases hc : b[p + i]? with
  | none=>simp [hc] at h
  | some c =>
   simp only [hc] at h
   obtain ⟨c0,c1⟩:=bytesOk_at hb hc
   have hl:=(List.getElem?_eq_some_iff.1 hc).1
   have e2 : b[p + i] = c:=(List.getElem?_eq_some_iff.1 hc).2
   have hp : (0 : Int) ≤ 128 ^ i:=Int.pow_nonneg (by omega)
   split at h
   ·rename_i hge
    have hm0 : 0 ≤ c % 128 * 128 ^ i:=Int.mul_nonneg (by omega) hp
    obtain ⟨y,y0,y1,y2,y3,y4,y5,y6⟩:=ih _ (i + 1) n q (by omega) h
    have y1:=y1 (by omega)
    have e3 : x + c % 128 * 128 ^ i + y * 128 ^ (i + 1) = x + (c % 128 + y * 128) * 128 ^ i:=by
     rw [Int.pow_succ,Int.add_mul,Int.mul_assoc y 128,Int.mul_comm 128 (128 ^ i)]; omega
    rw [e3] at y2 y3
    refine ⟨c % 128 + y * 128,by omega,fun _=>by omega,y2,y3,by omega,y5, ?_⟩
    rw [List.drop_eq_getElem_cons hl,e2]
    have e4 : q - (p + i) = (q - (p + (i + 1))) + 1:=by omega
    rw [e4,List.take_succ_cons]
    have e5 : p + i + 1 = p + (i + 1):=by omega
    rw [e5,y6,pnL,if_pos (by omega)]
    congr 1
    ·omega
    ·congr 1; omega
   ·rename_i hlt
    split at h
    ·cases h
    ·rename_i hno
     simp only [Option.some.injEq,Prod.mk.injEq] at h
     obtain ⟨rfl,rfl⟩:=h
     have hm : c % 128 = c:=by omega
     rw [hm] at hno ⊢
     refine ⟨c,c0,fun hi=>?_,by omega,rfl,by omega,by omega, ?_⟩
     ·have : ¬ (0 < i ∧ c = 0):=fun hh=>hno (.inl hh)
      omega
     ·rw [List.drop_eq_getElem_cons hl,e2]
      have e1 : p + i + 1 - (p + i) = 1:=by omega
      rw [e1]
      simp [pnL,show ¬ c ≥ 128 by omega]
theorem getNum_ok {b : List Int} (hb : bytesOk b) {p n : Int} {q : Nat} (h : getNum b p = some (n,q)) :
  0 ≤ p ∧ p < q ∧ q ≤ b.length ∧ -1000000000 ≤ n ∧ n ≤ 1000000000 ∧ (b.drop p.toNat).take (q - p.toNat) = numB n:=by
 unfold getNum at h
 split at h
 ·rename_i hp
  obtain ⟨y,y0,_,y2,y3,y4,y5,y6⟩:=gnLoop_ok hb p.toNat 4 0 0 n q (Int.le_refl _) h
  simp only [Int.pow_zero,Int.mul_one,Int.zero_add] at y2 y3
  have:=zag_num y0 y2
  refine ⟨hp,by omega,y5,by omega,by omega, ?_⟩
  rw [numB,y3,zig_zag y0]
  simpa using y6
 ·cases h
end Go.Proofs.YthoeeoddgkjkkaaGreat
/- Plain law: values in bytes, and plain columns. -/
namespace Go.Proofs.YthoeeoddgkjkkaaGreat
set_option linter.unusedSimpArgs false
set_option linter.unusedVariables false
open Go.Vm
set_option maxHeartbeats 2000000
theorem seg_app (b : List Int) {p q r : Nat} (h1 : p ≤ q) (h2 : q ≤ r) : (b.drop p).take (r - p) = (b.drop p).take (q - p) ++ (b.drop q).take (r - q):=by
 have e1 : r - p = (q - p) + (r - q):=by omega
 have e2 : p + (q - p) = q:=by omega
 rw [e1,List.take_add,List.drop_drop,e2]
def strL (s : ByteArray) : List Int:=s.data.toList.map fun x=>(x.toNat : Int)
theorem strL_len (s : ByteArray) : (strL s).length = s.size:=by simp only [strL,List.length_map]; rfl
theorem strL_of {l : List Int} (h : bytesOk l) : strL (strOfNums l) = l:=by
 unfold strL
 rw [strOfNums_data,List.map_map]
 conv=>rhs; rw [← List.map_id l]
 refine List.map_congr_left fun c hc=>?_
 obtain ⟨h1,h2⟩:=h c hc
 simp only [Function.comp,id_eq,UInt8.toNat_ofNat']
 omega
theorem bytes_seg {b : List Int} (h : bytesOk b) (p n : Nat) : bytesOk ((b.drop p).take n):=fun c hc=>h c (List.mem_of_mem_drop (List.mem_of_mem_take hc))
def valB (v : DVal) : List Int:=if v.ty = 1 then numB v.n else (v.s.size : Int) :: strL v.s
noncomputable def getVal (b : List Int) (p ty : Int) : Option (DVal × Nat) :=
 if ty = 1 then (getNum b p).map fun x=>(⟨1,x.1,ByteArray.empty⟩,x.2) else
 if ty = 2 ∧ 0 ≤ p then match b[p.toNat]? with
  | none=>none
  | some k=>if p.toNat + 1 + k.toNat ≤ b.length then (if valOk ⟨2,0,strOfNums ((b.drop (p.toNat + 1)).take k.toNat)⟩ = true then some (⟨2,0,strOfNums ((b.drop (p.toNat + 1)).take k.toNat)⟩,p.toNat + 1 + k.toNat) else none) else none
 else none
theorem valOk_num (n : Int) (h : -1000000000 ≤ n ∧ n ≤ 1000000000) : valOk ⟨1,n,ByteArray.empty⟩ = true:=by
 simp only [valOk,if_true,isNumB,inR]
 simp [h.1,h.2]
theorem getVal_ok {b : List Int} (hb : bytesOk b) {p ty : Int} {v : DVal} {q : Nat} (h : getVal b p ty = some (v,q)) :
  0 ≤ p ∧ p < q ∧ q ≤ b.length ∧ v.ty = ty ∧ (ty = 1 ∨ ty = 2) ∧ valOk v = true ∧ (b.drop p.toNat).take (q - p.toNat) = valB v:=by
 unfold getVal at h
 split at h
 ·rename_i hty
  cases hn : getNum b p with
  | none=>simp [hn] at h
  | some x =>
   obtain ⟨n,q'⟩:=x
   simp only [hn,Option.map_some,Option.some.injEq,Prod.mk.injEq] at h
   obtain ⟨rfl,rfl⟩:=h
   obtain ⟨h1,h2,h3,h4,h5,h6⟩:=getNum_ok hb hn
   exact ⟨h1,h2,h3,hty.symm,.inl hty,valOk_num n ⟨h4,h5⟩,by simpa [valB] using h6⟩
 ·split at h
  ·rename_i hp
   cases hk : b[p.toNat]? with
   | none=>simp [hk] at h
   | some k =>
    simp only [hk] at h
    obtain ⟨k0,k1⟩:=bytesOk_at hb hk
    split at h
    ·rename_i hlen
     split at h
     ·rename_i hv
      simp only [Option.some.injEq,Prod.mk.injEq] at h
      obtain ⟨rfl,rfl⟩:=h
      have hl:=(List.getElem?_eq_some_iff.1 hk).1
      have e2 : b[p.toNat] = k:=(List.getElem?_eq_some_iff.1 hk).2
      refine ⟨hp.2,by omega,hlen,hp.1.symm,.inr hp.1,hv, ?_⟩
      rw [List.drop_eq_getElem_cons hl,e2]
      have e1 : p.toNat + 1 + k.toNat - p.toNat = k.toNat + 1:=by omega
      rw [e1,List.take_succ_cons]
      simp only [valB,show ¬ (2 : Int) = 1 by omega,if_false,strL_of (bytes_seg hb _ _),strOfNums_size]
      congr 1
      simp only [List.length_take,List.length_drop]
      omega
     ·cases h
    ·cases h
  ·cases h
noncomputable def getVals (b : List Int) (ty : Int) : Nat → Nat → Option (List DVal × Nat)
 | 0,p=>some ([],p)
 | k + 1,p=>match getVal b p ty with
  | none=>none
  | some (v,q)=>(getVals b ty k q).map fun x=>(v :: x.1,x.2)
def valsB (l : List DVal) : List Int:=(l.map valB).flatten
theorem getVals_ok {b : List Int} (hb : bytesOk b) {ty : Int} : ∀ (k p : Nat) (l : List DVal) (q : Nat),p ≤ b.length → getVals b ty k p = some (l,q) →
  p ≤ q ∧ q ≤ b.length ∧ l.length = k ∧ (∀ v ∈ l,valOk v = true ∧ v.ty = ty ∧ (ty = 1 ∨ ty = 2)) ∧ (b.drop p).take (q - p) = valsB l
 | 0,p,l,q,hp,h=>by
  simp only [getVals,Option.some.injEq,Prod.mk.injEq] at h
  obtain ⟨rfl,rfl⟩:=h
  exact ⟨Nat.le_refl _,hp,rfl,by simp,by simp [valsB]⟩
 | k + 1,p,l,q,hp,h=>by
  rw [getVals] at h
  cases hv : getVal b p ty with
  | none=>simp [hv] at h
  | some x =>
   obtain ⟨v,m⟩:=x
   simp only [hv] at h
   cases hr : getVals b ty k m with
   | none=>simp [hr] at h
   | some y =>
    obtain ⟨l',q'⟩:=y
    simp only [hr,Option.map_some,Option.some.injEq,Prod.mk.injEq] at h
    obtain ⟨rfl,rfl⟩:=h
    obtain ⟨a1,a2,a3,a4,a5,a6,a7⟩:=getVal_ok hb hv
    obtain ⟨c1,c2,c3,c4,c5⟩:=getVals_ok hb k m l' q' a3 hr
    refine ⟨by omega,c2,by simp [c3],fun x hx=>?_, ?_⟩
    ·rcases List.mem_cons.1 hx with rfl | hx
     ·exact ⟨a6,a4,a5⟩
     ·exact c4 x hx
    ·rw [seg_app b (p:=p) (q:=m) (r:=q') (by omega) c1,c5]
     have : (b.drop p).take (m - p) = valB v:=by simpa using a7
     rw [this]; rfl
noncomputable def typeOf (l : List DVal) : Int:=match l with
 | []=>0
 | v :: r=>if l.length ≤ 64 ∧ ∀ x ∈ l,valOk x = true ∧ x.ty = v.ty then v.ty else 0
theorem typeOf_of {l : List DVal} {ty : Int} (h1 : 1 ≤ l.length) (h2 : l.length ≤ 64) (h : ∀ v ∈ l,valOk v = true ∧ v.ty = ty) : typeOf l = ty:=by
 cases l with
 | nil=>simp at h1
 | cons v r =>
  have hv:=(h v (by simp)).2
  show (if (v :: r).length ≤ 64 ∧ ∀ x ∈ (v :: r),valOk x = true ∧ x.ty = v.ty then v.ty else 0) = ty
  rw [if_pos ⟨h2,fun x hx=>⟨(h x hx).1,by rw [(h x hx).2,hv]⟩⟩,hv]
noncomputable def encPlain (l : List DVal) : List Int:=if typeOf l = 0 then [] else valsB l
noncomputable def decPlain (b : List Int) (ty : Int) (k : Int) : Option (List DVal) :=
 if 1 ≤ k ∧ k ≤ 64 then match getVals b ty k.toNat 0 with
  | none=>none
  | some (l,q)=>if q = b.length then some l else none
 else none
noncomputable def again (b : List Int) (k : Int) (l : List DVal) (e : List Int) : Option (List DVal):=if 1 ≤ k ∧ k ≤ 64 ∧ (l.length : Int) = k ∧ b = e then some l else none
noncomputable def decPlainI (b : List Int) (ty : Int) (k : Int) : Option (List DVal) :=
 if 1 ≤ k ∧ k ≤ 64 then again b k (((getVals b ty k.toNat 0).map Prod.fst).getD []) (encPlain (((getVals b ty k.toNat 0).map Prod.fst).getD [])) else none
theorem decPlain_eq {b : List Int} (hb : bytesOk b) (ty k : Int) : decPlainI b ty k = decPlain b ty k:=by
 unfold decPlainI decPlain
 by_cases hk : 1 ≤ k ∧ k ≤ 64
 ·rw [if_pos hk,if_pos hk]
  cases hv : getVals b ty k.toNat 0 with
  | none =>
   simp only [Option.map_none,Option.getD_none,again]
   rw [if_neg]
   simp only [List.length_nil]
   omega
  | some x =>
   obtain ⟨l,q⟩:=x
   obtain ⟨_,c2,c3,c4,c5⟩:=getVals_ok hb k.toNat 0 l q (Nat.zero_le _) hv
   have h0 : 0 < l.length:=by omega
   obtain ⟨v0,hv0⟩ : ∃ v,v ∈ l:=⟨l[0],List.getElem_mem h0⟩
   have hty:=(c4 v0 hv0).2.2
   have ht : typeOf l = ty:=typeOf_of (by omega) (by omega) fun v hv=>⟨(c4 v hv).1,(c4 v hv).2.1⟩
   have he : encPlain l = b.take q:=by
    unfold encPlain
    rw [if_neg (by rw [ht]; omega),← c5]; simp
   simp only [Option.map_some,Option.getD_some,again,he]
   by_cases hq : q = b.length
   ·rw [if_pos hq,if_pos ⟨hk.1,hk.2,by omega,by rw [hq,List.take_length]⟩]
   ·rw [if_neg hq,if_neg]
    rintro ⟨_,_,_,h4⟩
    have:=congrArg List.length h4
    simp only [List.length_take] at this
    omega
 ·rw [if_neg hk,if_neg hk]
theorem decPlain_ok {b : List Int} (hb : bytesOk b) {ty k : Int} {l : List DVal} (h : decPlain b ty k = some l) : 1 ≤ k ∧ k ≤ 64 ∧ (l.length : Int) = k:=by
 unfold decPlain at h
 split at h
 ·rename_i hk
  cases hv : getVals b ty k.toNat 0 with
  | none=>simp [hv] at h
  | some x =>
   obtain ⟨l',q⟩:=x
   simp only [hv] at h
   split at h
   ·simp only [Option.some.injEq] at h
    subst h
    have:=(getVals_ok hb k.toNat 0 _ q (Nat.zero_le _) hv).2.2.1
    omega
   ·cases h
 ·cases h
end Go.Proofs.YthoeeoddgkjkkaaGreat
