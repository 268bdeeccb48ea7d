/- Plain law: a dictionary is the sorted values without doubles, however it is made. -/
import Derived.Test.YthoeeoddgkjkkaaGreatWd
namespace Go.Proofs.YthoeeoddgkjkkaaGreat
set_option linter.unusedSimpArgs false
set_option linter.unusedVariables false
open Go.Vm
set_option maxHeartbeats 2000000
theorem mf:∀ l:List UInt8,Op.bytesLess l l=false
 | []=>rfl
 | x::l=>by simp[Op.bytesLess,mf l]
theorem Zi:∀ {a b c:List UInt8},Op.bytesLess a b=true→Op.bytesLess b c=true→Op.bytesLess a c=true
 | [],[],_,h,_=>by simp[Op.bytesLess] at h
 | [],_::_,[],_,h=>by simp[Op.bytesLess] at h
 | [],_::_,_::_,_,_=>by simp[Op.bytesLess]
 | _::_,[],_,h,_=>by simp[Op.bytesLess] at h
 | _::_,_::_,[],_,h=>by simp[Op.bytesLess] at h
 | x::a,y::b,z::c,h1,h2=>by
  simp only[Op.bytesLess,Bool.or_eq_true,Bool.and_eq_true,decide_eq_true_eq,beq_iff_eq] at h1 h2 ⊢
  rcases h1 with h1 | ⟨rfl,h1⟩
  ·rcases h2 with h2 | ⟨rfl,h2⟩
   ·exact .inl (UInt8.lt_trans h1 h2)
   ·exact .inl h1
  ·rcases h2 with h2 | ⟨rfl,h2⟩
   ·exact .inl h2
   ·exact .inr ⟨rfl,Zi h1 h2⟩
theorem mg:∀ (a b:List UInt8),Op.bytesLess a b=true∨a=b∨Op.bytesLess b a=true
 | [],[]=>.inr (.inl rfl)
 | [],_::_=>.inl (by simp[Op.bytesLess])
 | _::_,[]=>.inr (.inr (by simp[Op.bytesLess]))
 | x::a,y::b=>by
  simp only[Op.bytesLess,Bool.or_eq_true,Bool.and_eq_true,decide_eq_true_eq,beq_iff_eq,List.cons.injEq]
  have ht:x<y∨x=y∨y<x:=by
   rcases Nat.lt_trichotomy x.toNat y.toNat with h | h | h
   ·exact .inl (UInt8.lt_iff_toNat_lt.2 h)
   ·exact .inr (.inl (UInt8.toNat_inj.1 h))
   ·exact .inr (.inr (UInt8.lt_iff_toNat_lt.2 h))
  rcases ht with h | rfl | h
  ·exact .inl (.inl h)
  ·rcases mg a b with h | rfl | h
   ·exact .inl (.inr ⟨rfl,h⟩)
   ·exact .inr (.inl ⟨rfl,rfl⟩)
   ·exact .inr (.inr (.inr ⟨rfl,h⟩))
  ·exact .inr (.inr (.inl h))
theorem dO {s t:ByteArray} (h:s.toList=t.toList):s=t:=by
 rw[ByteArray.toList_eq,ByteArray.toList_eq] at h
 obtain⟨⟨x⟩⟩:=s
 obtain⟨⟨y⟩⟩:=t
 simp at h
 rw[h]
theorem M_ (a b:DVal):Bi a b=true↔a.ty<b.ty∨(a.ty=b.ty∧(a.n<b.n∨(a.n=b.n∧Op.bytesLess a.s.toList b.s.toList=true))):=by
 unfold Bi
 by_cases h1:a.ty=b.ty
 ·by_cases h2:a.n=b.n
  ·simp[h1,h2]
  ·simp[h1,h2]
 ·simp[h1]
theorem Gy (a b:DVal):Ik a b=true↔a=b:=by
 unfold Ik
 simp only[Bool.and_eq_true,beq_iff_eq]
 constructor
 ·rintro⟨h1,h2,h3⟩
  cases a; cases b
  simp only at h1 h2 h3
  subst h1; subst h2
  congr 1
  exact dO h3
 ·rintro rfl; exact⟨rfl,rfl,rfl⟩
theorem NC (a:DVal):Bi a a=false:=by
 cases h:Bi a a with
 | false=>rfl
 | true =>
  rw[M_] at h
  rcases h with h | ⟨_,h | ⟨_,h⟩⟩
  ·omega
  ·omega
  ·rw[mf] at h; cases h
theorem JZ {a b c:DVal} (h1:Bi a b=true) (h2:Bi b c=true):Bi a c=true:=by
 rw[M_] at *
 rcases h1 with h1 | ⟨e1,h1⟩<;>rcases h2 with h2 | ⟨e2,h2⟩
 ·exact .inl (by omega)
 ·exact .inl (by omega)
 ·exact .inl (by omega)
 ·refine .inr ⟨by omega, ?_⟩
  rcases h1 with h1 | ⟨f1,h1⟩<;>rcases h2 with h2 | ⟨f2,h2⟩
  ·exact .inl (by omega)
  ·exact .inl (by omega)
  ·exact .inl (by omega)
  ·exact .inr ⟨by omega,Zi h1 h2⟩
theorem ND (a b:DVal):Bi a b=true∨a=b∨Bi b a=true:=by
 rw[← Gy,M_,M_]
 unfold Ik
 simp only[Bool.and_eq_true,beq_iff_eq]
 rcases Int.lt_trichotomy a.ty b.ty with h | h | h
 ·exact .inl (.inl h)
 ·rcases Int.lt_trichotomy a.n b.n with g | g | g
  ·exact .inl (.inr ⟨h,.inl g⟩)
  ·rcases mg a.s.toList b.s.toList with k | k | k
   ·exact .inl (.inr ⟨h,.inr ⟨g,k⟩⟩)
   ·exact .inr (.inl ⟨h,g,k⟩)
   ·exact .inr (.inr (.inr ⟨h.symm,.inr ⟨g.symm,k⟩⟩))
  ·exact .inr (.inr (.inr ⟨h.symm,.inl g⟩))
 ·exact .inr (.inr (.inl h))
def Gz (l:List DVal):Prop:=l.Pairwise fun a b=>Bi a b=true
theorem Xc (v x:DVal):∀ d:List DVal,x∈ins v d↔x=v∨x∈d
 | []=>by simp[ins]
 | y::r=>by
  simp only[ins]
  split
  ·simp only[List.mem_cons,Xc v x r]
   constructor
   ·rintro(h | h | h)
    ·exact .inr (.inl h)
    ·exact .inl h
    ·exact .inr (.inr h)
   ·rintro(h | h | h)
    ·exact .inr (.inl h)
    ·exact .inl h
    ·exact .inr (.inr h)
  ·split
   ·rename_i h
    have:=(Gy y v).1 h
    subst this
    simp
   ·simp
theorem UF (v:DVal):∀ d:List DVal,Gz d→Gz (ins v d)
 | [],_=>by simp[ins,Gz]
 | y::r,h=>by
  obtain⟨h1,h2⟩:=List.pairwise_cons.1 h
  simp only[ins]
  split
  ·rename_i hl
   refine List.pairwise_cons.2 ⟨fun z hz=>?_,UF v r h2⟩
   rcases(Xc v z r).1 hz with rfl | hz
   ·exact hl
   ·exact h1 z hz
  ·rename_i hl
   split
   ·exact h
   ·rename_i he
    have hv:Bi v y=true:=by
     rcases ND v y with g | g | g
     ·exact g
     ·exact absurd ((Gy y v).2 g.symm) he
     ·exact absurd g hl
    refine List.pairwise_cons.2 ⟨fun z hz=>?_,h⟩
    rcases List.mem_cons.1 hz with rfl | hz
    ·exact hv
    ·exact JZ hv (h1 z hz)
theorem Zj (l:List DVal):Gz (BV l):=by
 have key:∀ (l d:List DVal),Gz d→Gz (l.foldl (fun d v=>ins v d) d):=by
  intro l
  induction l with
  | nil=>intro d h; exact h
  | cons v l ih=>intro d h; exact ih _ (UF v d h)
 exact key l [] List.Pairwise.nil
theorem IA (l:List DVal) (x:DVal):x∈BV l↔x∈l:=by
 have key:∀ (l d:List DVal),x∈l.foldl (fun d v=>ins v d) d↔x∈l∨x∈d:=by
  intro l
  induction l with
  | nil=>intro d; simp
  | cons v l ih =>
   intro d
   rw[List.foldl_cons,ih,Xc,List.mem_cons]
   constructor
   ·rintro(h | h | h)
    ·exact .inl (.inr h)
    ·exact .inl (.inl h)
    ·exact .inr h
   ·rintro((h | h) | h)
    ·exact .inr (.inl h)
    ·exact .inl h
    ·exact .inr (.inr h)
 simpa [BV] using key l []
theorem Vq:∀ {a b:List DVal},Gz a→Gz b→(∀ x,x∈a↔x∈b)→a=b
 | [],[],_,_,_=>rfl
 | [],y::b,_,_,h=>by have:=(h y).2 (by simp); simp at this
 | x::a,[],_,_,h=>by have:=(h x).1 (by simp); simp at this
 | x::a,y::b,ha,hb,h=>by
  obtain⟨a1,a2⟩:=List.pairwise_cons.1 ha
  obtain⟨b1,b2⟩:=List.pairwise_cons.1 hb
  have hxy:x=y:=by
   rcases List.mem_cons.1 ((h x).1 (by simp)) with g | g
   ·exact g
   ·rcases List.mem_cons.1 ((h y).2 (by simp)) with k | k
    ·exact k.symm
    ·have:=JZ (b1 x g) (a1 y k)
     rw[NC] at this; cases this
  subst hxy
  have:a=b:=Vq a2 b2 fun z=>by
   have hz:=h z
   simp only[List.mem_cons] at hz
   constructor
   ·intro g
    rcases hz.1 (.inr g) with k | k
    ·subst k; have:=a1 _ g; rw[NC] at this; cases this
    ·exact k
   ·intro g
    rcases hz.2 (.inr g) with k | k
    ·subst k; have:=b1 _ g; rw[NC] at this; cases this
    ·exact k
  rw[this]
end Go.Proofs.YthoeeoddgkjkkaaGreat
