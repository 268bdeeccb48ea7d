/- Plain law: the sorted values, compacted, are the dictionary. -/
import Derived.Test.YthoeeoddgkjkkaaGreatWe
import Derived.Lib.SlicesCompact
import Derived.Sort.Statements
import Derived.Shelf.SlSortCmp.NoneTotal
namespace Go.Proofs.YthoeeoddgkjkkaaGreat
set_option linter.unusedSimpArgs false
set_option linter.unusedVariables false
open Go.Vm Go.Lib
set_option maxHeartbeats 2000000
def Cj (v:DVal):List Value:=[.int .i64 v.ty,.int .i64 v.n,.string v.s]
instance:Inhabited DVal:=⟨⟨0,0,ByteArray.empty⟩⟩
instance:DecidableEq DVal:=fun a b=>decidable_of_iff (Ik a b=true) (Gy a b)
theorem eG (d:Array DVal) (x:DVal):∀ m,x∈compactUpTo d m↔∃ j,j<m∧d[j]! = x
 | 0=>by simp[compactUpTo]
 | m+1=>by
  rw[compactUpTo_succ,List.mem_append,eG d x m]
  constructor
  ·rintro(⟨j,hj,h⟩ | h)
   ·exact⟨j,by omega,h⟩
   ·split at h
    ·exact⟨m,by omega,(List.mem_singleton.1 h).symm⟩
    ·cases h
  ·rintro⟨j,hj,h⟩
   by_cases e:j=m
   ·subst e
    rcases hk:keeps d j with _ | _
    ·left
     have h0:¬ (j=0∨d[j]!≠d[j-1]!):=by simpa [keeps] using hk
     by_cases h1:j=0
     ·exact absurd (.inl h1) h0
     ·refine⟨j-1,by omega, ?_⟩
      have h2:d[j]! = d[j-1]!:=by
       by_cases h3:d[j]! = d[j-1]!
       ·exact h3
       ·exact absurd (.inr h3) h0
      rw[← h2]; exact h
    ·right
     simp[h]
   ·left
    exact⟨j,by omega,h⟩
theorem WB (d:Array DVal) (hs:∀ i j,i<j→j<d.size→Bi d[j]! d[i]! = false):∀ m,m≤d.size→Gz (compactUpTo d m)
 | 0,_=>by simp[compactUpTo,Gz]
 | m+1,hm=>by
  rw[compactUpTo_succ]
  have ih:=WB d hs m (by omega)
  rcases hk:keeps d m with _ | _
  ·simpa using ih
  ·unfold Gz
   simp only[if_true]
   rw[List.pairwise_append]
   refine⟨ih,by simp,fun x hx y hy=>?_⟩
   rw[List.mem_singleton.1 hy]
   obtain⟨j,hj,rfl⟩:=(eG d x m).1 hx
   have h1:=hs j m hj (by omega)
   rcases ND d[j]! d[m]! with h | h | h
   ·exact h
   ·exfalso
    have h0:m=0∨d[m]!≠d[m-1]!:=by simpa [keeps] using hk
    rcases h0 with h0 | h0
    ·omega
    ·apply h0
     rcases Nat.lt_or_ge j (m-1) with h4 | h4
     ·have h2:=hs j (m-1) h4 (by omega)
      have h3:=hs (m-1) m (by omega) (by omega)
      rw[h] at h2
      rcases ND d[m]! d[m-1]! with h5 | h5 | h5
      ·rw[h3] at h5; cases h5
      ·exact h5
      ·rw[h2] at h5; cases h5
     ·have:j=m-1:=by omega
      subst this
      exact h.symm
   ·rw[h1] at h; cases h
theorem qI {l:List DVal} {d:Array DVal} (hp:Go.Sort.PermIn 0 l.length l.toArray d) (hs:∀ i j,i<j→j<d.size→Bi d[j]! d[i]! = false):compactUpTo d d.size=BV l:=by
 refine Vq (WB d hs _ (Nat.le_refl _)) (Zj l) fun x=>?_
 rw[IA,eG]
 obtain⟨h1,_,h3⟩:=hp
 have h1':d.size=l.length:=by simpa using h1
 have h4:d.toList.Perm l:=by
  have e1:d.extract 0 l.length=d:=by rw[← h1']; simp
  rw[e1] at h3
  simpa using h3
 rw[← h4.mem_iff]
 constructor
 ·rintro⟨j,hj,rfl⟩
  rw[getElem!_pos d j hj]
  simp
 ·intro hx
  obtain⟨j,hj,rfl⟩:=List.mem_iff_getElem.1 hx
  have hj':j<d.size:=by simpa using hj
  exact⟨j,hj',by rw[getElem!_pos d j hj']; simp⟩
theorem qJ (op:BinOp) (a b:Operand) (x y:DVal) (w:World):Sem.run Tryz.prog (eqGuard op 72 a b (.agg (Cj x).toArray) (.agg (Cj y).toArray)) w = .ok () w:=by
 have hg:Tryz.prog.eqGuardType Tryz.prog.depth 72=false:=by kernel_rfl
 simp[eqGuard,run_program,hg]
theorem eqB (x y:DVal) (w:World):Sem.run Tryz.prog (binOp .eql 72 (.agg (Cj x).toArray) (.agg (Cj y).toArray)) w = .ok (.bool (Ik x y)) w∧Sem.run Tryz.prog (binOp .neq 72 (.agg (Cj x).toArray) (.agg (Cj y).toArray)) w = .ok (.bool (!Ik x y)) w:=by
 have h:=Y9 (P:=Tryz.prog) (w:=w) (T:=72) (ks:=[.int .i64,.int .i64,.str]) (cs:=x.c) (ds:=y.c) (r:=Ik x y) (us:=Cj x) (vs:=Cj y) (by kernel_rfl) (by simp[DVal.c_eq,Jd,P9,Ik]) (fun k c hk=>by
  match k with
  | 0 | 1 | 2=>cases hk; rfl
  | k+3=>simp[DVal.c_eq] at hk) (fun k c hk=>by
  match k with
  | 0 | 1 | 2=>cases hk; rfl
  | k+3=>simp[DVal.c_eq] at hk) (x:=.tmp 0) (y:=.tmp 0)
 constructor
 ·have:=h.1
  rw[Sem.run_bind,qJ,Result.andThen_ok] at this
  exact this
 ·have:=h.2
  rw[Sem.run_bind,qJ,Result.andThen_ok] at this
  exact this
theorem iG (x y:DVal):decide (x=y)=Ik x y:=by
 rcases h:Ik x y with _ | _
 ·simp only[decide_eq_false_iff_not]
  intro e
  rw[← Gy] at e
  rw[h] at e; cases e
 ·simp only[decide_eq_true_eq]
  exact(Gy x y).1 h
theorem AGW (x y:DVal) (w:World):Sem.run Tryz.prog (binOp .eql 72 (.agg (Cj x).toArray) (.agg (Cj y).toArray)) w = .ok (.bool (decide (x=y))) w:=by rw[iG]; exact(eqB x y w).1
theorem AGX (x y:DVal) (w:World):Sem.run Tryz.prog (binOp .neq 72 (.agg (Cj x).toArray) (.agg (Cj y).toArray)) w = .ok (.bool (!decide (x=y))) w:=by rw[iG]; exact(eqB x y w).2
end Go.Proofs.YthoeeoddgkjkkaaGreat
/- The dictionary of the program: the order of values,in the model's own terms. -/
namespace Go.Proofs.YthoeeoddgkjkkaaGreat
set_option linter.unusedSimpArgs false
set_option linter.unusedVariables false
open Go.Proofs Go.Shelf Go.RowKit Go.Lib Go.Sort
set_option maxHeartbeats 2000000
set_option maxRecDepth 100000
theorem iH (x y:DVal) (W:World):Calls Tryz.prog 172 #[.agg #[.int .i64 x.ty,.int .i64 x.n,.string x.s],.agg #[.int .i64 y.ty,.int .i64 y.n,.string y.s]] W fun e w'=>e = .returned (.bool (Bi x y))∧∃ q os',w'=grow (W.drewN q) os':=by
 obtain⟨xt,xn,xs⟩:=x
 obtain⟨yt,yn,ys⟩:=y
 have hr:Bi ⟨xt,xn,xs⟩ ⟨yt,yn,ys⟩=if xt=yt then(if xn=yn then Op.bytesLess xs.toList ys.toList else decide (xn<yn)) else decide (xt<yt):=by
  simp only[Bi]
  by_cases h1:xt=yt<;>by_cases h2:xn=yn<;>simp[h1,h2]
 by_cases h1:xt=yt
 ·subst h1
  by_cases h2:xn=yn
  ·subst h2
   rw[hr,if_pos rfl,if_pos rfl]
   clear hr
   go_enter Tryz.func172,Tryz.ntmps172
   go_wp2
   go_ret
   exact⟨rfl,0,_,by rw[alloc_eq_grow,alloc_eq_grow,grow_grow]; rfl⟩
  ·rw[hr,if_pos rfl,if_neg h2]
   clear hr
   go_enter Tryz.func172,Tryz.ntmps172
   go_wp2
   go_ret
   exact⟨rfl,0,_,by rw[alloc_eq_grow,alloc_eq_grow,grow_grow]; rfl⟩
 ·rw[hr,if_neg h1]
  clear hr
  go_enter Tryz.func172,Tryz.ntmps172
  go_wp2
  go_ret
  exact⟨rfl,0,_,by rw[alloc_eq_grow,alloc_eq_grow,grow_grow]; rfl⟩
theorem Ux (w:World) (os:Array Obj):∀ n,(grow w os).drewN n=grow (w.drewN n) os
 | 0=>rfl
 | n+1=>by
  show ((grow w os).drewN n).drew=_
  rw[Ux w os n]; rfl
theorem SC (w:World) (os os':Array Obj) (n:Nat):grow ((grow w os).drewN n) os'=grow (w.drewN n) (os++os'):=by rw[Ux,grow_grow]
theorem CS {W w':World} {A B:Array Value} {T:TypeId} (hw:∃ q os',w'=grow (((W.alloc (.cells A T)).alloc (.cells B T)).drewN q) os') (j:Nat) (v:Value) :
  (A[j]?=some v→w'.cell? ⟨W.heap.size,j,none⟩=some v)∧(B[j]?=some v→w'.cell? ⟨W.heap.size+1,j,none⟩=some v):=by
 obtain⟨q,os',rfl⟩:=hw
 have s1:(W.alloc (.cells A T)).heap.size=W.heap.size+1:=by show (W.heap.push _).size=_; simp
 have s2:((W.alloc (.cells A T)).alloc (.cells B T)).heap.size=W.heap.size+2:=by show ((W.heap.push _).push _).size=_; simp
 constructor
 ·intro h
  rw[Go.Sort.cell?_grow _ _ _ (by rw[World.heap_drewN,s2]; simp),World.cell?_drewN,alloc_eq_grow (W.alloc _),Go.Sort.cell?_grow _ _ _ (by rw[s1]; simp)]
  show (match (W.heap.push (Obj.cells A T))[W.heap.size]? with | some (.cells cs _ _)=>cs[j]? | _=>none)=some v
  simp[h]
 ·intro h
  rw[Go.Sort.cell?_grow _ _ _ (by rw[World.heap_drewN,s2]; simp),World.cell?_drewN,← s1]
  generalize W.alloc (.cells A T)=W1
  show (match (W1.heap.push (Obj.cells B T))[W1.heap.size]? with | some (.cells cs _ _)=>cs[j]? | _=>none)=some v
  simp[h]
theorem IG {w0 w1 w2:World} (h1:∃ q os,w1=Go.Sort.grow (w0.drewN q) os) (h2:∃ q os,w2=Go.Sort.grow (w1.drewN q) os):∃ q os,w2=Go.Sort.grow (w0.drewN q) os:=by
 obtain⟨q1,o1,rfl⟩:=h1
 obtain⟨q2,o2,rfl⟩:=h2
 exact⟨q1+q2,o1++o2,by rw[SC,World.drewN_drewN]⟩
theorem Qk (W:World) (A B:Obj):∃ q os,(W.alloc A).alloc B=Go.Sort.grow (W.drewN q) os:=⟨0,#[A] ++ #[B],by rw[alloc_eq_grow,alloc_eq_grow,grow_grow]; rfl⟩
def eH (x y:DVal):Int:=if Bi x y=true then -1 else if Bi y x=true then 1 else 0
theorem xE (x y:DVal) (W:World):Calls Tryz.prog 265 #[.agg #[.int .i64 x.ty,.int .i64 x.n,.string x.s],.agg #[.int .i64 y.ty,.int .i64 y.n,.string y.s]] W fun e w'=>e = .returned (.int .i64 (eH x y))∧∃ q os',w'=grow (W.drewN q) os':=by
 have h1:=iH x y
 have h2:=iH y x
 unfold eH
 generalize Bi x y=a at h1 ⊢
 generalize Bi y x=b at h2 ⊢
 obtain⟨xt,xn,xs⟩:=x
 obtain⟨yt,yn,ys⟩:=y
 cases a with
 | true =>
  simp only[if_true]
  go_enter Tryz.func265,Tryz.ntmps265
  go_wp2_with (go_at_call 172; first | (have hm:=HW.out; clear hm; refine(h2 _).mono ?_; rintro e w' ⟨rfl,hw2⟩) | (refine(h1 _).mono ?_; rintro e w' ⟨rfl,hw⟩; have c0:=(CS hw 0 (.int .i64 xt)).1 rfl; have c1:=(CS hw 1 (.int .i64 xn)).1 rfl; have c2:=(CS hw 2 (.string xs)).1 rfl; have d0:=(CS hw 0 (.int .i64 yt)).2 rfl; have d1:=(CS hw 1 (.int .i64 yn)).2 rfl; have d2:=(CS hw 2 (.string ys)).2 rfl; have HW:Aside _:=hw; clear hw))
  go_ret
  exact⟨rfl,IG (Qk _ _ _) HW⟩
 | false =>
  cases b with
  | true =>
   simp only[if_true,if_false,Bool.false_eq_true]
   go_enter Tryz.func265,Tryz.ntmps265
   go_wp2_with (go_at_call 172; first | (have hm:=HW.out; clear hm; refine(h2 _).mono ?_; rintro e w' ⟨rfl,hw2⟩) | (refine(h1 _).mono ?_; rintro e w' ⟨rfl,hw⟩; have c0:=(CS hw 0 (.int .i64 xt)).1 rfl; have c1:=(CS hw 1 (.int .i64 xn)).1 rfl; have c2:=(CS hw 2 (.string xs)).1 rfl; have d0:=(CS hw 0 (.int .i64 yt)).2 rfl; have d1:=(CS hw 1 (.int .i64 yn)).2 rfl; have d2:=(CS hw 2 (.string ys)).2 rfl; have HW:Aside _:=hw; clear hw))
   go_ret
   exact⟨rfl,IG (IG (Qk _ _ _) HW) hw2⟩
  | false =>
   simp only[if_false,Bool.false_eq_true]
   go_enter Tryz.func265,Tryz.ntmps265
   go_wp2_with (go_at_call 172; first | (have hm:=HW.out; clear hm; refine(h2 _).mono ?_; rintro e w' ⟨rfl,hw2⟩) | (refine(h1 _).mono ?_; rintro e w' ⟨rfl,hw⟩; have c0:=(CS hw 0 (.int .i64 xt)).1 rfl; have c1:=(CS hw 1 (.int .i64 xn)).1 rfl; have c2:=(CS hw 2 (.string xs)).1 rfl; have d0:=(CS hw 0 (.int .i64 yt)).2 rfl; have d1:=(CS hw 1 (.int .i64 yn)).2 rfl; have d2:=(CS hw 2 (.string ys)).2 rfl; have HW:Aside _:=hw; clear hw))
   go_ret
   exact⟨rfl,IG (IG (Qk _ _ _) HW) hw2⟩
theorem P8 (x y:DVal):ltOf eH x y=Bi x y:=by
 unfold ltOf eH
 by_cases h1:Bi x y=true
 ·simp[h1]
 ·by_cases h2:Bi y x=true<;>simp[h1,h2]
theorem AGY:SWO (ltOf eH) where
 irrefl x:=by rw[P8]; exact NC x
 trans x y z h1 h2:=by rw[P8] at *; exact JZ h1 h2
 ntrans x y z h1 h2:=by
  rw[P8] at *
  rw[Bool.eq_false_iff] at *
  intro h3
  rcases ND x y with h | h | h
  ·exact h1 h
  ·subst h; exact h2 h3
  ·exact h2 (JZ h h3)
theorem qK (blk off size:Nat) (w:World):CmpLays Tryz.prog 265 #[] Cj 3 eH blk off size w:=fun _ _ _ _ x y=>xE x y _
def aI:Go.Shelf.Ren:=⟨fun | 6=>264 | 15=>252 | 14=>268 | 28=>262 | 29=>263 | 20=>270 | 21=>271 | 22=>272 | 23=>273 | 24=>274 | 25=>275 | 26=>276 | 27=>277 | 46=>278 | 47=>279 | 48=>280 | 49=>281 | 50=>282 | 57=>283 | n=>n,fun | 22=>119 | 24=>72 | 25=>278 | 3=>3 | 39=>270 | 0=>0 | 53=>274 | 55=>276 | 4=>4 | 46=>282 | 45=>281 | 50=>286 | 5=>5 | 9=>9 | 66=>288 | 70=>292 | 76=>294 | 77=>35 | n=>n,fun n=>n⟩
theorem iI:SlLaysF0.n6 Tryz.prog aI where
 mixed:=by kernel_rfl
 f6:=⟨Tryz.f264.name,of_decide_eq_true (by kernel_rfl),Tryz.func264.trans (congrArg some (by kernel_rfl))⟩
 f14:=⟨Tryz.f268.name,of_decide_eq_true (by kernel_rfl),Tryz.func268.trans (congrArg some (by kernel_rfl))⟩
 f15:=Tryz.func252.trans (congrArg some (by kernel_rfl))
 f20:=⟨Tryz.f270.name,of_decide_eq_true (by kernel_rfl),Tryz.func270.trans (congrArg some (by kernel_rfl))⟩
 f21:=⟨Tryz.f271.name,of_decide_eq_true (by kernel_rfl),Tryz.func271.trans (congrArg some (by kernel_rfl))⟩
 f22:=⟨Tryz.f272.name,of_decide_eq_true (by kernel_rfl),Tryz.func272.trans (congrArg some (by kernel_rfl))⟩
 f23:=⟨Tryz.f273.name,of_decide_eq_true (by kernel_rfl),Tryz.func273.trans (congrArg some (by kernel_rfl))⟩
 f24:=⟨Tryz.f274.name,of_decide_eq_true (by kernel_rfl),Tryz.func274.trans (congrArg some (by kernel_rfl))⟩
 f25:=⟨Tryz.f275.name,of_decide_eq_true (by kernel_rfl),Tryz.func275.trans (congrArg some (by kernel_rfl))⟩
 f26:=⟨Tryz.f276.name,of_decide_eq_true (by kernel_rfl),Tryz.func276.trans (congrArg some (by kernel_rfl))⟩
 f27:=⟨Tryz.f277.name,of_decide_eq_true (by kernel_rfl),Tryz.func277.trans (congrArg some (by kernel_rfl))⟩
 f28:=Tryz.func262.trans (congrArg some (by kernel_rfl))
 f29:=Tryz.func263.trans (congrArg some (by kernel_rfl))
 f46:=⟨Tryz.f278.name,of_decide_eq_true (by kernel_rfl),Tryz.func278.trans (congrArg some (by kernel_rfl))⟩
 f47:=Tryz.func279.trans (congrArg some (by kernel_rfl))
 f48:=Tryz.func280.trans (congrArg some (by kernel_rfl))
 f49:=⟨Tryz.f281.name,of_decide_eq_true (by kernel_rfl),Tryz.func281.trans (congrArg some (by kernel_rfl))⟩
 f50:=⟨Tryz.f282.name,of_decide_eq_true (by kernel_rfl),Tryz.func282.trans (congrArg some (by kernel_rfl))⟩
 f57:=⟨Tryz.f283.name,of_decide_eq_true (by kernel_rfl),Tryz.func283.trans (congrArg some (by kernel_rfl))⟩
 t0:=Tryz.underlying0
 a0:=Tryz.isAgg0
 z0:=Tryz.sizeOf0
 v0:=Tryz.zeroValue0
 t3:=Tryz.underlying3
 a3:=Tryz.isAgg3
 z3:=Tryz.sizeOf3
 v3:=Tryz.zeroValue3
 t4:=Tryz.underlying4
 a4:=Tryz.isAgg4
 z4:=Tryz.sizeOf4
 v4:=Tryz.zeroValue4
 t5:=Tryz.underlying5
 a5:=Tryz.isAgg5
 z5:=Tryz.sizeOf5
 v5:=Tryz.zeroValue5
 t9:=Tryz.underlying9
 a9:=Tryz.isAgg9
 z9:=Tryz.sizeOf9
 v9:=Tryz.zeroValue9
 t22:=Tryz.underlying119
 a22:=Tryz.isAgg119
 z22:=Tryz.sizeOf119
 v22:=Tryz.zeroValue119
 t25:=Tryz.underlying278
 a25:=Tryz.isAgg278
 z25:=Tryz.sizeOf278
 v25:=Tryz.zeroValue278
 t39:=Tryz.underlying270
 a39:=Tryz.isAgg270
 z39:=Tryz.sizeOf270
 v39:=Tryz.zeroValue270
 t45:=Tryz.underlying281
 a45:=Tryz.isAgg281
 z45:=Tryz.sizeOf281
 v45:=Tryz.zeroValue281
 t46:=Tryz.underlying282
 a46:=Tryz.isAgg282
 z46:=Tryz.sizeOf282
 v46:=Tryz.zeroValue282
 t50:=Tryz.underlying286
 a50:=Tryz.isAgg286
 z50:=Tryz.sizeOf286
 v50:=Tryz.zeroValue286
 t53:=Tryz.underlying274
 a53:=Tryz.isAgg274
 z53:=Tryz.sizeOf274
 v53:=Tryz.zeroValue274
 t55:=Tryz.underlying276
 a55:=Tryz.isAgg276
 z55:=Tryz.sizeOf276
 v55:=Tryz.zeroValue276
 t66:=Tryz.underlying288
 a66:=Tryz.isAgg288
 z66:=Tryz.sizeOf288
 v66:=Tryz.zeroValue288
 t70:=Tryz.underlying292
 a70:=Tryz.isAgg292
 z70:=Tryz.sizeOf292
 v70:=Tryz.zeroValue292
 t76:=Tryz.underlying294
 a76:=Tryz.isAgg294
 z76:=Tryz.sizeOf294
 v76:=Tryz.zeroValue294
 t77:=Tryz.underlying35
 a77:=Tryz.isAgg35
 z77:=Tryz.sizeOf35
 v77:=Tryz.zeroValue35
end Go.Proofs.YthoeeoddgkjkkaaGreat
/- slices.Compact at values,in the model's own terms. -/
namespace Go.Proofs.YthoeeoddgkjkkaaGreat
set_option linter.unusedSimpArgs false
set_option linter.unusedVariables false
open Go.Proofs Go.Shelf Go.RowKit Go.Lib Go.Sort
set_option maxHeartbeats 4000000
set_option maxRecDepth 100000
theorem II {w:World} {blk off:Nat} {d:Array DVal} (h:HoldsK Cj 3 w blk off d) {i:Nat} (hi:i<d.size) :
  w.cell? ⟨blk,off+i*3,none⟩=some (.int .i64 d[i]!.ty)∧w.cell? ⟨blk,off+i*3+1,none⟩=some (.int .i64 d[i]!.n)∧w.cell? ⟨blk,off+i*3+2,none⟩=some (.string d[i]!.s):=
 ⟨(HoldsK.cell h hi (show 0<3 by omega)).1,(HoldsK.cell h hi (show 1<3 by omega)).1,(HoldsK.cell h hi (show 2<3 by omega)).1⟩
theorem YA {w:World} {blk off:Nat} {d:Array DVal} (h:HoldsK Cj 3 w blk off d) {i:Nat} (hi:i<d.size) :
  w.frozen? ⟨blk,off+i*3,none⟩=false∧w.frozen? ⟨blk,off+i*3+1,none⟩=false∧w.frozen? ⟨blk,off+i*3+2,none⟩=false:=
 ⟨(HoldsK.cell h hi (show 0<3 by omega)).2,(HoldsK.cell h hi (show 1<3 by omega)).2,(HoldsK.cell h hi (show 2<3 by omega)).2⟩
theorem aJ (d:Array DVal) (i:Nat) (hi:i<d.size) (x:DVal):setMany (flatK Cj 3 d) (i*3) (Cj x)=flatK Cj 3 (d.setIfInBounds i x):=by
 refine ext_get! (by simp) fun t ht=>?_
 have ht':t<d.size*3:=by simpa using ht
 rw[get_setMany _ _ _ t (by simpa using ht'),get_flatK _ _ d t ht',get_flatK _ _ (d.setIfInBounds i x) t (by simpa using ht')]
 show (if i*3≤t∧t<i*3+3 then _ else _)=_
 by_cases e:t/3=i
 ·rw[if_pos (by omega)]
  subst e
  rw[getElem!_set_same _ _ _ hi,show t-t/3*3=t%3 by omega]
 ·rw[if_neg (by omega)]
  congr 2
  have hlt:t/3<d.size:=by omega
  simp[Array.getElem!_eq_getD,Array.getD,Array.getElem_setIfInBounds,Ne.symm e,hlt]
theorem aK {w wr:World} {q blk off:Nat} {dk:Array DVal} (hwr:wr=putRowK Cj 3 (Sort.ahead w q) blk off dk) {i:Nat} (hi:i<dk.size) (x:DVal) :
  (wr.setCells blk (off+i*3) (Cj x)).drew=putRowK Cj 3 (Sort.ahead w (q+1)) blk off (dk.setIfInBounds i x):=by
 rw[hwr]
 unfold putRowK
 rw[setCells_putRow _ _ _ _ _ _ (by simp[Cj]; omega),aJ dk i hi x]
 rfl
theorem jv {w:World} {blk off:Nat} {dk:Array DVal} (h:HoldsK Cj 3 w blk off dk) {i n c:Nat} {ty:TypeId} (hi:i+n=dk.size) (hn:0<n) :
  ∃ zs:List Value,zs.length=n*3∧(Builtin.clear_ #[119] ty #[.slice (some ⟨blk,off+i*3,none⟩) n c]).run Tryz.prog w = .ok (.tuple #[]) (w.setCells blk (off+i*3) zs):=by
 refine⟨(Builtin.zeroCells #[.int .i64 0,.int .i64 0,.string ⟨#[]⟩] n).toList,by simp[Builtin.zeroCells], ?_⟩
 have hst:=stores_of_holds Tryz.prog h (i*3) (Builtin.zeroCells #[.int .i64 0,.int .i64 0,.string ⟨#[]⟩] n).toList (by simp[Builtin.zeroCells,size_flatK]; omega) (by
  intro v hv
  simp only[Builtin.zeroCells,Array.toList_map,List.mem_map] at hv
  obtain⟨t,_,rfl⟩:=hv
  have h3:t%3<3:=Nat.mod_lt _ (by omega)
  show (#[Value.int .i64 0,Value.int .i64 0,Value.string ⟨#[]⟩][t%3]!).oneCell'=true
  rcases(show t%3=0∨t%3=1∨t%3=2 by omega) with e | e | e<;>rw[e]<;>rfl)
 obtain⟨m,rfl⟩:∃ m,n=m+1:=⟨n-1,by omega⟩
 have hz:=Tryz.zeroValue72
 simp[Builtin.clear_,run_underlying Tryz.underlying119,hz,Value.cells,hst]
theorem YB (blk off cap:Nat) (d:Array DVal) (w:World) (hH:HoldsK Cj 3 w blk off d) (hsz:d.size≤1048576) (hcap:d.size≤cap) :
  Calls Tryz.prog 266 #[.slice (some ⟨blk,off,none⟩) d.size cap] w fun e w'=>e = .returned (.slice (some ⟨blk,off,none⟩) (compactUpTo d d.size).length cap)∧∃ q F,w'=putRow id (Sort.ahead w q) blk off F∧F.size=d.size*3∧∀ j,j<(compactUpTo d d.size).length→∀ c,c<3→F[j*3+c]! = (Cj (compactUpTo d d.size)[j]!)[c]!:=by
 have same:∀ q,(∀ j,j<d.size→keeps d j=true)→(compactUpTo d d.size).length=d.size∧∃ F,w.drewN q=putRow id (Sort.ahead w q) blk off F∧F.size=d.size*3∧∀ j,j<(compactUpTo d d.size).length→∀ c,c<3→F[j*3+c]! = (Cj (compactUpTo d d.size)[j]!)[c]!:=by
  intro q hall
  have e:compactUpTo d d.size=d.toList:=by rw[compactUpTo_all d _ hall,range_map_get]
  rw[e]
  refine⟨by simp,flatK Cj 3 d,(putRow_self id (Sort.ahead w q) blk off _ (holds_ahead id w q blk off _ hH)).symm,by simp,fun j hj c hc=>?_⟩
  have hj':j<d.size:=by simpa using hj
  rw[get_flatK _ _ _ _ (by omega),show (j*3+c)/3=j by omega,show (j*3+c)%3=c by omega]
  congr 2
  simp[hj']
 have HS:Aside _:=same
 clear same
 have mixed:Tryz.prog.follows .mixedOrders=true:=by kernel_rfl
 have aE:=Tryz.isAgg72
 have zE:=Tryz.sizeOf72
 by_cases h2:d.size<2
 ·have HH:Aside _:=hH
  clear hH
  go_enter Tryz.func266,Tryz.ntmps266
  go_wp2
  go_ret
  obtain⟨e1,F,e2,e3,e4⟩:=HS.out 0 (fun j hj=>keeps_lt_one d j (by omega))
  exact⟨by rw[e1]; rfl,0,F,e2,e3,e4⟩
 ·go_enter Tryz.func266,Tryz.ntmps266
  go_wp2
  go_loopg [3] d.size (fun g s3 wr=>∃ k q:Nat,1≤k∧k≤d.size∧d.size-k≤g∧s3 = .int .i64 k∧wr=w.drewN q∧∀ j,j<k→keeps d j=true)
  case atStart=>exact⟨1,0,Nat.le_refl _,by omega,by omega,rfl,rfl,keeps_lt_one d⟩
  case round =>
   obtain⟨k,q,hk1,hk,hg,rfl,rfl,hall⟩:=hrel
   by_cases hlt:k<d.size
   ·obtain⟨c10,c11,c12⟩:=II hH hlt
    obtain⟨c00,c01,c02⟩:=II hH (show k-1<d.size by omega)
    have A:Aside (∀ j,j<k→keeps d j=true):=hall
    have HH:Aside _:=hH
    clear hall hH
    generalize hx:d[k]! = x at c10 c11 c12
    generalize hy:d[k-1]! = y at c00 c01 c02
    have B:Aside (d[k]! = x∧d[k-1]! = y):=⟨hx,hy⟩
    clear hx hy
    have hgd:=fun(op:BinOp) (a b:Operand) (w:World)=>qJ op a b x y w
    have heq:=fun(w:World)=>AGW x y w
    by_cases hdup:x=y
    ·subst hdup
     simp only[decide_true] at heq
     obtain⟨xt,xn,xs⟩:=x
     simp only[Cj] at hgd heq
     go_wp2_with fail
     go_region_o
     go_wp2
     clear c10 c11 c12 c00 c01 c02 hgd heq
     go_loopg [3,5] d.size (fun g s3 s5 wr=>∃ (kk k2 q2:Nat) (dk:Array DVal),s3 = .int .i64 kk∧s5 = .int .i64 k2∧1≤k2∧k+k2≤d.size∧d.size-(k+k2)≤g∧wr=putRowK Cj 3 (Sort.ahead w q2) blk off dk∧CompInv d (k+k2) kk dk)
     case atStart=>exact⟨k,1,q+1,d,rfl,rfl,Nat.le_refl _,by omega,by omega,(putRowK_self Cj 3 (Sort.ahead w (q+1)) blk off d (holdsK_ahead Cj 3 w (q+1) blk off d HH.out)).symm,CompInv.start A.out (keeps_neg (by omega) (by rw[B.out.1,B.out.2]))⟩
     case round =>
      obtain⟨kk,k2,q2,dk,rfl,rfl,h1,hle,hg2,hwr,hI⟩:=hrel
      have hkk:=hI.lt
      have hds:=hI.size
      have hHk:HoldsK Cj 3 wr blk off dk:=by rw[hwr]; exact holdsK_putRowK Cj 3 _ blk off d dk (holdsK_ahead Cj 3 w q2 blk off d HH.out) hds
      have W2:Aside (wr=putRowK Cj 3 (Sort.ahead w q2) blk off dk):=hwr
      have I2:Aside (CompInv d (k+k2) kk dk):=hI
      clear hwr
      by_cases hlt2:k+k2<d.size
      ·obtain⟨m0,m1,m2⟩:=II hHk (show k+k2<dk.size by omega)
       obtain⟨p0,p1,p2⟩:=II hHk (show k+k2-1<dk.size by omega)
       obtain⟨k0,k1,k3⟩:=II hHk (show kk<dk.size by omega)
       obtain⟨f0,f1,f2⟩:=YA hHk (show kk<dk.size by omega)
       rw[hI.high (k+k2) (by omega),show off+(k+k2)*3=off+k*3+k2*3 by omega] at m0 m1 m2
       rw[hI.high (k+k2-1) (by omega),show off+(k+k2-1)*3=off+k*3+(k2-1)*3 by omega] at p0 p1 p2
       clear hI
       have HHk:Aside _:=hHk
       clear hHk
       generalize hu:d[k+k2]! = u at m0 m1 m2
       generalize hv:d[k+k2-1]! = v at p0 p1 p2
       generalize dk[kk]! = old at k0 k1 k3
       have C:Aside (d[k+k2]! = u∧d[k+k2-1]! = v):=⟨hu,hv⟩
       clear hu hv
       have hgd:=fun(op:BinOp) (a b:Operand) (w:World)=>qJ op a b u v w
       have hne:=fun(w:World)=>AGX u v w
       by_cases huv:u=v
       ·subst huv
        simp only[decide_true] at hne
        obtain⟨ut,un,us⟩:=u
        simp only[Cj] at hgd hne
        go_wp2_with fail
        go_region_o
        go_wp2
        go_roundg (d.size-(k+(k2+1)))
        case measure=>omega
        case rel=>exact⟨kk,k2+1,q2+1,dk,rfl,by go_num,by omega,by omega,Nat.le_refl _,by rw[W2.out]; rfl,I2.out.skip (keeps_neg (by omega) (by rw[C.out.1,C.out.2]))⟩
       ·simp only[huv,decide_false] at hne
        have CC:Aside (u≠v):=huv
        clear huv
        have hst:=aK W2.out (show kk<dk.size by omega) u
        have HST:Aside _:=hst
        clear hst
        obtain⟨ut,un,us⟩:=u
        obtain⟨vt,vn,vs⟩:=v
        simp only[Cj] at hgd hne
        go_wp2_with fail
        go_region_o
        go_wp2
        go_roundg (d.size-(k+(k2+1)))
        case measure=>omega
        case rel=>exact⟨kk+1,k2+1,q2+1,dk.setIfInBounds kk ⟨ut,un,us⟩,by go_num,by go_num,by omega,by omega,Nat.le_refl _,HST.out,by have:=I2.out.keep hlt2 (keeps_pos (by rw[C.out.1,C.out.2]; exact CC.out)); rwa [C.out.1] at this⟩
      ·have hend:k+k2=d.size:=by omega
       have HHk:Aside _:=hHk
       have hcl:=fun ty=>jv (ty:=ty) (c:=cap-kk) hHk (show kk+(d.size-kk)=dk.size by omega) (by omega)
       clear hHk hI
       obtain⟨zs,hz1,hz2⟩:∃ zs:List Value,zs.length=(d.size-kk)*3∧∀ ty,(Builtin.clear_ #[119] ty #[.slice (some ⟨blk,off+kk*3,none⟩) (d.size-kk) (cap-kk)]).run Tryz.prog wr = .ok (.tuple #[]) (wr.setCells blk (off+kk*3) zs):=by
        obtain⟨zs,q1,q2⟩:=hcl 0
        exact⟨zs,q1,fun _=>q2⟩
       clear hcl
       go_wp2
       go_ret
       have hI:=I2.out
       rw[hend] at hI
       refine⟨by rw[hI.len]; rfl,q2,setMany (flatK Cj 3 dk) (kk*3) zs, ?_,by simp[hds],fun j hj c hc=>?_⟩
       ·rw[W2.out]
        unfold putRowK
        exact setCells_putRow _ _ _ _ _ _ (by simp[hz1,hds]; omega)
       ·rw[hI.len] at hj
        rw[get_setMany _ _ _ _ (by simp[hds]; omega),if_neg (by omega),get_flatK _ _ _ _ (by omega),show (j*3+c)/3=j by omega,show (j*3+c)%3=c by omega]
        have:=hI.low j hj
        rw[getElem!_pos (compactUpTo d d.size) j (by rw[hI.len]; exact hj)]
        rw[List.getElem?_eq_getElem (by rw[hI.len]; exact hj)] at this
        rw[Option.some.inj this]
    ·simp only[hdup,decide_false] at heq
     have BB:Aside (x≠y∧d[k]! = x∧d[k-1]! = y):=⟨hdup,B.out⟩
     clear hdup B
     obtain⟨xt,xn,xs⟩:=x
     obtain⟨yt,yn,ys⟩:=y
     simp only[Cj] at hgd heq
     go_wp2_with fail
     go_region_o
     go_wp2
     go_roundg (d.size-(k+1))
     case measure=>omega
     case rel =>
      refine⟨k+1,q+1,by omega,by omega,Nat.le_refl _,by go_num,rfl,fun j hj=>?_⟩
      by_cases e:j=k
      ·subst e
       exact keeps_pos (by rw[BB.out.2.1,BB.out.2.2]; exact BB.out.1)
      ·exact A.out j (by omega)
   ·have:k=d.size:=by omega
    subst this
    have HH:Aside _:=hH
    clear hH
    go_wp2
    go_ret
    obtain⟨e1,F,e2,e3,e4⟩:=HS.out q hall
    exact⟨by rw[e1]; rfl,q,F,e2,e3,e4⟩
end Go.Proofs.YthoeeoddgkjkkaaGreat
