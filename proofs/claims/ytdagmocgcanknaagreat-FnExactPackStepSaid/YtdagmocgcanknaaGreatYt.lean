/- A part. -/
import Derived.Test.YtdagmocgcanknaaGreatWe
import Derived.Lib.SlicesCompact
import Derived.Sort.Statements
import Derived.Shelf.SlSortCmp.NoneTotal
set_option linter.unusedSimpArgs false
set_option linter.unusedVariables false
set_option maxHeartbeats 2000000
set_option maxRecDepth 100000
open Go.Proofs.Tryz
namespace Go.Proofs.YtdagmocgcanknaaGreat
open Go.Vm Go.Lib
section
variable {p q r:Prop}
theorem ALX(h:p:=by
 clear hr;go_enter func375,ntmps375;go_wp2;go_ret;exact⟨rfl,0,_,by rw[alloc_eq_grow,alloc_eq_grow,grow_grow]; rfl⟩):p:=h
theorem AQk(h:p:=by kernel_rfl):p:=h
end
def ER (v:DVal):List Value:=[.int .i64 v.ty,.int .i64 v.n,.string v.s]
instance:Inhabited DVal:=⟨⟨0,0,ByteArray.empty⟩⟩
instance:DecidableEq DVal:=fun a b=>decidable_of_iff (N7 a b=true) (Lp a b)
theorem zM (d:Array DVal) (x:DVal):∀ m,x∈compactUpTo d m↔∃ j,j<m/\d[j]! = x
 | 0=>by simp[compactUpTo]
 | m+1=>by
  rw[compactUpTo_succ,yF,zM d x m];constructor
  .grind
  .rintro⟨j,hj,h⟩;by_cases e:j=m
   .subst e;rcases hk:keeps d j with _ | _
    .left;have h0:¬ (j=0\/d[j]!≠d[j-1]!):=by simpa [keeps] using hk
     grind
    grind
   grind
theorem lK (d:Array DVal) (hs:∀ i j,i<j->j<d.size->Ff d[j]! d[i]! = false):∀ m,m<=d.size->KP (compactUpTo d m)
 | 0,_=>by simp[compactUpTo,KP]
 | m+1,hm=>by
  rw[compactUpTo_succ];have ih:=lK d hs m AOl;rcases hk:keeps d m with _ | _
  .grind
  .unfold KP;simp only[aO];rw[List.pairwise_append];refine⟨ih,AOm,fun x hx y hy=>?_⟩;rw[aaX.1 hy];obtain⟨j,hj,rfl⟩:=(zM d x m).1 hx;have h1:=hs j m hj AOl;rcases TZ d[j]! d[m]! with h | h | h
   .exact h
   .exfalso;have h0:m=0\/d[m]!≠d[m-1]!:=by simpa [keeps] using hk
    rcases h0 with h0 | h0
    .omega
    .apply h0;rcases bh j (m-1) with h4 | h4
     .grind [TZ]
     grind
   grind
theorem AF0 {l:List DVal} {d:Array DVal} (hp:Go.Sort.PermIn 0 l.length l.toArray d) (hs:∀ i j,i<j->j<d.size->Ff d[j]! d[i]! = false):compactUpTo d d.size=DW l:=by refine kZ (lK d hs _ (aG _)) (vU l) fun x=>?_;rw[MH,zM];obtain⟨h1,_,h3⟩:=hp;grind [abt]
theorem AHn (op:BinOp) (a b:Operand) (x y:DVal) (w:World):Sem.run prog (eqGuard op 112 a b (.agg (ER x).toArray) (.agg (ER y).toArray)) w = .ok () w:=by have hg:prog.eqGuardType prog.depth 112=false:=AQk;simp[eqGuard,run_program,hg]
theorem eqB (x y:DVal) (w:World):Sem.run prog (binOp .eql 112 (.agg (ER x).toArray) (.agg (ER y).toArray)) w = .ok (.bool (N7 x y)) w/\Sem.run prog (binOp .neq 112 (.agg (ER x).toArray) (.agg (ER y).toArray)) w = .ok (.bool (!N7 x y)) w:=by
 have h:=uI (P:=prog) (w:=w) (T:=112) (ks:=[.int .i64,.int .i64,.str]) (cs:=x.c) (ds:=y.c) (r:=N7 x y) (us:=ER x) (vs:=ER y) AQk (by simp[DVal.c_eq,EW,IZ,N7]) (fun k c hk=>by
  match k with
  | 0 | 1 | 2=>cases hk; rfl
  | k+3=>simp[DVal.c_eq] at hk) (fun k c hk=>by
  match k with
  | 0 | 1 | 2=>cases hk; rfl
  | k+3=>simp[DVal.c_eq] at hk) (x:=.tmp 0) (y:=.tmp 0)
 grind [Sem.run_bind,AHn,Result.andThen_ok]
theorem AA2 (x y:DVal):decide (x=y)=N7 x y:=by grind [aaA,Lp]
theorem AK1 (x y:DVal) (w:World):Sem.run prog (binOp .eql 112 (.agg (ER x).toArray) (.agg (ER y).toArray)) w = .ok (.bool (decide (x=y))) w:=by rw[AA2]; exact(eqB x y w).1
theorem AK2 (x y:DVal) (w:World):Sem.run prog (binOp .neq 112 (.agg (ER x).toArray) (.agg (ER y).toArray)) w = .ok (.bool (!decide (x=y))) w:=by rw[AA2]; exact(eqB x y w).2
open Go.Proofs Go.Shelf Go.RowKit Go.Sort
theorem AA3 (x y:DVal) (W:World):Calls prog 375 #[.agg #[.int .i64 x.ty,.int .i64 x.n,.string x.s],.agg #[.int .i64 y.ty,.int .i64 y.n,.string y.s]] W fun e w'=>e = .returned (.bool (Ff x y))/\∃ q os',w'=grow (W.drewN q) os':=by
 obtain⟨xt,xn,xs⟩:=x;obtain⟨yt,yn,ys⟩:=y;have hr:Ff ⟨xt,xn,xs⟩ ⟨yt,yn,ys⟩=if xt=yt then(if xn=yn then Op.bytesLess xs.toList ys.toList else decide (xn<yn)) else decide (xt<yt):=by simp only[Ff];by_cases h1:xt=yt<;>by_cases h2:xn=yn<;>simp[h1,h2]
 by_cases h1:xt=yt
 .subst h1;by_cases h2:xn=yn
  .subst h2;rw[hr,aV rfl,aV rfl];exact ALX
  .rw[hr,aV rfl,aR h2];exact ALX
 .rw[hr,aR h1];exact ALX
theorem gU (w:World) (os:Array Obj):∀ n,(grow w os).drewN n=grow (w.drewN n) os
 | 0=>rfl
 | n+1=>by show ((grow w os).drewN n).drew=_;rw[gU w os n]; rfl
theorem ZI (w:World) (os os':Array Obj) (n:Nat):grow ((grow w os).drewN n) os'=grow (w.drewN n) (os++os'):=by rw[gU,grow_grow]
theorem EC {W w':World} {A B:Array Value} {T:TypeId} (hw:∃ q os',w'=grow (((W.alloc (.cells A T)).alloc (.cells B T)).drewN q) os') (j:Nat) (v:Value) :
  (A[j]?=some v->w'.cell? ⟨W.heap.size,j,none⟩=some v)/\(B[j]?=some v->w'.cell? ⟨W.heap.size+1,j,none⟩=some v):=by
 obtain⟨q,os',rfl⟩:=hw
 have s1:(W.alloc (.cells A T)).heap.size=W.heap.size+1:=by show (W.heap.push _).size=_; simp
 have s2:((W.alloc (.cells A T)).alloc (.cells B T)).heap.size=W.heap.size+2:=by show ((W.heap.push _).push _).size=_; simp
 constructor
 .intro h
  rw[Go.Sort.cell?_grow _ _ _ (by rw[World.heap_drewN,s2]; simp),World.cell?_drewN,alloc_eq_grow (W.alloc _),Go.Sort.cell?_grow _ _ _ (by rw[s1]; simp)]
  show (match (W.heap.push (Obj.cells A T))[W.heap.size]? with | some (.cells cs _ _)=>cs[j]? | _=>none)=some v
  simp[h]
 .intro h
  rw[Go.Sort.cell?_grow _ _ _ (by rw[World.heap_drewN,s2]; simp),World.cell?_drewN,<- s1]
  generalize W.alloc (.cells A T)=W1
  show (match (W1.heap.push (Obj.cells B T))[W1.heap.size]? with | some (.cells cs _ _)=>cs[j]? | _=>none)=some v
  simp[h]
theorem MJ {w0 w1 w2:World} (h1:∃ q os,w1=Go.Sort.grow (w0.drewN q) os) (h2:∃ q os,w2=Go.Sort.grow (w1.drewN q) os):∃ q os,w2=Go.Sort.grow (w0.drewN q) os:=by obtain⟨q1,o1,rfl⟩:=h1;obtain⟨q2,o2,rfl⟩:=h2;exact⟨q1+q2,o1++o2,by rw[ZI,World.drewN_drewN]⟩
theorem X5 (W:World) (A B:Obj):∃ q os,(W.alloc A).alloc B=Go.Sort.grow (W.drewN q) os:=⟨0,#[A] ++ #[B],by rw[alloc_eq_grow,alloc_eq_grow,grow_grow]; rfl⟩
def zN (x y:DVal):Int:=if Ff x y=true then -1 else if Ff y x=true then 1 else 0
theorem AHo (x y:DVal) (W:World):Calls prog 369 #[.agg #[.int .i64 x.ty,.int .i64 x.n,.string x.s],.agg #[.int .i64 y.ty,.int .i64 y.n,.string y.s]] W fun e w'=>e = .returned (.int .i64 (zN x y))/\∃ q os',w'=grow (W.drewN q) os':=by
 have h1:=AA3 x y;have h2:=AA3 y x;unfold zN;generalize Ff x y=a at h1 ⊢;generalize Ff y x=b at h2 ⊢;obtain⟨xt,xn,xs⟩:=x;obtain⟨yt,yn,ys⟩:=y;cases a with
 | true =>
  simp only[aO]
  go_enter func369,ntmps369
  go_wp2_with (go_at_call 375; first | (have hm:=HW.out; clear hm; refine(h2 _).mono ?_; rintro e w' ⟨rfl,hw2⟩) | (refine(h1 _).mono ?_; rintro e w' ⟨rfl,hw⟩; have c0:=(EC hw 0 (.int .i64 xt)).1 rfl; have c1:=(EC hw 1 (.int .i64 xn)).1 rfl; have c2:=(EC hw 2 (.string xs)).1 rfl; have d0:=(EC hw 0 (.int .i64 yt)).2 rfl; have d1:=(EC hw 1 (.int .i64 yn)).2 rfl; have d2:=(EC hw 2 (.string ys)).2 rfl; have HW:Aside _:=hw; clear hw))
  go_ret
  exact⟨rfl,MJ (X5 _ _ _) HW⟩
 | false =>
  cases b with
  | true =>
   simp only[aO,aL,ax]
   go_enter func369,ntmps369
   go_wp2_with (go_at_call 375; first | (have hm:=HW.out; clear hm; refine(h2 _).mono ?_; rintro e w' ⟨rfl,hw2⟩) | (refine(h1 _).mono ?_; rintro e w' ⟨rfl,hw⟩; have c0:=(EC hw 0 (.int .i64 xt)).1 rfl; have c1:=(EC hw 1 (.int .i64 xn)).1 rfl; have c2:=(EC hw 2 (.string xs)).1 rfl; have d0:=(EC hw 0 (.int .i64 yt)).2 rfl; have d1:=(EC hw 1 (.int .i64 yn)).2 rfl; have d2:=(EC hw 2 (.string ys)).2 rfl; have HW:Aside _:=hw; clear hw))
   go_ret
   exact⟨rfl,MJ (MJ (X5 _ _ _) HW) hw2⟩
  | false =>
   simp only[aL,ax]
   go_enter func369,ntmps369
   go_wp2_with (go_at_call 375; first | (have hm:=HW.out; clear hm; refine(h2 _).mono ?_; rintro e w' ⟨rfl,hw2⟩) | (refine(h1 _).mono ?_; rintro e w' ⟨rfl,hw⟩; have c0:=(EC hw 0 (.int .i64 xt)).1 rfl; have c1:=(EC hw 1 (.int .i64 xn)).1 rfl; have c2:=(EC hw 2 (.string xs)).1 rfl; have d0:=(EC hw 0 (.int .i64 yt)).2 rfl; have d1:=(EC hw 1 (.int .i64 yn)).2 rfl; have d2:=(EC hw 2 (.string ys)).2 rfl; have HW:Aside _:=hw; clear hw))
   go_ret
   exact⟨rfl,MJ (MJ (X5 _ _ _) HW) hw2⟩
theorem WT (x y:DVal):ltOf zN x y=Ff x y:=by
 unfold ltOf zN;by_cases h1:Ff x y=true
 .simp[h1]
 .by_cases h2:Ff y x=true<;>simp[h1,h2]
theorem AK3:SWO (ltOf zN) where
 irrefl x:=by rw[WT]; exact Xw x
 trans x y z h1 h2:=by rw[WT] at *; exact Oo h1 h2
 ntrans x y z h1 h2:=by
  rw[WT] at *;rw[abk] at *;intro h3;rcases TZ x y with h | h | h
  .exact h1 h
  .subst h; exact h2 h3
  .exact h2 (Oo h h3)
theorem AF1 (blk off size:Nat) (w:World):CmpLays prog 369 #[] ER 3 zN blk off size w:=fun _ _ _ _ x y=>AHo x y _
def wF:Go.Shelf.Ren:=⟨fun | 6=>368 | 15=>367 | 14=>374 | 28=>372 | 29=>373 | 20=>377 | 21=>378 | 22=>379 | 23=>380 | 24=>381 | 25=>382 | 26=>383 | 27=>384 | 46=>385 | 47=>386 | 48=>387 | 49=>388 | 50=>389 | 57=>390 | n=>n,fun | 22=>111 | 24=>112 | 25=>311 | 3=>3 | 39=>309 | 0=>0 | 53=>313 | 55=>315 | 4=>4 | 46=>319 | 45=>318 | 50=>323 | 5=>5 | 9=>9 | 66=>325 | 70=>329 | 76=>331 | 77=>128 | n=>n,fun n=>n⟩
theorem AA4:SlLaysF0.n6 prog wF where
 mixed:=AQk
 f6:=⟨f368.name,iT AQk,func368.trans (congrArg some AQk)⟩
 f14:=⟨f374.name,iT AQk,func374.trans (congrArg some AQk)⟩
 f15:=func367.trans (congrArg some AQk)
 f20:=⟨f377.name,iT AQk,func377.trans (congrArg some AQk)⟩
 f21:=⟨f378.name,iT AQk,func378.trans (congrArg some AQk)⟩
 f22:=⟨f379.name,iT AQk,func379.trans (congrArg some AQk)⟩
 f23:=⟨f380.name,iT AQk,func380.trans (congrArg some AQk)⟩
 f24:=⟨f381.name,iT AQk,func381.trans (congrArg some AQk)⟩
 f25:=⟨f382.name,iT AQk,func382.trans (congrArg some AQk)⟩
 f26:=⟨f383.name,iT AQk,func383.trans (congrArg some AQk)⟩
 f27:=⟨f384.name,iT AQk,func384.trans (congrArg some AQk)⟩
 f28:=func372.trans (congrArg some AQk)
 f29:=func373.trans (congrArg some AQk)
 f46:=⟨f385.name,iT AQk,func385.trans (congrArg some AQk)⟩
 f47:=func386.trans (congrArg some AQk)
 f48:=func387.trans (congrArg some AQk)
 f49:=⟨f388.name,iT AQk,func388.trans (congrArg some AQk)⟩
 f50:=⟨f389.name,iT AQk,func389.trans (congrArg some AQk)⟩
 f57:=⟨f390.name,iT AQk,func390.trans (congrArg some AQk)⟩
 t0:=underlying0
 a0:=isAgg0
 z0:=sizeOf0
 v0:=zeroValue0
 t3:=underlying3
 a3:=isAgg3
 z3:=sizeOf3
 v3:=zeroValue3
 t4:=underlying4
 a4:=isAgg4
 z4:=sizeOf4
 v4:=zeroValue4
 t5:=underlying5
 a5:=isAgg5
 z5:=sizeOf5
 v5:=zeroValue5
 t9:=underlying9
 a9:=isAgg9
 z9:=sizeOf9
 v9:=zeroValue9
 t22:=underlying111
 a22:=isAgg111
 z22:=sizeOf111
 v22:=zeroValue111
 t25:=underlying311
 a25:=isAgg311
 z25:=sizeOf311
 v25:=zeroValue311
 t39:=underlying309
 a39:=isAgg309
 z39:=sizeOf309
 v39:=zeroValue309
 t45:=underlying318
 a45:=isAgg318
 z45:=sizeOf318
 v45:=zeroValue318
 t46:=underlying319
 a46:=isAgg319
 z46:=sizeOf319
 v46:=zeroValue319
 t50:=underlying323
 a50:=isAgg323
 z50:=sizeOf323
 v50:=zeroValue323
 t53:=underlying313
 a53:=isAgg313
 z53:=sizeOf313
 v53:=zeroValue313
 t55:=underlying315
 a55:=isAgg315
 z55:=sizeOf315
 v55:=zeroValue315
 t66:=underlying325
 a66:=isAgg325
 z66:=sizeOf325
 v66:=zeroValue325
 t70:=underlying329
 a70:=isAgg329
 z70:=sizeOf329
 v70:=zeroValue329
 t76:=underlying331
 a76:=isAgg331
 z76:=sizeOf331
 v76:=zeroValue331
 t77:=underlying128
 a77:=isAgg128
 z77:=sizeOf128
 v77:=zeroValue128
