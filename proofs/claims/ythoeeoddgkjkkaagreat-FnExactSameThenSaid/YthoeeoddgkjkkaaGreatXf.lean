/- Walks: the horizon, the moments. -/
import Derived.Test.YthoeeoddgkjkkaaGreatXe
import Derived.Test.YthoeeoddgkjkkaaGreatBs
namespace Go.Proofs.YthoeeoddgkjkkaaGreat
set_option linter.unusedSimpArgs false
set_option linter.unusedVariables false
open Go.Vm
set_option maxHeartbeats 2000000
set_option maxRecDepth 10000
def hasTs (t : DTask) : Bool:=(t.op == 3) && decide (t.pc ≥ 2)
theorem iHasTs_spec (t : DTask) : Ctr Tryz.prog 115 [.agg t.c] [.val (.c (.v (.bool (hasTs t))))]:=by
 refine Ctr.mk Tryz.call115 Tryz.func115 rfl mixed Tryz.ntmps115 Tryz.results115 (by kernel_rfl) rfl fun hw=>?_
 rcases h1 : t.op == 3 with _ | _ <;> simp only [go_sem,h1,hasTs] <;> simp only [Bool.false_and,Bool.true_and]
theorem sHasTs_spec (t : DTask) : Ctr Tryz.prog 113 [.agg t.c] [.val (.c (.v (.bool (hasTs t))))]:=by
 refine Ctr.mk Tryz.call113 Tryz.func113 rfl mixed Tryz.ntmps113 Tryz.results113 (by kernel_rfl) rfl fun hw=>?_
 rcases h1 : t.op == 3 with _ | _ <;> simp only [go_sem,h1,hasTs] <;> simp only [Bool.false_and,Bool.true_and]
def hzG (h : Int) (t : DTask) : Int:=if hasTs t = true then min h t.ts else h
def horizon (w : DWorld) : Int:=w.tasks.foldl hzG w.t
theorem foldTake {α β : Type} (g : β → α → β) (z : β) (l : List α) {k : Nat} (h : k < l.length) : (l.take (k + 1)).foldl g z = g ((l.take k).foldl g z) l[k]:=by
 rw [List.take_add_one,List.getElem?_eq_getElem h,List.foldl_append]
 rfl
theorem fitTasks {w : DWorld} (hf : fitWorld w) : w.tasks.length ≤ 1048576:=by
 rw [fitWorld_eq] at hf
 exact hf.2.2.2.2.2.2.1.1
theorem hz_le : ∀ (l : List DTask) (h : Int),l.foldl hzG h ≤ h
 | [],h=>Int.le_refl _
 | t :: l,h=>by
  refine Int.le_trans (hz_le l _) ?_
  unfold hzG
  split <;> omega
theorem horizon_le (w : DWorld) : horizon w ≤ w.t:=hz_le _ _
theorem iHorizon_spec (w : DWorld) (hf : fitWorld w) : Ctr Tryz.prog 66 [.agg w.c] [.val (.c (.v (.int .i64 (horizon w))))]:=by
 refine Ctr.mk Tryz.call66 Tryz.func66 rfl mixed Tryz.ntmps66 Tryz.results66 (by kernel_rfl) rfl fun hw=>?_
 have hl:=fitTasks hf
 simp only [go_sem]
 refine LoopU.mk 1 (A:=Nat) (fun x=>[(11,.c (.v (.int .i64 (x)))),(3,.c (.v (.int .i64 ((w.tasks.take x).foldl hzG w.t))))]) (fun _=>[⟨46,14,[w.c],true,true⟩]) (fun x=>x ≤ w.tasks.length) (fun x=>w.tasks.length - x) 0 ⟨⟨rfl,rfl⟩,rfl,Nat.zero_le _⟩ ?_
 intro k hk
 simp only [go_sem]
 refine cndC.mk (fun h=>?_) (fun h=>?_)
 ·have hk' : k < w.tasks.length:=by simpa using h
  have hfo:=foldTake hzG w.t w.tasks hk'
  simp only [go_sem,map_at _ hk',hk']
  try refine DrawK.mk ?_
  try simp only [go_sem,map_at _ hk',hk']
  first | refine CallF.mk _ (by simpa only [go_sem] using iHasTs_spec w.tasks[k]) ?_ | refine CallK.mk _ (by simpa only [go_sem] using iHasTs_spec w.tasks[k]) fun _=>?_
  rcases hc : hasTs w.tasks[k] with _ | _
  ·simp only [go_sem,hc,wrap_i64 (n:=(k : Int) + 1) (by omega) (by omega)]
   exact ⟨k + 1,⟨rfl,rfl⟩,by rw [hfo]; simp only [hzG,hc]; rfl,hk',by omega⟩
  ·have hmin : (if w.tasks[k].ts < (w.tasks.take k).foldl hzG w.t then w.tasks[k].ts else (w.tasks.take k).foldl hzG w.t) = (w.tasks.take (k + 1)).foldl hzG w.t:=by
    rw [hfo]; simp only [hzG,hc,if_true]; split <;> omega
   simp only [go_sem,hc,hmin,wrap_i64 (n:=(k : Int) + 1) (by omega) (by omega)]
   exact ⟨k + 1,⟨rfl,rfl⟩,rfl,hk',by omega⟩
 ·have hk' : k = w.tasks.length:=by simp at h; omega
  subst hk'
  simp only [go_sem,List.take_length]
  try rfl
theorem sHorizon_spec (w : DWorld) (hf : fitWorld w) : Ctr Tryz.prog 64 [.agg w.c] [.val (.c (.v (.int .i64 (horizon w))))]:=by
 refine Ctr.mk Tryz.call64 Tryz.func64 rfl mixed Tryz.ntmps64 Tryz.results64 (by kernel_rfl) rfl fun hw=>?_
 have hl:=fitTasks hf
 simp only [go_sem]
 refine LoopU.mk 1 (A:=Nat) (fun x=>[(4,.c (.v (.int .i64 (x)))),(3,.c (.v (.int .i64 ((w.tasks.take x).foldl hzG w.t))))]) (fun _=>[⟨46,14,[w.c],true,true⟩]) (fun x=>x ≤ w.tasks.length) (fun x=>w.tasks.length - x) 0 ⟨⟨rfl,rfl⟩,rfl,Nat.zero_le _⟩ ?_
 intro k hk
 simp only [go_sem]
 refine cndC.mk (fun h=>?_) (fun h=>?_)
 ·have hk' : k < w.tasks.length:=by simpa using h
  have hfo:=foldTake hzG w.t w.tasks hk'
  simp only [go_sem,map_at _ hk',hk']
  try refine DrawK.mk ?_
  try simp only [go_sem,map_at _ hk',hk']
  first | refine CallF.mk _ (by simpa only [go_sem] using sHasTs_spec w.tasks[k]) ?_ | refine CallK.mk _ (by simpa only [go_sem] using sHasTs_spec w.tasks[k]) fun _=>?_
  rcases hc : hasTs w.tasks[k] with _ | _
  ·simp only [go_sem,hc,map_at _ hk',hk',wrap_i64 (n:=(k : Int) + 1) (by omega) (by omega)]
   exact ⟨k + 1,⟨rfl,rfl⟩,by rw [hfo]; simp only [hzG,hc]; rfl,hk',by omega⟩
  ·simp only [go_sem,hc,map_at _ hk',hk',wrap_i64 (n:=(k : Int) + 1) (by omega) (by omega)]
   rcases hd : decide (w.tasks[k].ts < (w.tasks.take k).foldl hzG w.t) with _ | _
   ·simp only [go_sem,map_at _ hk',hk',hd,wrap_i64 (n:=(k : Int) + 1) (by omega) (by omega)]
    exact ⟨k + 1,⟨rfl,rfl⟩,by rw [hfo]; simp only [hzG,hc,if_true]; rw [Int.min_eq_left (by simp at hd; omega)]; rfl,hk',by omega⟩
   ·simp only [go_sem,map_at _ hk',hk',hd,wrap_i64 (n:=(k : Int) + 1) (by omega) (by omega)]
    exact ⟨k + 1,⟨rfl,rfl⟩,by rw [hfo]; simp only [hzG,hc,if_true]; rw [Int.min_eq_right (by simp at hd; omega)]; rfl,hk',by omega⟩
 ·have hk' : k = w.tasks.length:=by simp at h; omega
  subst hk'
  simp only [go_sem,List.take_length]
  try rfl
theorem reverse_spec (xs : List Int) (hl : xs.length ≤ 1048576) :
  MCtr Tryz.prog 118 false [.ow 3 1 (xs.map intC)] [] (fun cl' rs=>cl' = [.ow 3 1 (xs.reverse.map intC)] ∧ rs = []):=by
 refine MCtr.mk (fn:=Tryz.f118) Tryz.call118 Tryz.func118 rfl mixed Tryz.ntmps118 Tryz.results118 (by kernel_rfl) rfl (.inr rfl) fun us hw0 hw=>?_
 simp only [go_sem,wrap_i64 (n:=(xs.length : Int) - 1) (by omega) (by omega)]
 refine LoopK.mk 1 [0,2,3] (A:=Nat × List Int) (fun x=>⟨28,[(0,.pin (.c (.ref 0)) (mkV false us)),(2,.c (.v (.int .i64 (x.1)))),(3,.c (.v (.int .i64 ((xs.length : Int) - 1 - x.1))))],[⟨3,1,x.2.map intC,true,true⟩]⟩)
  (fun x=>x.1 ≤ xs.length ∧ x.2.length = xs.length ∧ ∀ m : Nat,m < xs.length → x.2[m]? = if m < x.1 ∨ xs.length - x.1 ≤ m then xs[xs.length - 1 - m]? else xs[m]?) (fun x=>xs.length - x.1) (0,xs) ⟨⟨rfl,by simp only [List.take_succ_cons,List.take_zero,List.all_cons,List.all_nil,Bool.and_true]; exact clo_noRefOb (cloE_map fun _=>rfl)⟩,by simp [trim,eget],Nat.zero_le _,rfl,fun m hm=>by rw [if_neg (by simp only; omega)]⟩ ?_
 rintro ⟨k,ys⟩ ⟨h1,h2,h3⟩
 dsimp only at h1 h2 h3
 simp only [go_sem]
 refine cndC.mk (fun h=>?_) (fun h=>?_)
 ·have hlt : (k : Int) < (xs.length : Int) - 1 - k:=by simpa using h
  obtain ⟨j,hj⟩ : ∃ j,xs.length = k + 1 + j:=⟨xs.length - k - 1,by omega⟩
  have ej : (xs.length : Int) - 1 - k = (j : Int):=by omega
  have hjy : j < ys.length:=by omega
  have hky : k < ys.length:=by omega
  have e1 : (ys.map intC)[k]? = some [.v (.int .i64 ys[k])]:=by simp [hky,intC]
  have e2 : (ys.map intC)[j]? = some [.v (.int .i64 ys[j])]:=by simp [hjy,intC]
  have hset : ∀ (zs : List Int) (m : Nat) (n : Int),(zs.map intC).set m [Cl.v (.int .i64 n)] = (zs.set m n).map intC:=fun zs m n=>by rw [List.map_set]; rfl
  have hjk : (ys.set k ys[j]).length = ys.length:=by simp
  have hjy2 : j < (ys.set k ys[j]).length:=by omega
  simp only [go_sem,ej,e1,e2,hky,hjy,hset]
  refine DrawK.mkE ?_
  have e3 : ((ys.set k ys[j]).map intC)[j]? = some [.v (.int .i64 ys[j])]:=by
   rw [List.getElem?_map,List.getElem?_set,if_neg (by omega),List.getElem?_eq_getElem hjy]; rfl
  simp only [go_sem,ej,e1,e2,e3,hky,hjy,hset,List.length_set,List.drop_succ_cons,List.drop_zero,wrap_i64 (n:=(k : Int) + 1) (by omega) (by omega),wrap_i64 (n:=(j : Int) - 1) (by omega) (by omega)]
  refine ⟨(k + 1,(ys.set k ys[j]).set j ys[k]),⟨rfl, ?_⟩, ?_,⟨by simp only; omega,by simp only [List.length_set]; exact h2,fun m hm=>?_⟩,by simp only; omega⟩
  ·simp only [List.take_succ_cons,List.take_zero,List.all_cons,List.all_nil,Bool.and_true]; exact clo_noRefOb (cloE_map fun _=>rfl)
  ·simp [trim,eget]; omega
  ·simp only at hm ⊢
   have hyk : ys[k] = xs[k]:=by
    have:=h3 k (by omega)
    rw [if_neg (by omega),List.getElem?_eq_getElem hky,List.getElem?_eq_getElem (by omega)] at this
    exact Option.some.inj this
   have hyj : ys[j] = xs[j]:=by
    have:=h3 j (by omega)
    rw [if_neg (by omega),List.getElem?_eq_getElem hjy,List.getElem?_eq_getElem (by omega)] at this
    exact Option.some.inj this
   rw [List.getElem?_set]
   by_cases e3 : j = m
   ·subst e3
    rw [if_pos rfl,if_pos hjy2,if_pos (by omega),hyk,show xs.length - 1 - j = k by omega,List.getElem?_eq_getElem (by omega)]
   ·rw [if_neg e3,List.getElem?_set]
    by_cases e4 : k = m
    ·subst e4
     rw [if_pos rfl,if_pos hky,if_pos (by omega),hyj,show xs.length - 1 - k = j by omega,List.getElem?_eq_getElem (by omega)]
    ·rw [if_neg e4,h3 m hm]
     by_cases e5 : m < k ∨ xs.length - k ≤ m
     ·rw [if_pos e5,if_pos (by omega)]
     ·rw [if_neg e5,if_neg (by omega)]
 ·have hge : ¬ ((k : Int) < (xs.length : Int) - 1 - k):=by simpa using h
  have : ys = xs.reverse:=by
   apply List.ext_getElem?
   intro m
   rcases Nat.lt_or_ge m xs.length with hm | hm
   ·rw [h3 m hm,List.getElem?_reverse hm]
    split
    ·rfl
    ·have : m = xs.length - 1 - m:=by omega
     rw [← this]
   ·rw [List.getElem?_eq_none (by omega),List.getElem?_eq_none (by simpa using hm)]
  subst this
  simp only [go_sem]
  exact ⟨[.ref 0],[.ow 3 1 (xs.reverse.map intC)],[],rfl,.inr rfl,⟨rfl,rfl,rfl,rfl,nr_int _,by simp,trivial⟩,by simp only [cloL,cloC,Bool.and_true]; exact cloE_map fun _=>rfl,rfl,rfl,rfl,rfl⟩
end Go.Proofs.YthoeeoddgkjkkaaGreat
