/- Walks: Used, Ripe, Waits, Ripes. -/
import Derived.Test.YtajokmlnpnfkoaaMa
namespace Go.Proofs.Ytajokmlnpnfkoaa
set_option linter.unusedSimpArgs false
set_option linter.unusedVariables false
open Go.Vm
set_option maxHeartbeats 1000000
set_option maxRecDepth 10000

def used (w : DWorld) : Int := IntKind.i64.wrap (w.b.length - freeOf w.b)
theorem sUsed_spec (w : DWorld) : Ctr Try.prog 18 [.agg w.c] [.val (.c (.v (.int .i64 (used w))))] := by
  refine Ctr.mk (fn := Try.f18) Try.call18 Try.func18 rfl mixed Try.ntmps18 Try.results18 (by kernel_rfl) rfl fun hw => ?_
  simp only [go_sem, List.getElem?_toArray, Nat.reduceAdd, Nat.reduceSub, Nat.reduceMul, Nat.reduceLT, Nat.reduceLeDiff, Nat.reduceEqDiff, Nat.succ_ne_zero, reduceIte, List.length_map]
  try refine DrawK.mk ?_
  try simp only [go_sem, List.getElem?_toArray, Nat.reduceAdd, Nat.reduceSub, Nat.reduceMul, Nat.reduceLT, Nat.reduceLeDiff, Nat.reduceEqDiff, Nat.succ_ne_zero, reduceIte, List.length_map]
  first | refine CallF.mk _ (by simpa only [go_sem] using sFreeOf_spec w.b) ?_ | refine CallK.mk _ (by simpa only [go_sem] using sFreeOf_spec w.b) fun _ => ?_
  simp only [go_sem, List.getElem?_toArray, Nat.reduceAdd, Nat.reduceSub, Nat.reduceMul, Nat.reduceLT, Nat.reduceLeDiff, Nat.reduceEqDiff, Nat.succ_ne_zero, reduceIte, List.length_map]
  try rfl
theorem iUsed_spec (w : DWorld) : Ctr Try.prog 19 [.agg w.c] [.val (.c (.v (.int .i64 (used w))))] := by
  refine Ctr.mk (fn := Try.f19) Try.call19 Try.func19 rfl mixed Try.ntmps19 Try.results19 (by kernel_rfl) rfl fun hw => ?_
  simp only [go_sem, List.getElem?_toArray, Nat.reduceAdd, Nat.reduceSub, Nat.reduceMul, Nat.reduceLT, Nat.reduceLeDiff, Nat.reduceEqDiff, Nat.succ_ne_zero, reduceIte, List.length_map]
  try refine DrawK.mk ?_
  try simp only [go_sem, List.getElem?_toArray, Nat.reduceAdd, Nat.reduceSub, Nat.reduceMul, Nat.reduceLT, Nat.reduceLeDiff, Nat.reduceEqDiff, Nat.succ_ne_zero, reduceIte, List.length_map]
  first | refine CallF.mk _ (by simpa only [go_sem] using iFreeOf_spec w.b) ?_ | refine CallK.mk _ (by simpa only [go_sem] using iFreeOf_spec w.b) fun _ => ?_
  simp only [go_sem, List.getElem?_toArray, Nat.reduceAdd, Nat.reduceSub, Nat.reduceMul, Nat.reduceLT, Nat.reduceLeDiff, Nat.reduceEqDiff, Nat.succ_ne_zero, reduceIte, List.length_map]
  try rfl

def ripe (d : DDead) (e : Int) : Bool := decide (e ≥ 2) && decide (d.at0 ≤ IntKind.i64.wrap (e - 2))
theorem sRipe_spec (d : DDead) (e : Int) : Ctr Try.prog 64 [.agg d.c, .c (.v (.int .i64 e))] [.val (.c (.v (.bool (ripe d e))))] := by
  refine Ctr.mk (fn := Try.f64) Try.call64 Try.func64 rfl mixed Try.ntmps64 Try.results64 (by kernel_rfl) rfl fun hw => ?_
  rcases h1 : decide (e ≥ 2) with _ | _ <;> simp only [go_sem, List.getElem?_toArray, Nat.reduceAdd, Nat.reduceSub, Nat.reduceMul, Nat.reduceLT, Nat.reduceLeDiff, Nat.reduceEqDiff, Nat.succ_ne_zero, reduceIte, h1] <;> simp only [ripe, h1, Bool.false_and, Bool.true_and]
theorem iRipe_spec (d : DDead) (e : Int) : Ctr Try.prog 65 [.agg d.c, .c (.v (.int .i64 e))] [.val (.c (.v (.bool (ripe d e))))] := by
  refine Ctr.mk (fn := Try.f65) Try.call65 Try.func65 rfl mixed Try.ntmps65 Try.results65 (by kernel_rfl) rfl fun hw => ?_
  rcases h1 : decide (e ≥ 2) with _ | _ <;> simp only [go_sem, List.getElem?_toArray, Nat.reduceAdd, Nat.reduceSub, Nat.reduceMul, Nat.reduceLT, Nat.reduceLeDiff, Nat.reduceEqDiff, Nat.succ_ne_zero, reduceIte, h1] <;> simp only [ripe, h1, Bool.false_and, Bool.true_and]

def waitsG (e : Int) (n : Int) (d : DDead) : Int := if ripe d e = false then IntKind.i64.wrap (n + 1) else n
def waits (l : List DDead) (e : Int) : Int := l.foldl (waitsG e) 0
theorem sWaits_spec (l : List DDead) (e : Int) : Ctr Try.prog 47 [.c (.sl (l.map DDead.c)), .c (.v (.int .i64 e))] [.val (.c (.v (.int .i64 (waits l e))))] := by
  refine Ctr.mk (fn := Try.f47) Try.call47 Try.func47 rfl mixed Try.ntmps47 Try.results47 (by kernel_rfl) rfl fun hw => ?_
  have hlen : l.length ≤ 9223372036854775807 := by have := hw.1.1; simpa [Go.maxLen] using this
  simp only [go_sem, List.getElem?_toArray, Nat.reduceAdd, Nat.reduceSub, Nat.reduceMul, Nat.reduceLT, Nat.reduceLeDiff, Nat.reduceEqDiff, Nat.succ_ne_zero, reduceIte, List.length_map]
  refine LoopK.mk 0 [0, 1, 5, 6] (A := Nat) (fun k => ⟨23, [(0, .c (.sl (l.map DDead.c))), (1, .c (.v (.int .i64 e))), (5, .c (.v (.int .i64 ((l.take k).foldl (waitsG e) 0)))), (6, .c (.v (.int .i64 k)))], []⟩) (fun k => k ≤ l.length) (fun k => l.length - k) 0 ⟨⟨rfl, rfl⟩, rfl, Nat.zero_le _⟩ ?_
  intro k hk
  simp only [go_sem, List.getElem?_toArray, Nat.reduceAdd, Nat.reduceSub, Nat.reduceMul, Nat.reduceLT, Nat.reduceLeDiff, Nat.reduceEqDiff, Nat.succ_ne_zero, reduceIte, List.length_map]
  refine cndC.mk (fun h => ?_) (fun h => ?_)
  · have hk' : k < l.length := by simpa using h
    have hf := fold_take (waitsG e) 0 l hk'
    simp only [go_sem, List.getElem?_toArray, Nat.reduceAdd, Nat.reduceSub, Nat.reduceMul, Nat.reduceLT, Nat.reduceLeDiff, Nat.reduceEqDiff, Nat.succ_ne_zero, reduceIte, List.length_map, map_at _ hk', hk']
    try refine DrawK.mk ?_
    try simp only [go_sem, List.getElem?_toArray, Nat.reduceAdd, Nat.reduceSub, Nat.reduceMul, Nat.reduceLT, Nat.reduceLeDiff, Nat.reduceEqDiff, Nat.succ_ne_zero, reduceIte, List.length_map, map_at _ hk', hk']
    first | refine CallF.mk _ (by simpa only [go_sem] using sRipe_spec l[k] e) ?_ | refine CallK.mk _ (by simpa only [go_sem] using sRipe_spec l[k] e) fun _ => ?_
    rcases hc : ripe l[k] e with _ | _ <;>
      simp only [go_sem, List.getElem?_toArray, Nat.reduceAdd, Nat.reduceSub, Nat.reduceMul, Nat.reduceLT, Nat.reduceLeDiff, Nat.reduceEqDiff, Nat.succ_ne_zero, reduceIte, List.length_map, map_at _ hk', hk', hc, wrap_i64 (n := (k : Int) + 1) (by omega) (by omega)] <;>
      exact ⟨k + 1, ⟨rfl, rfl⟩, by simp only [hf, waitsG, hc]; rfl, by omega, by omega⟩
  · have hk' : k = l.length := by simp at h; omega
    subst hk'
    simp only [go_sem, List.getElem?_toArray, Nat.reduceAdd, Nat.reduceSub, Nat.reduceMul, Nat.reduceLT, Nat.reduceLeDiff, Nat.reduceEqDiff, Nat.succ_ne_zero, reduceIte, List.take_length]
    try rfl
theorem iWaits_spec (l : List DDead) (e : Int) : Ctr Try.prog 48 [.c (.sl (l.map DDead.c)), .c (.v (.int .i64 e))] [.val (.c (.v (.int .i64 (waits l e))))] := by
  refine Ctr.mk (fn := Try.f48) Try.call48 Try.func48 rfl mixed Try.ntmps48 Try.results48 (by kernel_rfl) rfl fun hw => ?_
  have hlen : l.length ≤ 9223372036854775807 := by have := hw.1.1; simpa [Go.maxLen] using this
  simp only [go_sem, List.getElem?_toArray, Nat.reduceAdd, Nat.reduceSub, Nat.reduceMul, Nat.reduceLT, Nat.reduceLeDiff, Nat.reduceEqDiff, Nat.succ_ne_zero, reduceIte, List.length_map]
  refine LoopK.mk 0 [1, 5, 8, 9, 10] (A := Nat) (fun k => ⟨22, [(1, .c (.v (.int .i64 e))), (5, .c (.v (.int .i64 ((l.take k).foldl (waitsG e) 0)))), (8, .c (.sl (l.map DDead.c))), (9, .c (.v (.int .i64 l.length))), (10, .c (.v (.int .i64 k)))], []⟩) (fun k => k ≤ l.length) (fun k => l.length - k) 0 ⟨⟨rfl, rfl⟩, rfl, Nat.zero_le _⟩ ?_
  intro k hk
  simp only [go_sem, List.getElem?_toArray, Nat.reduceAdd, Nat.reduceSub, Nat.reduceMul, Nat.reduceLT, Nat.reduceLeDiff, Nat.reduceEqDiff, Nat.succ_ne_zero, reduceIte, List.length_map]
  refine cndC.mk (fun h => ?_) (fun h => ?_)
  · have hk' : k < l.length := by simpa using h
    have hf := fold_take (waitsG e) 0 l hk'
    simp only [go_sem, List.getElem?_toArray, Nat.reduceAdd, Nat.reduceSub, Nat.reduceMul, Nat.reduceLT, Nat.reduceLeDiff, Nat.reduceEqDiff, Nat.succ_ne_zero, reduceIte, List.length_map, map_at _ hk', hk']
    try refine DrawK.mk ?_
    try simp only [go_sem, List.getElem?_toArray, Nat.reduceAdd, Nat.reduceSub, Nat.reduceMul, Nat.reduceLT, Nat.reduceLeDiff, Nat.reduceEqDiff, Nat.succ_ne_zero, reduceIte, List.length_map, map_at _ hk', hk']
    first | refine CallF.mk _ (by simpa only [go_sem] using iRipe_spec l[k] e) ?_ | refine CallK.mk _ (by simpa only [go_sem] using iRipe_spec l[k] e) fun _ => ?_
    rcases hc : ripe l[k] e with _ | _ <;>
      simp only [go_sem, List.getElem?_toArray, Nat.reduceAdd, Nat.reduceSub, Nat.reduceMul, Nat.reduceLT, Nat.reduceLeDiff, Nat.reduceEqDiff, Nat.succ_ne_zero, reduceIte, List.length_map, map_at _ hk', hk', hc, wrap_i64 (n := (k : Int) + 1) (by omega) (by omega)] <;>
      exact ⟨k + 1, ⟨rfl, rfl⟩, by simp only [hf, waitsG, hc]; rfl, by omega, by omega⟩
  · have hk' : k = l.length := by simp at h; omega
    subst hk'
    simp only [go_sem, List.getElem?_toArray, Nat.reduceAdd, Nat.reduceSub, Nat.reduceMul, Nat.reduceLT, Nat.reduceLeDiff, Nat.reduceEqDiff, Nat.succ_ne_zero, reduceIte, List.take_length]
    try rfl

def ripes (w : DWorld) : Int := IntKind.i64.wrap (w.x.length - waits w.x w.e)
theorem sRipes_spec (w : DWorld) : Ctr Try.prog 20 [.agg w.c] [.val (.c (.v (.int .i64 (ripes w))))] := by
  refine Ctr.mk (fn := Try.f20) Try.call20 Try.func20 rfl mixed Try.ntmps20 Try.results20 (by kernel_rfl) rfl fun hw => ?_
  simp only [go_sem, List.getElem?_toArray, Nat.reduceAdd, Nat.reduceSub, Nat.reduceMul, Nat.reduceLT, Nat.reduceLeDiff, Nat.reduceEqDiff, Nat.succ_ne_zero, reduceIte, List.length_map]
  try refine DrawK.mk ?_
  try simp only [go_sem, List.getElem?_toArray, Nat.reduceAdd, Nat.reduceSub, Nat.reduceMul, Nat.reduceLT, Nat.reduceLeDiff, Nat.reduceEqDiff, Nat.succ_ne_zero, reduceIte, List.length_map]
  first | refine CallF.mk _ (by simpa only [go_sem] using sWaits_spec w.x w.e) ?_ | refine CallK.mk _ (by simpa only [go_sem] using sWaits_spec w.x w.e) fun _ => ?_
  simp only [go_sem, List.getElem?_toArray, Nat.reduceAdd, Nat.reduceSub, Nat.reduceMul, Nat.reduceLT, Nat.reduceLeDiff, Nat.reduceEqDiff, Nat.succ_ne_zero, reduceIte, List.length_map]
  try rfl
theorem iRipes_spec (w : DWorld) : Ctr Try.prog 21 [.agg w.c] [.val (.c (.v (.int .i64 (ripes w))))] := by
  refine Ctr.mk (fn := Try.f21) Try.call21 Try.func21 rfl mixed Try.ntmps21 Try.results21 (by kernel_rfl) rfl fun hw => ?_
  simp only [go_sem, List.getElem?_toArray, Nat.reduceAdd, Nat.reduceSub, Nat.reduceMul, Nat.reduceLT, Nat.reduceLeDiff, Nat.reduceEqDiff, Nat.succ_ne_zero, reduceIte, List.length_map]
  try refine DrawK.mk ?_
  try simp only [go_sem, List.getElem?_toArray, Nat.reduceAdd, Nat.reduceSub, Nat.reduceMul, Nat.reduceLT, Nat.reduceLeDiff, Nat.reduceEqDiff, Nat.succ_ne_zero, reduceIte, List.length_map]
  first | refine CallF.mk _ (by simpa only [go_sem] using iWaits_spec w.x w.e) ?_ | refine CallK.mk _ (by simpa only [go_sem] using iWaits_spec w.x w.e) fun _ => ?_
  simp only [go_sem, List.getElem?_toArray, Nat.reduceAdd, Nat.reduceSub, Nat.reduceMul, Nat.reduceLT, Nat.reduceLeDiff, Nat.reduceEqDiff, Nat.succ_ne_zero, reduceIte, List.length_map]
  try rfl
end Go.Proofs.Ytajokmlnpnfkoaa
