/- Walks of the counting functions: Bound, BytesOf, PackedOf, FreeOf, Used, Waits, Ripes. -/
import Derived.Test.YtajokmlnpnfkoaaDa
import Derived.Test.YtajokmlnpnfkoaaTy
namespace Go.Proofs.Ytajokmlnpnfkoaa
set_option linter.unusedSimpArgs false
set_option linter.unusedVariables false
open Go.Vm
set_option linter.unusedSimpArgs false
set_option linter.unusedVariables false
set_option maxHeartbeats 1000000
set_option maxRecDepth 10000

theorem fold_take {α : Type} (g : Int → α → Int) (n0 : Int) (l : List α) {k : Nat} (h : k < l.length) : (l.take (k + 1)).foldl g n0 = g ((l.take k).foldl g n0) l[k] := by
  rw [List.take_succ_eq_append_getElem h, List.foldl_append]; rfl

def bound (w : DWorld) : Int := w.tasks.foldl (fun n t => if (t.op == 3) = true then IntKind.i64.wrap (n + 800) else n) (IntKind.i64.wrap (IntKind.i64.wrap (200 + IntKind.i64.wrap (100 * w.d.l.length)) + IntKind.i64.wrap (8 * w.x.length)))
theorem sBound_spec (w : DWorld) : Ctr Try.prog 10 [.agg w.c] [.val (.c (.v (.int .i64 (bound w))))] := by
  refine Ctr.mk (fn := Try.f10) Try.call10 Try.func10 rfl mixed Try.ntmps10 Try.results10 (by kernel_rfl) rfl fun hw => ?_
  have hlen : w.tasks.length ≤ 9223372036854775807 := by
    have := hw.1.2.2.2.2.2.2.2.2.2.2.2.2.1.1; simpa [Go.maxLen] using this
  simp only [go_sem, List.getElem?_toArray, Nat.reduceAdd, Nat.reduceSub, Nat.reduceMul, Nat.reduceLT, Nat.reduceLeDiff, Nat.reduceEqDiff, Nat.succ_ne_zero, reduceIte, List.length_map]
  refine LoopK.mk 1 [1, 3, 4] (A := Nat) (fun k => ⟨33, [(1, .lp 0 0 0), (3, .c (.v (.int .i64 ((w.tasks.take k).foldl (fun n t => if (t.op == 3) = true then IntKind.i64.wrap (n + 800) else n) (IntKind.i64.wrap (IntKind.i64.wrap (200 + IntKind.i64.wrap (100 * w.d.l.length)) + IntKind.i64.wrap (8 * w.x.length))))))), (4, .c (.v (.int .i64 k)))], [⟨45, 14, [w.c], true, true⟩]⟩) (fun k => k ≤ w.tasks.length) (fun k => w.tasks.length - k) 0 ⟨⟨rfl, rfl⟩, rfl, Nat.zero_le _⟩ ?_
  intro k hk
  simp only [go_sem, List.getElem?_toArray, Nat.reduceAdd, Nat.reduceSub, Nat.reduceMul, Nat.reduceLT, Nat.reduceLeDiff, Nat.reduceEqDiff, Nat.succ_ne_zero, reduceIte, List.length_map]
  refine cndC.mk (fun h => ?_) (fun h => ?_)
  · have hk' : k < w.tasks.length := by simpa using h
    have hf := fold_take (fun n t => if (t.op == 3) = true then IntKind.i64.wrap (n + 800) else n) (IntKind.i64.wrap (IntKind.i64.wrap (200 + IntKind.i64.wrap (100 * w.d.l.length)) + IntKind.i64.wrap (8 * w.x.length))) w.tasks hk'
    rcases hc : w.tasks[k].op == 3 with _ | _ <;>
      simp only [go_sem, List.getElem?_toArray, Nat.reduceAdd, Nat.reduceSub, Nat.reduceMul, Nat.reduceLT, Nat.reduceLeDiff, Nat.reduceEqDiff, Nat.succ_ne_zero, reduceIte, List.length_map, map_at _ hk', hk', hc, wrap_i64 (n := (k : Int) + 1) (by omega) (by omega)] <;>
      exact ⟨k + 1, ⟨rfl, rfl⟩, by simp only [hf, hc]; rfl, by omega, by omega⟩
  · have hk' : k = w.tasks.length := by simp at h; omega
    subst hk'
    simp only [go_sem, List.getElem?_toArray, Nat.reduceAdd, Nat.reduceSub, Nat.reduceMul, Nat.reduceLT, Nat.reduceLeDiff, Nat.reduceEqDiff, Nat.succ_ne_zero, reduceIte, List.take_length]
    try rfl

theorem iBound_spec (w : DWorld) : Ctr Try.prog 12 [.agg w.c] [.val (.c (.v (.int .i64 (bound w))))] := by
  refine Ctr.mk (fn := Try.f12) Try.call12 Try.func12 rfl mixed Try.ntmps12 Try.results12 (by kernel_rfl) rfl fun hw => ?_
  have hlen : w.tasks.length ≤ 9223372036854775807 := by
    have := hw.1.2.2.2.2.2.2.2.2.2.2.2.2.1.1; simpa [Go.maxLen] using this
  simp only [go_sem, List.getElem?_toArray, Nat.reduceAdd, Nat.reduceSub, Nat.reduceMul, Nat.reduceLT, Nat.reduceLeDiff, Nat.reduceEqDiff, Nat.succ_ne_zero, reduceIte, List.length_map]
  refine LoopK.mk 1 [1, 3, 18, 19, 20] (A := Nat) (fun k => ⟨31, [(1, .lp 0 0 0), (3, .c (.v (.int .i64 ((w.tasks.take k).foldl (fun n t => if (t.op == 3) = true then IntKind.i64.wrap (n + 800) else n) (IntKind.i64.wrap (IntKind.i64.wrap (200 + IntKind.i64.wrap (100 * w.d.l.length)) + IntKind.i64.wrap (8 * w.x.length))))))), (18, .c (.sl (w.tasks.map DTask.c))), (19, .c (.v (.int .i64 w.tasks.length))), (20, .c (.v (.int .i64 k)))], [⟨45, 14, [w.c], true, true⟩]⟩) (fun k => k ≤ w.tasks.length) (fun k => w.tasks.length - k) 0 ⟨⟨rfl, rfl⟩, rfl, Nat.zero_le _⟩ ?_
  intro k hk
  simp only [go_sem, List.getElem?_toArray, Nat.reduceAdd, Nat.reduceSub, Nat.reduceMul, Nat.reduceLT, Nat.reduceLeDiff, Nat.reduceEqDiff, Nat.succ_ne_zero, reduceIte, List.length_map]
  refine cndC.mk (fun h => ?_) (fun h => ?_)
  · have hk' : k < w.tasks.length := by simpa using h
    have hf := fold_take (fun n t => if (t.op == 3) = true then IntKind.i64.wrap (n + 800) else n) (IntKind.i64.wrap (IntKind.i64.wrap (200 + IntKind.i64.wrap (100 * w.d.l.length)) + IntKind.i64.wrap (8 * w.x.length))) w.tasks hk'
    rcases hc : w.tasks[k].op == 3 with _ | _ <;>
      simp only [go_sem, List.getElem?_toArray, Nat.reduceAdd, Nat.reduceSub, Nat.reduceMul, Nat.reduceLT, Nat.reduceLeDiff, Nat.reduceEqDiff, Nat.succ_ne_zero, reduceIte, List.length_map, map_at _ hk', hk', hc, wrap_i64 (n := (k : Int) + 1) (by omega) (by omega)] <;>
      exact ⟨k + 1, ⟨rfl, rfl⟩, by simp only [hf, hc]; rfl, by omega, by omega⟩
  · have hk' : k = w.tasks.length := by simp at h; omega
    subst hk'
    simp only [go_sem, List.getElem?_toArray, Nat.reduceAdd, Nat.reduceSub, Nat.reduceMul, Nat.reduceLT, Nat.reduceLeDiff, Nat.reduceEqDiff, Nat.succ_ne_zero, reduceIte, List.take_length]
    try rfl

def bytesOf (w : DWorld) : Int := w.b.foldl (fun n t => if (t.kind == 2) = true then IntKind.i64.wrap (n + t.g.length) else n) 0
theorem sBytesOf_spec (w : DWorld) : Ctr Try.prog 14 [.agg w.c] [.val (.c (.v (.int .i64 (bytesOf w))))] := by
  refine Ctr.mk (fn := Try.f14) Try.call14 Try.func14 rfl mixed Try.ntmps14 Try.results14 (by kernel_rfl) rfl fun hw => ?_
  have hlen : w.b.length ≤ 9223372036854775807 := by
    have := hw.1.2.2.2.2.2.2.2.2.1.1; simpa [Go.maxLen] using this
  simp only [go_sem, List.getElem?_toArray, Nat.reduceAdd, Nat.reduceSub, Nat.reduceMul, Nat.reduceLT, Nat.reduceLeDiff, Nat.reduceEqDiff, Nat.succ_ne_zero, reduceIte, List.length_map]
  refine LoopK.mk 1 [1, 3, 4] (A := Nat) (fun k => ⟨29, [(1, .lp 0 0 0), (3, .c (.v (.int .i64 ((w.b.take k).foldl (fun n t => if (t.kind == 2) = true then IntKind.i64.wrap (n + t.g.length) else n) (0))))), (4, .c (.v (.int .i64 k)))], [⟨45, 14, [w.c], true, true⟩]⟩) (fun k => k ≤ w.b.length) (fun k => w.b.length - k) 0 ⟨⟨rfl, rfl⟩, rfl, Nat.zero_le _⟩ ?_
  intro k hk
  simp only [go_sem, List.getElem?_toArray, Nat.reduceAdd, Nat.reduceSub, Nat.reduceMul, Nat.reduceLT, Nat.reduceLeDiff, Nat.reduceEqDiff, Nat.succ_ne_zero, reduceIte, List.length_map]
  refine cndC.mk (fun h => ?_) (fun h => ?_)
  · have hk' : k < w.b.length := by simpa using h
    have hf := fold_take (fun n t => if (t.kind == 2) = true then IntKind.i64.wrap (n + t.g.length) else n) (0) w.b hk'
    rcases hc : w.b[k].kind == 2 with _ | _ <;>
      simp only [go_sem, List.getElem?_toArray, Nat.reduceAdd, Nat.reduceSub, Nat.reduceMul, Nat.reduceLT, Nat.reduceLeDiff, Nat.reduceEqDiff, Nat.succ_ne_zero, reduceIte, List.length_map, map_at _ hk', hk', hc, wrap_i64 (n := (k : Int) + 1) (by omega) (by omega)] <;>
      exact ⟨k + 1, ⟨rfl, rfl⟩, by simp only [hf, hc]; rfl, by omega, by omega⟩
  · have hk' : k = w.b.length := by simp at h; omega
    subst hk'
    simp only [go_sem, List.getElem?_toArray, Nat.reduceAdd, Nat.reduceSub, Nat.reduceMul, Nat.reduceLT, Nat.reduceLeDiff, Nat.reduceEqDiff, Nat.succ_ne_zero, reduceIte, List.take_length]
    try rfl

theorem iBytesOf_spec (w : DWorld) : Ctr Try.prog 15 [.agg w.c] [.val (.c (.v (.int .i64 (bytesOf w))))] := by
  refine Ctr.mk (fn := Try.f15) Try.call15 Try.func15 rfl mixed Try.ntmps15 Try.results15 (by kernel_rfl) rfl fun hw => ?_
  have hlen : w.b.length ≤ 9223372036854775807 := by
    have := hw.1.2.2.2.2.2.2.2.2.1.1; simpa [Go.maxLen] using this
  simp only [go_sem, List.getElem?_toArray, Nat.reduceAdd, Nat.reduceSub, Nat.reduceMul, Nat.reduceLT, Nat.reduceLeDiff, Nat.reduceEqDiff, Nat.succ_ne_zero, reduceIte, List.length_map]
  refine LoopK.mk 1 [1, 3, 7, 8, 9] (A := Nat) (fun k => ⟨23, [(1, .lp 0 0 0), (3, .c (.v (.int .i64 ((w.b.take k).foldl (fun n t => if (t.kind == 2) = true then IntKind.i64.wrap (n + t.g.length) else n) (0))))), (7, .c (.sl (w.b.map DBuf.c))), (8, .c (.v (.int .i64 w.b.length))), (9, .c (.v (.int .i64 k)))], [⟨45, 14, [w.c], true, true⟩]⟩) (fun k => k ≤ w.b.length) (fun k => w.b.length - k) 0 ⟨⟨rfl, rfl⟩, rfl, Nat.zero_le _⟩ ?_
  intro k hk
  simp only [go_sem, List.getElem?_toArray, Nat.reduceAdd, Nat.reduceSub, Nat.reduceMul, Nat.reduceLT, Nat.reduceLeDiff, Nat.reduceEqDiff, Nat.succ_ne_zero, reduceIte, List.length_map]
  refine cndC.mk (fun h => ?_) (fun h => ?_)
  · have hk' : k < w.b.length := by simpa using h
    have hf := fold_take (fun n t => if (t.kind == 2) = true then IntKind.i64.wrap (n + t.g.length) else n) (0) w.b hk'
    rcases hc : w.b[k].kind == 2 with _ | _ <;>
      simp only [go_sem, List.getElem?_toArray, Nat.reduceAdd, Nat.reduceSub, Nat.reduceMul, Nat.reduceLT, Nat.reduceLeDiff, Nat.reduceEqDiff, Nat.succ_ne_zero, reduceIte, List.length_map, map_at _ hk', hk', hc, wrap_i64 (n := (k : Int) + 1) (by omega) (by omega)] <;>
      exact ⟨k + 1, ⟨rfl, rfl⟩, by simp only [hf, hc]; rfl, by omega, by omega⟩
  · have hk' : k = w.b.length := by simp at h; omega
    subst hk'
    simp only [go_sem, List.getElem?_toArray, Nat.reduceAdd, Nat.reduceSub, Nat.reduceMul, Nat.reduceLT, Nat.reduceLeDiff, Nat.reduceEqDiff, Nat.succ_ne_zero, reduceIte, List.take_length]
    try rfl

def packedOf (w : DWorld) : Int := w.d.l.foldl (fun n t => if (t.kind == 2) = true then IntKind.i64.wrap (n + 1) else n) 0
theorem sPackedOf_spec (w : DWorld) : Ctr Try.prog 16 [.agg w.c] [.val (.c (.v (.int .i64 (packedOf w))))] := by
  refine Ctr.mk (fn := Try.f16) Try.call16 Try.func16 rfl mixed Try.ntmps16 Try.results16 (by kernel_rfl) rfl fun hw => ?_
  have hlen : w.d.l.length ≤ 9223372036854775807 := by
    have := hw.1.2.2.2.2.2.2.2.1.1; simpa [Go.maxLen] using this
  simp only [go_sem, List.getElem?_toArray, Nat.reduceAdd, Nat.reduceSub, Nat.reduceMul, Nat.reduceLT, Nat.reduceLeDiff, Nat.reduceEqDiff, Nat.succ_ne_zero, reduceIte, List.length_map]
  refine LoopK.mk 1 [1, 3, 4] (A := Nat) (fun k => ⟨24, [(1, .lp 0 0 0), (3, .c (.v (.int .i64 ((w.d.l.take k).foldl (fun n t => if (t.kind == 2) = true then IntKind.i64.wrap (n + 1) else n) (0))))), (4, .c (.v (.int .i64 k)))], [⟨45, 14, [w.c], true, true⟩]⟩) (fun k => k ≤ w.d.l.length) (fun k => w.d.l.length - k) 0 ⟨⟨rfl, rfl⟩, rfl, Nat.zero_le _⟩ ?_
  intro k hk
  simp only [go_sem, List.getElem?_toArray, Nat.reduceAdd, Nat.reduceSub, Nat.reduceMul, Nat.reduceLT, Nat.reduceLeDiff, Nat.reduceEqDiff, Nat.succ_ne_zero, reduceIte, List.length_map]
  refine cndC.mk (fun h => ?_) (fun h => ?_)
  · have hk' : k < w.d.l.length := by simpa using h
    have hf := fold_take (fun n t => if (t.kind == 2) = true then IntKind.i64.wrap (n + 1) else n) (0) w.d.l hk'
    rcases hc : w.d.l[k].kind == 2 with _ | _ <;>
      simp only [go_sem, List.getElem?_toArray, Nat.reduceAdd, Nat.reduceSub, Nat.reduceMul, Nat.reduceLT, Nat.reduceLeDiff, Nat.reduceEqDiff, Nat.succ_ne_zero, reduceIte, List.length_map, map_at _ hk', hk', hc, wrap_i64 (n := (k : Int) + 1) (by omega) (by omega)] <;>
      exact ⟨k + 1, ⟨rfl, rfl⟩, by simp only [hf, hc]; rfl, by omega, by omega⟩
  · have hk' : k = w.d.l.length := by simp at h; omega
    subst hk'
    simp only [go_sem, List.getElem?_toArray, Nat.reduceAdd, Nat.reduceSub, Nat.reduceMul, Nat.reduceLT, Nat.reduceLeDiff, Nat.reduceEqDiff, Nat.succ_ne_zero, reduceIte, List.take_length]
    try rfl

theorem iPackedOf_spec (w : DWorld) : Ctr Try.prog 17 [.agg w.c] [.val (.c (.v (.int .i64 (packedOf w))))] := by
  refine Ctr.mk (fn := Try.f17) Try.call17 Try.func17 rfl mixed Try.ntmps17 Try.results17 (by kernel_rfl) rfl fun hw => ?_
  have hlen : w.d.l.length ≤ 9223372036854775807 := by
    have := hw.1.2.2.2.2.2.2.2.1.1; simpa [Go.maxLen] using this
  simp only [go_sem, List.getElem?_toArray, Nat.reduceAdd, Nat.reduceSub, Nat.reduceMul, Nat.reduceLT, Nat.reduceLeDiff, Nat.reduceEqDiff, Nat.succ_ne_zero, reduceIte, List.length_map]
  refine LoopK.mk 1 [1, 3, 8, 9, 10] (A := Nat) (fun k => ⟨21, [(1, .lp 0 0 0), (3, .c (.v (.int .i64 ((w.d.l.take k).foldl (fun n t => if (t.kind == 2) = true then IntKind.i64.wrap (n + 1) else n) (0))))), (8, .c (.sl (w.d.l.map DRef.c))), (9, .c (.v (.int .i64 w.d.l.length))), (10, .c (.v (.int .i64 k)))], [⟨45, 14, [w.c], true, true⟩]⟩) (fun k => k ≤ w.d.l.length) (fun k => w.d.l.length - k) 0 ⟨⟨rfl, rfl⟩, rfl, Nat.zero_le _⟩ ?_
  intro k hk
  simp only [go_sem, List.getElem?_toArray, Nat.reduceAdd, Nat.reduceSub, Nat.reduceMul, Nat.reduceLT, Nat.reduceLeDiff, Nat.reduceEqDiff, Nat.succ_ne_zero, reduceIte, List.length_map]
  refine cndC.mk (fun h => ?_) (fun h => ?_)
  · have hk' : k < w.d.l.length := by simpa using h
    have hf := fold_take (fun n t => if (t.kind == 2) = true then IntKind.i64.wrap (n + 1) else n) (0) w.d.l hk'
    rcases hc : w.d.l[k].kind == 2 with _ | _ <;>
      simp only [go_sem, List.getElem?_toArray, Nat.reduceAdd, Nat.reduceSub, Nat.reduceMul, Nat.reduceLT, Nat.reduceLeDiff, Nat.reduceEqDiff, Nat.succ_ne_zero, reduceIte, List.length_map, map_at _ hk', hk', hc, wrap_i64 (n := (k : Int) + 1) (by omega) (by omega)] <;>
      exact ⟨k + 1, ⟨rfl, rfl⟩, by simp only [hf, hc]; rfl, by omega, by omega⟩
  · have hk' : k = w.d.l.length := by simp at h; omega
    subst hk'
    simp only [go_sem, List.getElem?_toArray, Nat.reduceAdd, Nat.reduceSub, Nat.reduceMul, Nat.reduceLT, Nat.reduceLeDiff, Nat.reduceEqDiff, Nat.succ_ne_zero, reduceIte, List.take_length]
    try rfl

def freeOf (l : List DBuf) : Int := l.foldl (fun n t => if (t.kind == 0) = true then IntKind.i64.wrap (n + 1) else n) 0
theorem sFreeOf_spec (l : List DBuf) : Ctr Try.prog 45 [.c (.sl (l.map DBuf.c))] [.val (.c (.v (.int .i64 (freeOf l))))] := by
  refine Ctr.mk (fn := Try.f45) Try.call45 Try.func45 rfl mixed Try.ntmps45 Try.results45 (by kernel_rfl) rfl fun hw => ?_
  have hlen : l.length ≤ 9223372036854775807 := by
    have := hw.1.1; simpa [Go.maxLen] using this
  simp only [go_sem, List.getElem?_toArray, Nat.reduceAdd, Nat.reduceSub, Nat.reduceMul, Nat.reduceLT, Nat.reduceLeDiff, Nat.reduceEqDiff, Nat.succ_ne_zero, reduceIte, List.length_map]
  refine LoopK.mk 0 [0, 3, 4] (A := Nat) (fun k => ⟨20, [(0, .c (.sl (l.map DBuf.c))), (3, .c (.v (.int .i64 ((l.take k).foldl (fun n t => if (t.kind == 0) = true then IntKind.i64.wrap (n + 1) else n) (0))))), (4, .c (.v (.int .i64 k)))], []⟩) (fun k => k ≤ l.length) (fun k => l.length - k) 0 ⟨⟨rfl, rfl⟩, rfl, Nat.zero_le _⟩ ?_
  intro k hk
  simp only [go_sem, List.getElem?_toArray, Nat.reduceAdd, Nat.reduceSub, Nat.reduceMul, Nat.reduceLT, Nat.reduceLeDiff, Nat.reduceEqDiff, Nat.succ_ne_zero, reduceIte, List.length_map]
  refine cndC.mk (fun h => ?_) (fun h => ?_)
  · have hk' : k < l.length := by simpa using h
    have hf := fold_take (fun n t => if (t.kind == 0) = true then IntKind.i64.wrap (n + 1) else n) (0) l hk'
    rcases hc : l[k].kind == 0 with _ | _ <;>
      simp only [go_sem, List.getElem?_toArray, Nat.reduceAdd, Nat.reduceSub, Nat.reduceMul, Nat.reduceLT, Nat.reduceLeDiff, Nat.reduceEqDiff, Nat.succ_ne_zero, reduceIte, List.length_map, map_at _ hk', hk', hc, wrap_i64 (n := (k : Int) + 1) (by omega) (by omega)] <;>
      exact ⟨k + 1, ⟨rfl, rfl⟩, by simp only [hf, hc]; rfl, by omega, by omega⟩
  · have hk' : k = l.length := by simp at h; omega
    subst hk'
    simp only [go_sem, List.getElem?_toArray, Nat.reduceAdd, Nat.reduceSub, Nat.reduceMul, Nat.reduceLT, Nat.reduceLeDiff, Nat.reduceEqDiff, Nat.succ_ne_zero, reduceIte, List.take_length]
    try rfl

theorem iFreeOf_spec (l : List DBuf) : Ctr Try.prog 46 [.c (.sl (l.map DBuf.c))] [.val (.c (.v (.int .i64 (freeOf l))))] := by
  refine Ctr.mk (fn := Try.f46) Try.call46 Try.func46 rfl mixed Try.ntmps46 Try.results46 (by kernel_rfl) rfl fun hw => ?_
  have hlen : l.length ≤ 9223372036854775807 := by
    have := hw.1.1; simpa [Go.maxLen] using this
  simp only [go_sem, List.getElem?_toArray, Nat.reduceAdd, Nat.reduceSub, Nat.reduceMul, Nat.reduceLT, Nat.reduceLeDiff, Nat.reduceEqDiff, Nat.succ_ne_zero, reduceIte, List.length_map]
  refine LoopK.mk 0 [0, 3, 6, 7, 8] (A := Nat) (fun k => ⟨19, [(0, .c (.sl (l.map DBuf.c))), (3, .c (.v (.int .i64 ((l.take k).foldl (fun n t => if (t.kind == 0) = true then IntKind.i64.wrap (n + 1) else n) (0))))), (6, .c (.sl (l.map DBuf.c))), (7, .c (.v (.int .i64 l.length))), (8, .c (.v (.int .i64 k)))], []⟩) (fun k => k ≤ l.length) (fun k => l.length - k) 0 ⟨⟨rfl, rfl⟩, rfl, Nat.zero_le _⟩ ?_
  intro k hk
  simp only [go_sem, List.getElem?_toArray, Nat.reduceAdd, Nat.reduceSub, Nat.reduceMul, Nat.reduceLT, Nat.reduceLeDiff, Nat.reduceEqDiff, Nat.succ_ne_zero, reduceIte, List.length_map]
  refine cndC.mk (fun h => ?_) (fun h => ?_)
  · have hk' : k < l.length := by simpa using h
    have hf := fold_take (fun n t => if (t.kind == 0) = true then IntKind.i64.wrap (n + 1) else n) (0) l hk'
    rcases hc : l[k].kind == 0 with _ | _ <;>
      simp only [go_sem, List.getElem?_toArray, Nat.reduceAdd, Nat.reduceSub, Nat.reduceMul, Nat.reduceLT, Nat.reduceLeDiff, Nat.reduceEqDiff, Nat.succ_ne_zero, reduceIte, List.length_map, map_at _ hk', hk', hc, wrap_i64 (n := (k : Int) + 1) (by omega) (by omega)] <;>
      exact ⟨k + 1, ⟨rfl, rfl⟩, by simp only [hf, hc]; rfl, by omega, by omega⟩
  · have hk' : k = l.length := by simp at h; omega
    subst hk'
    simp only [go_sem, List.getElem?_toArray, Nat.reduceAdd, Nat.reduceSub, Nat.reduceMul, Nat.reduceLT, Nat.reduceLeDiff, Nat.reduceEqDiff, Nat.succ_ne_zero, reduceIte, List.take_length]
    try rfl

end Go.Proofs.Ytajokmlnpnfkoaa
