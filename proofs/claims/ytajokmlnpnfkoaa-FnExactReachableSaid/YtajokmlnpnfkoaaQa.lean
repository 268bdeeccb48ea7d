/- Walk of Reachable (reference). -/
import Derived.Test.YtajokmlnpnfkoaaNa
namespace Go.Proofs.Ytajokmlnpnfkoaa
set_option linter.unusedSimpArgs false
set_option linter.unusedVariables false
open Go.Vm
set_option maxHeartbeats 1000000
set_option maxRecDepth 10000

theorem lIn_spec (a b c : Int) : Ctr Try.prog 49 [.c (.v (.int .i64 a)), .c (.v (.int .i64 b)), .c (.v (.int .i64 c))] [.val (.c (.v (.bool (decide (a ≥ b) && decide (a ≤ c)))))] := by
  refine Ctr.mk (fn := Try.f49) Try.call49 Try.func49 rfl mixed Try.ntmps49 Try.results49 (by kernel_rfl) rfl fun hw => ?_
  rcases h1 : decide (a ≥ b) with _ | _ <;> simp only [go_sem, List.getElem?_toArray, Nat.reduceAdd, Nat.reduceSub, Nat.reduceMul, Nat.reduceLT, Nat.reduceLeDiff, Nat.reduceEqDiff, Nat.succ_ne_zero, reduceIte, h1] <;> simp only [Bool.false_and, Bool.true_and]

def hit (buf gen : Int) (r : DRef) : Bool := (r.buf == buf) && (r.gen == gen)
noncomputable def reach (w : DWorld) (buf : Int) : Bool :=
  match w.b[buf.toNat]? with
  | none => false
  | some x => decide (0 ≤ buf) && (w.d.l.any (hit buf x.gen) || w.tasks.any fun t => t.l.any (hit buf x.gen))
theorem any_drop {α : Type} (p : α → Bool) (l : List α) {k : Nat} (h : k < l.length) : (l.drop k).any p = (p l[k] || (l.drop (k + 1)).any p) := by
  rw [List.drop_eq_getElem_cons h, List.any_cons]
theorem reach_at {w : DWorld} {n : Nat} (hn : n < w.b.length) : reach w n = (w.d.l.any (hit n w.b[n].gen) || w.tasks.any fun t => t.l.any (hit n w.b[n].gen)) := by
  unfold reach
  rw [Int.toNat_natCast, List.getElem?_eq_getElem hn]
  simp
theorem wfRefs_len (w : DWorld) (h : WfA (.agg w.c)) {k : Nat} (hk : k < w.tasks.length) : w.tasks[k].l.length ≤ 9223372036854775807 := by
  have h1 : WfE (w.tasks.map DTask.c) := h.2.2.2.2.2.2.2.2.2.2.2.2.1.2
  have h2 : WfL w.tasks[k].c := WfE_mem h1 _ (List.mem_map_of_mem (List.getElem_mem hk))
  simp only [DTask.c_eq, DQuery.c_eq, DPred.c_eq, DVal.c_eq, List.cons_append, List.nil_append] at h2
  have := h2.2.2.2.2.2.2.2.2.2.2.2.2.2.2.2.2.2.1.1
  simpa [Go.maxLen] using this
theorem sReachable_spec (w : DWorld) (buf : Int) : Ctr Try.prog 22 [.agg w.c, .c (.v (.int .i64 buf))] [.val (.c (.v (.bool (reach w buf))))] := by
  refine Ctr.mk (fn := Try.f22) Try.call22 Try.func22 rfl mixed Try.ntmps22 Try.results22 (by kernel_rfl) rfl fun hw => ?_
  have hlenb : w.b.length ≤ 9223372036854775807 := by have := hw.1.2.2.2.2.2.2.2.2.1.1; simpa [Go.maxLen] using this
  have hlend : w.d.l.length ≤ 9223372036854775807 := by have := hw.1.2.2.2.2.2.2.2.1.1; simpa [Go.maxLen] using this
  have hlent : w.tasks.length ≤ 9223372036854775807 := by have := hw.1.2.2.2.2.2.2.2.2.2.2.2.2.1.1; simpa [Go.maxLen] using this
  simp only [go_sem, List.getElem?_toArray, Nat.reduceAdd, Nat.reduceSub, Nat.reduceMul, Nat.reduceLT, Nat.reduceLeDiff, Nat.reduceEqDiff, Nat.succ_ne_zero, reduceIte, List.length_map]
  try refine DrawK.mk ?_
  try simp only [go_sem, List.getElem?_toArray, Nat.reduceAdd, Nat.reduceSub, Nat.reduceMul, Nat.reduceLT, Nat.reduceLeDiff, Nat.reduceEqDiff, Nat.succ_ne_zero, reduceIte, List.length_map]
  first | refine CallF.mk _ (lIn_spec buf 0 _) ?_ | refine CallK.mk _ (lIn_spec buf 0 _) fun _ => ?_
  simp only [go_sem, List.getElem?_toArray, Nat.reduceAdd, Nat.reduceSub, Nat.reduceMul, Nat.reduceLT, Nat.reduceLeDiff, Nat.reduceEqDiff, Nat.succ_ne_zero, reduceIte, List.length_map]
  rw [wrap_i64 (n := (w.b.length : Int) - 1) (by omega) (by omega)]
  by_cases hb : 0 ≤ buf ∧ buf < w.b.length
  · obtain ⟨n, rfl⟩ := Int.eq_ofNat_of_zero_le hb.1
    have hn : n < w.b.length := by omega
    have e1 : (decide ((n : Int) ≥ 0) && decide ((n : Int) ≤ (w.b.length : Int) - 1)) = true := by simp; omega
    simp only [go_sem, List.getElem?_toArray, Nat.reduceAdd, Nat.reduceSub, Nat.reduceMul, Nat.reduceLT, Nat.reduceLeDiff, Nat.reduceEqDiff, Nat.succ_ne_zero, reduceIte, List.length_map, e1]
    refine LoopK.mk 1 [1, 2, 5] (A := Nat) (fun k => ⟨89, [(1, .c (.v (.int .i64 n))), (2, .lp 0 0 0), (5, .c (.v (.int .i64 k)))], [⟨45, 14, [w.c], true, true⟩]⟩) (fun k => k ≤ w.d.l.length ∧ w.d.l.any (hit n w.b[n].gen) = (w.d.l.drop k).any (hit n w.b[n].gen)) (fun k => w.d.l.length - k) 0 ⟨⟨rfl, rfl⟩, rfl, Nat.zero_le _, rfl⟩ ?_
    rintro k ⟨hk, hf⟩
    simp only [go_sem, List.getElem?_toArray, Nat.reduceAdd, Nat.reduceSub, Nat.reduceMul, Nat.reduceLT, Nat.reduceLeDiff, Nat.reduceEqDiff, Nat.succ_ne_zero, reduceIte, List.length_map]
    refine cndC.mk (fun h => ?_) (fun h => ?_)
    · have hk' : k < w.d.l.length := by simpa using h
      rw [any_drop _ _ hk'] at hf
      rcases h1 : w.d.l[k].buf == (n : Int) with _ | _ <;> rcases h2 : w.d.l[k].gen == w.b[n].gen with _ | _ <;>
        simp only [go_sem, List.getElem?_toArray, Nat.reduceAdd, Nat.reduceSub, Nat.reduceMul, Nat.reduceLT, Nat.reduceLeDiff, Nat.reduceEqDiff, Nat.succ_ne_zero, reduceIte, List.length_map, map_at _ hk', hk', map_at _ hn, hn, h1, h2] <;>
        try refine DrawK.mk ?_
      all_goals simp only [go_sem, List.getElem?_toArray, Nat.reduceAdd, Nat.reduceSub, Nat.reduceMul, Nat.reduceLT, Nat.reduceLeDiff, Nat.reduceEqDiff, Nat.succ_ne_zero, reduceIte, List.length_map, map_at _ hk', hk', map_at _ hn, hn, h1, h2, wrap_i64 (n := (k : Int) + 1) (by omega) (by omega)]
      iterate 3
        · exact ⟨k + 1, ⟨rfl, rfl⟩, rfl, ⟨by omega, by rw [hf]; simp only [hit, h1, h2, Bool.false_and, Bool.and_false, Bool.false_or]⟩, by omega⟩
      · rw [reach_at hn, hf]
        simp only [hit, h1, h2, Bool.true_and, Bool.true_or]
    · have hk' : k = w.d.l.length := by simp at h; omega
      subst hk'
      rw [List.drop_length, List.any_nil] at hf
      simp only [go_sem, List.getElem?_toArray, Nat.reduceAdd, Nat.reduceSub, Nat.reduceMul, Nat.reduceLT, Nat.reduceLeDiff, Nat.reduceEqDiff, Nat.succ_ne_zero, reduceIte, List.length_map]
      refine LoopK.mk 1 [1, 2, 6] (A := Nat) (fun k => ⟨89, [(1, .c (.v (.int .i64 n))), (2, .lp 0 0 0), (6, .c (.v (.int .i64 k)))], [⟨45, 14, [w.c], true, true⟩]⟩) (fun k => k ≤ w.tasks.length ∧ (w.tasks.any fun t => t.l.any (hit n w.b[n].gen)) = (w.tasks.drop k).any fun t => t.l.any (hit n w.b[n].gen)) (fun k => w.tasks.length - k) 0 ⟨⟨rfl, rfl⟩, rfl, Nat.zero_le _, rfl⟩ ?_
      rintro k ⟨hk, hg⟩
      simp only [go_sem, List.getElem?_toArray, Nat.reduceAdd, Nat.reduceSub, Nat.reduceMul, Nat.reduceLT, Nat.reduceLeDiff, Nat.reduceEqDiff, Nat.succ_ne_zero, reduceIte, List.length_map]
      refine cndC.mk (fun h => ?_) (fun h => ?_)
      · have hk' : k < w.tasks.length := by simpa using h
        rw [any_drop _ _ hk'] at hg
        have hleni : w.tasks[k].l.length ≤ 9223372036854775807 := wfRefs_len w hw.1 hk'
        simp only [go_sem, List.getElem?_toArray, Nat.reduceAdd, Nat.reduceSub, Nat.reduceMul, Nat.reduceLT, Nat.reduceLeDiff, Nat.reduceEqDiff, Nat.succ_ne_zero, reduceIte, List.length_map, map_at _ hk', hk']
        refine LoopK.mk 1 [1, 2, 6, 7, 8] (A := Nat) (fun i => ⟨89, [(1, .c (.v (.int .i64 n))), (2, .lp 0 0 0), (6, .c (.v (.int .i64 k))), (7, .c (.sl (w.tasks[k].l.map DRef.c))), (8, .c (.v (.int .i64 i)))], [⟨45, 14, [w.c], true, true⟩]⟩) (fun i => i ≤ w.tasks[k].l.length ∧ w.tasks[k].l.any (hit n w.b[n].gen) = (w.tasks[k].l.drop i).any (hit n w.b[n].gen)) (fun i => w.tasks[k].l.length - i) 0 ⟨⟨rfl, rfl⟩, rfl, Nat.zero_le _, rfl⟩ ?_
        rintro i ⟨hi, he⟩
        simp only [go_sem, List.getElem?_toArray, Nat.reduceAdd, Nat.reduceSub, Nat.reduceMul, Nat.reduceLT, Nat.reduceLeDiff, Nat.reduceEqDiff, Nat.succ_ne_zero, reduceIte, List.length_map]
        refine cndC.mk (fun h => ?_) (fun h => ?_)
        · have hi' : i < w.tasks[k].l.length := by simpa using h
          rw [any_drop _ _ hi'] at he
          rcases h1 : w.tasks[k].l[i].buf == (n : Int) with _ | _ <;> rcases h2 : w.tasks[k].l[i].gen == w.b[n].gen with _ | _ <;>
            simp only [go_sem, List.getElem?_toArray, Nat.reduceAdd, Nat.reduceSub, Nat.reduceMul, Nat.reduceLT, Nat.reduceLeDiff, Nat.reduceEqDiff, Nat.succ_ne_zero, reduceIte, List.length_map, map_at _ hi', hi', map_at _ hn, hn, h1, h2] <;>
            try refine DrawK.mk ?_
          all_goals simp only [go_sem, List.getElem?_toArray, Nat.reduceAdd, Nat.reduceSub, Nat.reduceMul, Nat.reduceLT, Nat.reduceLeDiff, Nat.reduceEqDiff, Nat.succ_ne_zero, reduceIte, List.length_map, map_at _ hi', hi', map_at _ hn, hn, h1, h2, wrap_i64 (n := (i : Int) + 1) (by omega) (by omega)]
          iterate 3
            · exact ⟨i + 1, ⟨rfl, rfl⟩, rfl, ⟨by omega, by rw [he]; simp only [hit, h1, h2, Bool.false_and, Bool.and_false, Bool.false_or]⟩, by omega⟩
          · rw [reach_at hn, hf, hg, he]
            simp only [hit, h1, h2, Bool.true_and, Bool.true_or, Bool.or_true]
        · have hi' : i = w.tasks[k].l.length := by simp at h; omega
          subst hi'
          rw [List.drop_length, List.any_nil] at he
          simp only [go_sem, List.getElem?_toArray, Nat.reduceAdd, Nat.reduceSub, Nat.reduceMul, Nat.reduceLT, Nat.reduceLeDiff, Nat.reduceEqDiff, Nat.succ_ne_zero, reduceIte, List.length_map, wrap_i64 (n := (k : Int) + 1) (by omega) (by omega)]
          exact ⟨k + 1, ⟨rfl, rfl⟩, rfl, ⟨by omega, by rw [hg, he, Bool.false_or]⟩, by omega⟩
      · have hk' : k = w.tasks.length := by simp at h; omega
        subst hk'
        rw [List.drop_length, List.any_nil] at hg
        simp only [go_sem, List.getElem?_toArray, Nat.reduceAdd, Nat.reduceSub, Nat.reduceMul, Nat.reduceLT, Nat.reduceLeDiff, Nat.reduceEqDiff, Nat.succ_ne_zero, reduceIte, List.length_map]
        rw [reach_at hn, hf, hg]
        simp only [Bool.or_false]
  · have e1 : (decide (buf ≥ 0) && decide (buf ≤ (w.b.length : Int) - 1)) = false := by
      rw [Bool.and_eq_false_iff]
      by_cases h0 : 0 ≤ buf
      · right; simp; omega
      · left; simp; omega
    have e2 : reach w buf = false := by
      unfold reach
      split
      · rfl
      · rename_i x hx
        have : buf.toNat < w.b.length := (List.getElem?_eq_some_iff.mp hx).1
        have : ¬ 0 ≤ buf := by omega
        simp [this]
    simp only [go_sem, List.getElem?_toArray, Nat.reduceAdd, Nat.reduceSub, Nat.reduceMul, Nat.reduceLT, Nat.reduceLeDiff, Nat.reduceEqDiff, Nat.succ_ne_zero, reduceIte, List.length_map, e1, e2]
def lists (w : DWorld) (k : Nat) : List (List DRef) := w.d.l :: (w.tasks.take k).map fun t => t.l
def refsC (l : List DRef) : List Cl := [.sl (l.map DRef.c)]
theorem lists_succ (w : DWorld) {k : Nat} (h : k < w.tasks.length) : (lists w (k + 1)).map refsC = (lists w k).map refsC ++ [[.sl (w.tasks[k].l.map DRef.c)]] := by
  simp only [lists, List.take_succ_eq_append_getElem h, List.map_append, List.map_cons, List.map_nil, List.cons_append, refsC]
theorem lists_any (w : DWorld) (p : DRef → Bool) : ((lists w w.tasks.length).any fun l => l.any p) = (w.d.l.any p || w.tasks.any fun t => t.l.any p) := by
  simp [lists, List.any_map, Function.comp_def]
theorem lists_len (w : DWorld) (h : WfA (.agg w.c)) : ∀ l ∈ lists w w.tasks.length, l.length ≤ 9223372036854775807 := by
  intro l hl
  simp only [lists, List.take_length, List.mem_cons, List.mem_map] at hl
  rcases hl with rfl | ⟨t, ht, rfl⟩
  · have := h.2.2.2.2.2.2.2.1.1; simpa [Go.maxLen] using this
  · obtain ⟨k, hk, rfl⟩ := List.mem_iff_getElem.1 ht
    exact wfRefs_len w h hk
theorem pureTwo (w : DWorld) (LL : List (List DRef)) : (List.take 2 [(⟨45, 14, [w.c], true, true⟩ : Ob), ⟨37, 1, LL.map refsC, true, true⟩]).all (noRefOb 2) = true := by
  simp only [List.take_succ_cons, List.take_zero, List.all_cons, List.all_nil, Bool.and_true, noRefOb, pureE_map (f := refsC) (l := LL) fun _ => rfl, Bool.true_or]
  rfl
theorem iReachable_spec (w : DWorld) (buf : Int) (hsz : w.tasks.length ≤ 1048576) : Ctr Try.prog 23 [.agg w.c, .c (.v (.int .i64 buf))] [.val (.c (.v (.bool (reach w buf))))] := by
  refine Ctr.mk (fn := Try.f23) Try.call23 Try.func23 rfl mixed Try.ntmps23 Try.results23 (by kernel_rfl) rfl fun hw => ?_
  have hlenb : w.b.length ≤ 9223372036854775807 := by have := hw.1.2.2.2.2.2.2.2.2.1.1; simpa [Go.maxLen] using this
  have hlend : w.d.l.length ≤ 9223372036854775807 := by have := hw.1.2.2.2.2.2.2.2.1.1; simpa [Go.maxLen] using this
  have hlent : w.tasks.length ≤ 9223372036854775807 := by have := hw.1.2.2.2.2.2.2.2.2.2.2.2.2.1.1; simpa [Go.maxLen] using this
  by_cases hb : 0 ≤ buf ∧ buf < w.b.length
  · obtain ⟨n, rfl⟩ := Int.eq_ofNat_of_zero_le hb.1
    have hn : n < w.b.length := by omega
    have e1 : decide ((n : Int) < 0) = false := by simp
    have e2 : decide ((n : Int) ≥ w.b.length) = false := by simp; omega
    simp only [go_sem, List.getElem?_toArray, Nat.reduceAdd, Nat.reduceSub, Nat.reduceMul, Nat.reduceLT, Nat.reduceLeDiff, Nat.reduceEqDiff, Nat.succ_ne_zero, reduceIte, List.length_map, Option.getD_some, List.length_cons, List.length_nil, and_self, true_and, and_true, Nat.zero_add, Nat.lt_add_one, e1, e2]
    refine LoopR.mk [1, 2, 5, 26, 27, 28] (A := Nat) (fun k => ⟨67, [(1, .c (.v (.int .i64 n))), (2, .lp 0 0 0), (5, .c (.ref 1)), (26, .c (.sl (w.tasks.map DTask.c))), (27, .c (.v (.int .i64 w.tasks.length))), (28, .c (.v (.int .i64 k)))], [⟨45, 14, [w.c], true, true⟩, ⟨37, 1, (lists w k).map refsC, true, true⟩]⟩) (fun k => k ≤ w.tasks.length) (fun k => w.tasks.length - k) 0 [(0, false), (1, false)] ⟨⟨rfl, rfl, rfl, rfl, trivial⟩, rfl⟩ (Nat.zero_le _) ?_
    rintro k hk
    simp only [go_sem, List.getElem?_toArray, Nat.reduceAdd, Nat.reduceSub, Nat.reduceMul, Nat.reduceLT, Nat.reduceLeDiff, Nat.reduceEqDiff, Nat.succ_ne_zero, reduceIte, List.length_map, Option.getD_some, List.length_cons, List.length_nil, and_self, true_and, and_true, Nat.zero_add, Nat.lt_add_one]
    refine cndC.mk (fun h => ?_) (fun h => ?_)
    · have hk' : k < w.tasks.length := by simpa using h
      have hl : (lists w k).length + 1 ≤ 2147483648 := by simp only [lists, List.length_cons, List.length_map, List.length_take]; omega
      simp only [go_sem, List.getElem?_toArray, Nat.reduceAdd, Nat.reduceSub, Nat.reduceMul, Nat.reduceLT, Nat.reduceLeDiff, Nat.reduceEqDiff, Nat.succ_ne_zero, reduceIte, List.length_map, Option.getD_some, List.length_cons, List.length_nil, and_self, true_and, and_true, Nat.zero_add, Nat.lt_add_one, map_at _ hk', hk', fzE, pureE, pureL, pureC, List.all_cons, List.all_nil, Bool.and_self, Nat.reduceBEq, hl, wrap_i64 (n := (k : Int) + 1) (by omega) (by omega)]
      exact ⟨k + 1, ⟨[(0, false), (4, false)], ⟨rfl, rfl, rfl, (by rw [← lists_succ w hk']; exact pureE_map fun _ => rfl), trivial⟩, by simp only [lists_succ w hk']; rfl⟩, by omega, by omega⟩
    · have hk' : k = w.tasks.length := by simp at h; omega
      subst hk'
      simp only [go_sem, List.getElem?_toArray, Nat.reduceAdd, Nat.reduceSub, Nat.reduceMul, Nat.reduceLT, Nat.reduceLeDiff, Nat.reduceEqDiff, Nat.succ_ne_zero, reduceIte, List.length_map, Option.getD_some, List.length_cons, List.length_nil, and_self, true_and, and_true, Nat.zero_add, Nat.lt_add_one]
      have hany := lists_any w (hit n w.b[n].gen)
      have hlen2 := lists_len w hw.1
      have hlen3 : (lists w w.tasks.length).length ≤ 1048577 := by simp only [lists, List.length_cons, List.length_map, List.length_take]; omega
      generalize lists w w.tasks.length = LL at hany hlen2 hlen3 ⊢
      refine LoopK.mk 2 [1, 2, 38, 39, 40] (A := Nat) (fun k => ⟨67, [(1, .c (.v (.int .i64 n))), (2, .lp 0 0 0), (38, .c (.ref 1)), (39, .c (.v (.int .i64 LL.length))), (40, .c (.v (.int .i64 k)))], [⟨45, 14, [w.c], true, true⟩, ⟨37, 1, LL.map refsC, true, true⟩]⟩) (fun k => k ≤ LL.length ∧ (LL.any fun l => l.any (hit n w.b[n].gen)) = (LL.drop k).any fun l => l.any (hit n w.b[n].gen)) (fun k => LL.length - k) 0 ⟨⟨rfl, pureTwo w LL⟩, rfl, Nat.zero_le _, rfl⟩ ?_
      rintro k ⟨hk, hg⟩
      simp only [go_sem, List.getElem?_toArray, Nat.reduceAdd, Nat.reduceSub, Nat.reduceMul, Nat.reduceLT, Nat.reduceLeDiff, Nat.reduceEqDiff, Nat.succ_ne_zero, reduceIte, List.length_map, Option.getD_some, List.length_cons, List.length_nil, and_self, true_and, and_true, Nat.zero_add, Nat.lt_add_one]
      refine cndC.mk (fun h => ?_) (fun h => ?_)
      · have hk' : k < LL.length := by simpa using h
        rw [any_drop _ _ hk'] at hg
        have hleni := hlen2 _ (List.getElem_mem hk')
        have hr : (LL.map refsC)[k]? = some [.sl (LL[k].map DRef.c)] := map_at refsC hk'
        simp only [go_sem, List.getElem?_toArray, Nat.reduceAdd, Nat.reduceSub, Nat.reduceMul, Nat.reduceLT, Nat.reduceLeDiff, Nat.reduceEqDiff, Nat.succ_ne_zero, reduceIte, List.length_map, Option.getD_some, List.length_cons, List.length_nil, and_self, true_and, and_true, Nat.zero_add, Nat.lt_add_one, hr, hk']
        refine LoopK.mk 2 [1, 2, 38, 39, 40, 44, 45, 46] (A := Nat) (fun i => ⟨67, [(1, .c (.v (.int .i64 n))), (2, .lp 0 0 0), (38, .c (.ref 1)), (39, .c (.v (.int .i64 LL.length))), (40, .c (.v (.int .i64 k))), (44, .c (.sl (LL[k].map DRef.c))), (45, .c (.v (.int .i64 LL[k].length))), (46, .c (.v (.int .i64 i)))], [⟨45, 14, [w.c], true, true⟩, ⟨37, 1, LL.map refsC, true, true⟩]⟩) (fun i => i ≤ LL[k].length ∧ LL[k].any (hit n w.b[n].gen) = (LL[k].drop i).any (hit n w.b[n].gen)) (fun i => LL[k].length - i) 0 ⟨⟨rfl, pureTwo w LL⟩, rfl, Nat.zero_le _, rfl⟩ ?_
        rintro i ⟨hi, he⟩
        simp only [go_sem, List.getElem?_toArray, Nat.reduceAdd, Nat.reduceSub, Nat.reduceMul, Nat.reduceLT, Nat.reduceLeDiff, Nat.reduceEqDiff, Nat.succ_ne_zero, reduceIte, List.length_map, Option.getD_some, List.length_cons, List.length_nil, and_self, true_and, and_true, Nat.zero_add, Nat.lt_add_one]
        refine cndC.mk (fun h => ?_) (fun h => ?_)
        · have hi' : i < LL[k].length := by simpa using h
          rw [any_drop _ _ hi'] at he
          rcases h1 : LL[k][i].buf == (n : Int) with _ | _ <;> rcases h2 : LL[k][i].gen == w.b[n].gen with _ | _ <;>
            simp only [go_sem, List.getElem?_toArray, Nat.reduceAdd, Nat.reduceSub, Nat.reduceMul, Nat.reduceLT, Nat.reduceLeDiff, Nat.reduceEqDiff, Nat.succ_ne_zero, reduceIte, List.length_map, Option.getD_some, List.length_cons, List.length_nil, and_self, true_and, and_true, Nat.zero_add, Nat.lt_add_one, map_at _ hi', hi', map_at _ hn, hn, h1, h2] <;>
            try refine DrawK.mk ?_
          all_goals simp only [go_sem, List.getElem?_toArray, Nat.reduceAdd, Nat.reduceSub, Nat.reduceMul, Nat.reduceLT, Nat.reduceLeDiff, Nat.reduceEqDiff, Nat.succ_ne_zero, reduceIte, List.length_map, Option.getD_some, List.length_cons, List.length_nil, and_self, true_and, and_true, Nat.zero_add, Nat.lt_add_one, map_at _ hi', hi', map_at _ hn, hn, h1, h2, wrap_i64 (n := (i : Int) + 1) (by omega) (by omega)]
          iterate 3
            · exact ⟨i + 1, ⟨rfl, pureTwo w LL⟩, rfl, ⟨by omega, by rw [he]; simp only [hit, h1, h2, Bool.false_and, Bool.and_false, Bool.false_or]⟩, by omega⟩
          · rw [reach_at hn, ← hany, hg, he]
            simp only [hit, h1, h2, Bool.true_and, Bool.true_or, Bool.or_true]
        · have hi' : i = LL[k].length := by simp at h; omega
          subst hi'
          rw [List.drop_length, List.any_nil] at he
          simp only [go_sem, List.getElem?_toArray, Nat.reduceAdd, Nat.reduceSub, Nat.reduceMul, Nat.reduceLT, Nat.reduceLeDiff, Nat.reduceEqDiff, Nat.succ_ne_zero, reduceIte, List.length_map, Option.getD_some, List.length_cons, List.length_nil, and_self, true_and, and_true, Nat.zero_add, Nat.lt_add_one, wrap_i64 (n := (k : Int) + 1) (by omega) (by omega)]
          exact ⟨k + 1, ⟨rfl, pureTwo w LL⟩, rfl, ⟨by omega, by rw [hg, he, Bool.false_or]⟩, by omega⟩
      · have hk' : k = LL.length := by simp at h; omega
        subst hk'
        rw [List.drop_length, List.any_nil] at hg
        simp only [go_sem, List.getElem?_toArray, Nat.reduceAdd, Nat.reduceSub, Nat.reduceMul, Nat.reduceLT, Nat.reduceLeDiff, Nat.reduceEqDiff, Nat.succ_ne_zero, reduceIte, List.length_map, Option.getD_some, List.length_cons, List.length_nil, and_self, true_and, and_true, Nat.zero_add, Nat.lt_add_one]
        rw [reach_at hn, ← hany, hg]
  · have e2 : reach w buf = false := by
      unfold reach
      split
      · rfl
      · rename_i x hx
        have : buf.toNat < w.b.length := (List.getElem?_eq_some_iff.mp hx).1
        have : ¬ 0 ≤ buf := by omega
        simp [this]
    rcases h0 : decide (buf < 0) with _ | _
    · have h1 : decide (buf ≥ w.b.length) = true := by simp at h0 ⊢; omega
      simp only [go_sem, List.getElem?_toArray, Nat.reduceAdd, Nat.reduceSub, Nat.reduceMul, Nat.reduceLT, Nat.reduceLeDiff, Nat.reduceEqDiff, Nat.succ_ne_zero, reduceIte, List.length_map, h0, h1, e2]
    · simp only [go_sem, List.getElem?_toArray, Nat.reduceAdd, Nat.reduceSub, Nat.reduceMul, Nat.reduceLT, Nat.reduceLeDiff, Nat.reduceEqDiff, Nat.succ_ne_zero, reduceIte, List.length_map, h0, e2]
end Go.Proofs.Ytajokmlnpnfkoaa
