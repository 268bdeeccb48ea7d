/- Walks: deeds, rows put and dropped, copies. -/
import Derived.Test.YtepjgnlinjlehaaGreatAi
import Derived.Test.YtepjgnlinjlehaaGreatAg
namespace Go.Proofs.YtepjgnlinjlehaaGreat
set_option linter.unusedSimpArgs false
set_option linter.unusedVariables false
open Go.Vm
set_option maxHeartbeats 2000000
set_option maxRecDepth 10000

def deedOk (d : DDeed) : Bool :=
  if (!(inR d.op 1 4 && (inR d.task 0 4 && inR d.code 0 5))) = true then false else
  if (decide (d.stamp < 0) || (decide (d.inv < 0) || (decide (d.id < -1) || ((d.lin != -1) && decide (d.lin < d.inv))))) = true then false else
  (d.ret == -1) || ((d.lin != -1) && decide (d.ret ≥ d.lin))
theorem sDeedOk_spec (d : DDeed) : Ctr Tryz.prog 36 [.agg d.c] [.val (.c (.v (.bool (deedOk d))))] := by
  refine Ctr.mk (fn := Tryz.f36) Tryz.call36 Tryz.func36 rfl mixed Tryz.ntmps36 Tryz.results36 (by kernel_rfl) rfl fun hw => ?_
  simp only [go_sem, List.getElem?_toArray, Nat.reduceBEq, Nat.reduceAdd, Nat.reduceSub, Nat.reduceMul, Nat.reduceLT, Nat.reduceLeDiff, Nat.reduceEqDiff, Nat.succ_ne_zero, reduceIte]
  refine CallK.mk _ (l1In_spec d.op 1 4) fun _ => ?_
  rcases h1 : inR d.op 1 4 with _ | _
  · simp only [go_sem, List.getElem?_toArray, Nat.reduceBEq, Nat.reduceAdd, Nat.reduceSub, Nat.reduceMul, Nat.reduceLT, Nat.reduceLeDiff, Nat.reduceEqDiff, Nat.succ_ne_zero, reduceIte, deedOk, h1, Bool.false_and, Bool.not_false]
  simp only [go_sem, List.getElem?_toArray, Nat.reduceBEq, Nat.reduceAdd, Nat.reduceSub, Nat.reduceMul, Nat.reduceLT, Nat.reduceLeDiff, Nat.reduceEqDiff, Nat.succ_ne_zero, reduceIte, h1]
  refine CallK.mk _ (l1In_spec d.task 0 4) fun _ => ?_
  rcases h2 : inR d.task 0 4 with _ | _
  · simp only [go_sem, List.getElem?_toArray, Nat.reduceBEq, Nat.reduceAdd, Nat.reduceSub, Nat.reduceMul, Nat.reduceLT, Nat.reduceLeDiff, Nat.reduceEqDiff, Nat.succ_ne_zero, reduceIte, deedOk, h1, h2, Bool.false_and, Bool.and_false, Bool.not_false]
  simp only [go_sem, List.getElem?_toArray, Nat.reduceBEq, Nat.reduceAdd, Nat.reduceSub, Nat.reduceMul, Nat.reduceLT, Nat.reduceLeDiff, Nat.reduceEqDiff, Nat.succ_ne_zero, reduceIte, h1, h2]
  refine CallK.mk _ (l1In_spec d.code 0 5) fun _ => ?_
  rcases h3 : inR d.code 0 5 with _ | _
  · simp only [go_sem, List.getElem?_toArray, Nat.reduceBEq, Nat.reduceAdd, Nat.reduceSub, Nat.reduceMul, Nat.reduceLT, Nat.reduceLeDiff, Nat.reduceEqDiff, Nat.succ_ne_zero, reduceIte, deedOk, h1, h2, h3, Bool.and_false, Bool.not_false]
  rcases h4 : decide (d.stamp < 0) with _ | _
  rotate_left
  · simp only [go_sem, List.getElem?_toArray, Nat.reduceBEq, Nat.reduceAdd, Nat.reduceSub, Nat.reduceMul, Nat.reduceLT, Nat.reduceLeDiff, Nat.reduceEqDiff, Nat.succ_ne_zero, reduceIte, deedOk, h1, h2, h3, h4, Bool.and_true, Bool.not_true, Bool.true_or]
  rcases h5 : decide (d.inv < 0) with _ | _
  rotate_left
  · simp only [go_sem, List.getElem?_toArray, Nat.reduceBEq, Nat.reduceAdd, Nat.reduceSub, Nat.reduceMul, Nat.reduceLT, Nat.reduceLeDiff, Nat.reduceEqDiff, Nat.succ_ne_zero, reduceIte, deedOk, h1, h2, h3, h4, h5, Bool.and_true, Bool.not_true, Bool.true_or, Bool.false_or]
  rcases h6 : decide (d.id < -1) with _ | _
  rotate_left
  · simp only [go_sem, List.getElem?_toArray, Nat.reduceBEq, Nat.reduceAdd, Nat.reduceSub, Nat.reduceMul, Nat.reduceLT, Nat.reduceLeDiff, Nat.reduceEqDiff, Nat.succ_ne_zero, reduceIte, deedOk, h1, h2, h3, h4, h5, h6, Bool.and_true, Bool.not_true, Bool.true_or, Bool.false_or]
  rcases h7 : d.lin == -1 with _ | _
  · have h7' : (d.lin != -1) = true := by simp [bne, h7]
    rcases h8 : decide (d.lin < d.inv) with _ | _
    rotate_left
    · simp only [go_sem, List.getElem?_toArray, Nat.reduceBEq, Nat.reduceAdd, Nat.reduceSub, Nat.reduceMul, Nat.reduceLT, Nat.reduceLeDiff, Nat.reduceEqDiff, Nat.succ_ne_zero, reduceIte, deedOk, h1, h2, h3, h4, h5, h6, h7, h7', h8, Bool.and_true, Bool.not_true, Bool.not_false, Bool.true_or, Bool.false_or]
    rcases h9 : d.ret == -1 with _ | _
    all_goals simp only [go_sem, List.getElem?_toArray, Nat.reduceBEq, Nat.reduceAdd, Nat.reduceSub, Nat.reduceMul, Nat.reduceLT, Nat.reduceLeDiff, Nat.reduceEqDiff, Nat.succ_ne_zero, reduceIte, deedOk, h1, h2, h3, h4, h5, h6, h7, h7', h8, h9, Bool.and_true, Bool.and_false, Bool.true_and, Bool.not_true, Bool.not_false, Bool.true_or, Bool.false_or, Bool.or_false]
  · have h7' : (d.lin != -1) = false := by simp [bne, h7]
    rcases h9 : d.ret == -1 with _ | _
    all_goals simp only [go_sem, List.getElem?_toArray, Nat.reduceBEq, Nat.reduceAdd, Nat.reduceSub, Nat.reduceMul, Nat.reduceLT, Nat.reduceLeDiff, Nat.reduceEqDiff, Nat.succ_ne_zero, reduceIte, deedOk, h1, h2, h3, h4, h5, h6, h7, h7', h9, Bool.and_true, Bool.and_false, Bool.false_and, Bool.not_true, Bool.not_false, Bool.true_or, Bool.false_or, Bool.or_false]
theorem iDeedOk_spec (d : DDeed) : Ctr Tryz.prog 47 [.agg d.c] [.val (.c (.v (.bool (deedOk d))))] := by
  refine Ctr.mk (fn := Tryz.f47) Tryz.call47 Tryz.func47 rfl mixed Tryz.ntmps47 Tryz.results47 (by kernel_rfl) rfl fun hw => ?_
  simp only [go_sem, List.getElem?_toArray, Nat.reduceBEq, Nat.reduceAdd, Nat.reduceSub, Nat.reduceMul, Nat.reduceLT, Nat.reduceLeDiff, Nat.reduceEqDiff, Nat.succ_ne_zero, reduceIte]
  refine CallK.mk _ (within_spec d.op 1 4) fun _ => ?_
  rcases h1 : inR d.op 1 4 with _ | _
  · simp only [go_sem, List.getElem?_toArray, Nat.reduceBEq, Nat.reduceAdd, Nat.reduceSub, Nat.reduceMul, Nat.reduceLT, Nat.reduceLeDiff, Nat.reduceEqDiff, Nat.succ_ne_zero, reduceIte, deedOk, h1, Bool.false_and, Bool.not_false]
  simp only [go_sem, List.getElem?_toArray, Nat.reduceBEq, Nat.reduceAdd, Nat.reduceSub, Nat.reduceMul, Nat.reduceLT, Nat.reduceLeDiff, Nat.reduceEqDiff, Nat.succ_ne_zero, reduceIte, h1]
  refine CallK.mk _ (within_spec d.task 0 4) fun _ => ?_
  rcases h2 : inR d.task 0 4 with _ | _
  · simp only [go_sem, List.getElem?_toArray, Nat.reduceBEq, Nat.reduceAdd, Nat.reduceSub, Nat.reduceMul, Nat.reduceLT, Nat.reduceLeDiff, Nat.reduceEqDiff, Nat.succ_ne_zero, reduceIte, deedOk, h1, h2, Bool.false_and, Bool.and_false, Bool.not_false]
  simp only [go_sem, List.getElem?_toArray, Nat.reduceBEq, Nat.reduceAdd, Nat.reduceSub, Nat.reduceMul, Nat.reduceLT, Nat.reduceLeDiff, Nat.reduceEqDiff, Nat.succ_ne_zero, reduceIte, h1, h2]
  refine CallK.mk _ (within_spec d.code 0 5) fun _ => ?_
  rcases h3 : inR d.code 0 5 with _ | _
  · simp only [go_sem, List.getElem?_toArray, Nat.reduceBEq, Nat.reduceAdd, Nat.reduceSub, Nat.reduceMul, Nat.reduceLT, Nat.reduceLeDiff, Nat.reduceEqDiff, Nat.succ_ne_zero, reduceIte, deedOk, h1, h2, h3, Bool.and_false, Bool.not_false]
  rcases h4 : decide (d.stamp < 0) with _ | _
  rotate_left
  · simp only [go_sem, List.getElem?_toArray, Nat.reduceBEq, Nat.reduceAdd, Nat.reduceSub, Nat.reduceMul, Nat.reduceLT, Nat.reduceLeDiff, Nat.reduceEqDiff, Nat.succ_ne_zero, reduceIte, deedOk, h1, h2, h3, h4, Bool.and_true, Bool.not_true, Bool.true_or]
  rcases h5 : decide (d.inv < 0) with _ | _
  rotate_left
  · simp only [go_sem, List.getElem?_toArray, Nat.reduceBEq, Nat.reduceAdd, Nat.reduceSub, Nat.reduceMul, Nat.reduceLT, Nat.reduceLeDiff, Nat.reduceEqDiff, Nat.succ_ne_zero, reduceIte, deedOk, h1, h2, h3, h4, h5, Bool.and_true, Bool.not_true, Bool.true_or, Bool.false_or]
  rcases h6 : decide (d.id < -1) with _ | _
  rotate_left
  · simp only [go_sem, List.getElem?_toArray, Nat.reduceBEq, Nat.reduceAdd, Nat.reduceSub, Nat.reduceMul, Nat.reduceLT, Nat.reduceLeDiff, Nat.reduceEqDiff, Nat.succ_ne_zero, reduceIte, deedOk, h1, h2, h3, h4, h5, h6, Bool.and_true, Bool.not_true, Bool.true_or, Bool.false_or]
  rcases h7 : d.lin == -1 with _ | _
  · have h7' : (d.lin != -1) = true := by simp [bne, h7]
    rcases h8 : decide (d.lin < d.inv) with _ | _
    rotate_left
    · simp only [go_sem, List.getElem?_toArray, Nat.reduceBEq, Nat.reduceAdd, Nat.reduceSub, Nat.reduceMul, Nat.reduceLT, Nat.reduceLeDiff, Nat.reduceEqDiff, Nat.succ_ne_zero, reduceIte, deedOk, h1, h2, h3, h4, h5, h6, h7, h7', h8, Bool.and_true, Bool.not_true, Bool.not_false, Bool.true_or, Bool.false_or]
    rcases h9 : d.ret == -1 with _ | _
    all_goals simp only [go_sem, List.getElem?_toArray, Nat.reduceBEq, Nat.reduceAdd, Nat.reduceSub, Nat.reduceMul, Nat.reduceLT, Nat.reduceLeDiff, Nat.reduceEqDiff, Nat.succ_ne_zero, reduceIte, deedOk, h1, h2, h3, h4, h5, h6, h7, h7', h8, h9, Bool.and_true, Bool.and_false, Bool.true_and, Bool.not_true, Bool.not_false, Bool.true_or, Bool.false_or, Bool.or_false]
  · have h7' : (d.lin != -1) = false := by simp [bne, h7]
    rcases h9 : d.ret == -1 with _ | _
    all_goals simp only [go_sem, List.getElem?_toArray, Nat.reduceBEq, Nat.reduceAdd, Nat.reduceSub, Nat.reduceMul, Nat.reduceLT, Nat.reduceLeDiff, Nat.reduceEqDiff, Nat.succ_ne_zero, reduceIte, deedOk, h1, h2, h3, h4, h5, h6, h7, h7', h9, Bool.and_true, Bool.and_false, Bool.false_and, Bool.not_true, Bool.not_false, Bool.true_or, Bool.false_or, Bool.or_false]
theorem all1 {N : Nat} {a : Ob} (ha : noRefOb N a = true) : [a].all (noRefOb N) = true := by simp [ha]
theorem cloneRows_spec (l : List DRow) (hl : fitS fitRow l) : Ctr Tryz.prog 109 [.c (.sl (l.map DRow.c))] [.own 113 2 (l.map DRow.o) true] := by
  refine Ctr.mk (fn := Tryz.f109) Tryz.call109 Tryz.func109 rfl mixed Tryz.ntmps109 Tryz.results109 (by kernel_rfl) rfl fun hw => ?_
  have hlen := hl.1
  simp only [go_sem, List.getElem?_toArray, Nat.reduceBEq, Nat.reduceAdd, Nat.reduceSub, Nat.reduceMul, Nat.reduceLT, Nat.reduceLeDiff, Nat.reduceEqDiff, Nat.succ_ne_zero, reduceIte, List.length_map]
  refine LoopH.mk [6] (A := Nat × List DRow) (fun x => [(9, .c (.v (.int .i64 (x.1)))), (3, .c (.ref 0))]) (fun x => [⟨113, 2, x.2.map DRow.o, true, true⟩]) (fun x => x.1 ≤ l.length ∧ x.2.length ≤ x.1 ∧ x.2 ++ l.drop x.1 = l) (fun x => l.length - x.1) (0, []) (Head.sel [(0, false)] ⟨rfl, rfl, rfl, trivial⟩ rfl) ⟨Nat.zero_le _, Nat.le_refl _, rfl⟩ ?_
  rintro ⟨k, out⟩ ⟨hk, hol, hb⟩
  dsimp only at hk hol hb
  simp only [go_sem, List.getElem?_toArray, Nat.reduceBEq, Nat.reduceAdd, Nat.reduceSub, Nat.reduceMul, Nat.reduceLT, Nat.reduceLeDiff, Nat.reduceEqDiff, Nat.succ_ne_zero, reduceIte, List.length_map]
  refine cndC.mk (fun h => ?_) (fun h => ?_)
  · have hk' : k < l.length := by simpa using h
    rw [List.drop_eq_getElem_cons hk'] at hb
    have hr := hl.2 _ (List.getElem_mem hk')
    rw [fitRow_eq] at hr
    have hrl := hr.1
    have hol2 : out.length + 1 ≤ 2147483648 := by omega
    simp only [go_sem, List.getElem?_toArray, Nat.reduceBEq, Nat.reduceAdd, Nat.reduceSub, Nat.reduceMul, Nat.reduceLT, Nat.reduceLeDiff, Nat.reduceEqDiff, Nat.succ_ne_zero, reduceIte, List.length_map, map_at _ hk', hk', Option.getD_some]
    refine CallK.mk _ (by simpa only [go_sem] using cloneRow_spec l[k] hrl) fun _ => ?_
    simp only [go_sem, List.getElem?_toArray, Nat.reduceBEq, Nat.reduceAdd, Nat.reduceSub, Nat.reduceMul, Nat.reduceLT, Nat.reduceLeDiff, Nat.reduceEqDiff, Nat.succ_ne_zero, reduceIte, List.all_cons, List.all_nil, List.length_map, map_at _ hk', hk', hol2, nr_ref2, Bool.false_eq_true, Option.getD_some, wrap_i64 (n := (k : Int) + 1) (by omega) (by omega)]
    refine ⟨(k + 1, out ++ [l[k]]), Head.selAbs [(4, true), (2, false)] 1 0 ⟨rfl, rfl, in_app DRow.o_nr _ out rfl, pureE_map DVal.pure, trivial⟩ ⟨out.length, out.map DRow.o ++ [DRow.o l[k]], _, DRow.o l[k], _, ⟨Nat.lt_succ_self 0, rfl, rn_app DRow.o_nr _ out _ _, by simp, rfl⟩,
      ⟨rfl, rfl, rfl, rfl, rfl, rfl, nr_Val _, by simp [idxL], fun l hl => by simp [idxL] at hl; omega⟩, ⟨rfl, ?tr⟩, ?eq⟩, ⟨hk', by simp; omega, (List.append_assoc _ _ _).trans hb⟩, by simp only; omega⟩
    case tr => unfold absSt; rw [set_last]; exact all1 (nr_noRefOb (nr_Row _))
    case eq => unfold absSt; rw [set_last, List.map_append]; rfl
  · have hk' : k = l.length := by simp at h; omega
    subst hk'
    rw [List.drop_length] at hb
    have : out = l := by simpa using hb
    subst this
    simp only [go_sem, List.getElem?_toArray, Nat.reduceBEq, Nat.reduceAdd, Nat.reduceSub, Nat.reduceMul, Nat.reduceLT, Nat.reduceLeDiff, Nat.reduceEqDiff, Nat.succ_ne_zero, reduceIte, nr_Row]
    try simp
theorem l4All_spec (l : List DRow) (hl : fitS fitRow l) : Ctr Tryz.prog 94 [.c (.sl (l.map DRow.c))] [.own 113 2 (l.map DRow.o) true] := by
  refine Ctr.mk (fn := Tryz.f94) Tryz.call94 Tryz.func94 rfl mixed Tryz.ntmps94 Tryz.results94 (by kernel_rfl) rfl fun hw => ?_
  have hlen := hl.1
  simp only [go_sem, List.getElem?_toArray, Nat.reduceBEq, Nat.reduceAdd, Nat.reduceSub, Nat.reduceMul, Nat.reduceLT, Nat.reduceLeDiff, Nat.reduceEqDiff, Nat.succ_ne_zero, reduceIte, List.length_map]
  refine LoopH.mk [6] (A := Nat × List DRow) (fun x => [(4, .c (.v (.int .i64 (x.1)))), (3, .c (.ref 0))]) (fun x => [⟨113, 2, x.2.map DRow.o, true, true⟩]) (fun x => x.1 ≤ l.length ∧ x.2.length ≤ x.1 ∧ x.2 ++ l.drop x.1 = l) (fun x => l.length - x.1) (0, []) (Head.sel [(0, false)] ⟨rfl, rfl, rfl, trivial⟩ rfl) ⟨Nat.zero_le _, Nat.le_refl _, rfl⟩ ?_
  rintro ⟨k, out⟩ ⟨hk, hol, hb⟩
  dsimp only at hk hol hb
  simp only [go_sem, List.getElem?_toArray, Nat.reduceBEq, Nat.reduceAdd, Nat.reduceSub, Nat.reduceMul, Nat.reduceLT, Nat.reduceLeDiff, Nat.reduceEqDiff, Nat.succ_ne_zero, reduceIte, List.length_map]
  refine cndC.mk (fun h => ?_) (fun h => ?_)
  · have hk' : k < l.length := by simpa using h
    rw [List.drop_eq_getElem_cons hk'] at hb
    have hr := hl.2 _ (List.getElem_mem hk')
    rw [fitRow_eq] at hr
    have hrl := hr.1
    have hol2 : out.length + 1 ≤ 2147483648 := by omega
    simp only [go_sem, List.getElem?_toArray, Nat.reduceBEq, Nat.reduceAdd, Nat.reduceSub, Nat.reduceMul, Nat.reduceLT, Nat.reduceLeDiff, Nat.reduceEqDiff, Nat.succ_ne_zero, reduceIte, List.length_map, map_at _ hk', hk', Option.getD_some]
    refine CallK.mk _ (by simpa only [go_sem] using l4Copy_spec l[k] hrl) fun _ => ?_
    simp only [go_sem, List.getElem?_toArray, Nat.reduceBEq, Nat.reduceAdd, Nat.reduceSub, Nat.reduceMul, Nat.reduceLT, Nat.reduceLeDiff, Nat.reduceEqDiff, Nat.succ_ne_zero, reduceIte, List.all_cons, List.all_nil, List.length_map, map_at _ hk', hk', hol2, nr_ref2, Bool.false_eq_true, Option.getD_some, wrap_i64 (n := (k : Int) + 1) (by omega) (by omega)]
    refine ⟨(k + 1, out ++ [l[k]]), Head.selAbs [(4, true), (1, false)] 1 0 ⟨rfl, rfl, in_app DRow.o_nr _ out rfl, pureE_map DVal.pure, trivial⟩ ⟨out.length, out.map DRow.o ++ [DRow.o l[k]], _, DRow.o l[k], _, ⟨Nat.lt_succ_self 0, rfl, rn_app DRow.o_nr _ out _ _, by simp, rfl⟩,
      ⟨rfl, rfl, rfl, rfl, rfl, rfl, nr_Val _, by simp [idxL], fun l hl => by simp [idxL] at hl; omega⟩, ⟨rfl, ?tr⟩, ?eq⟩, ⟨hk', by simp; omega, (List.append_assoc _ _ _).trans hb⟩, by simp only; omega⟩
    case tr => unfold absSt; rw [set_last]; exact all1 (nr_noRefOb (nr_Row _))
    case eq => unfold absSt; rw [set_last, List.map_append]; rfl
  · have hk' : k = l.length := by simp at h; omega
    subst hk'
    rw [List.drop_length] at hb
    have : out = l := by simpa using hb
    subst this
    simp only [go_sem, List.getElem?_toArray, Nat.reduceBEq, Nat.reduceAdd, Nat.reduceSub, Nat.reduceMul, Nat.reduceLT, Nat.reduceLeDiff, Nat.reduceEqDiff, Nat.succ_ne_zero, reduceIte, nr_Row]
    try simp
theorem iDrop_spec (l : List DRow) (ids : List Int) (hl : fitS fitRow l) (hi : ids.length ≤ 1048576) : Ctr Tryz.prog 51 [.c (.sl (l.map DRow.c)), .c (.sl (ids.map intC))] [.own 113 2 ((l.filter fun r => !hasN ids r.id).map DRow.o) true] := by
  refine Ctr.mk (fn := Tryz.f51) Tryz.call51 Tryz.func51 rfl mixed Tryz.ntmps51 Tryz.results51 (by kernel_rfl) rfl fun hw => ?_
  have hlen := hl.1
  simp only [go_sem, List.getElem?_toArray, Nat.reduceBEq, Nat.reduceAdd, Nat.reduceSub, Nat.reduceMul, Nat.reduceLT, Nat.reduceLeDiff, Nat.reduceEqDiff, Nat.succ_ne_zero, reduceIte, List.length_map]
  refine LoopH.mk [8] (A := Nat × List DRow) (fun x => [(11, .c (.v (.int .i64 (x.1)))), (5, .c (.ref 0))]) (fun x => [⟨113, 2, x.2.map DRow.o, true, true⟩]) (fun x => x.1 ≤ l.length ∧ x.2.length ≤ x.1 ∧ x.2 ++ (l.drop x.1).filter (fun r => !hasN ids r.id) = (l.filter fun r => !hasN ids r.id)) (fun x => l.length - x.1) (0, []) (Head.sel [(0, false)] ⟨rfl, rfl, rfl, trivial⟩ rfl) ⟨Nat.zero_le _, Nat.le_refl _, rfl⟩ ?_
  rintro ⟨k, out⟩ ⟨hk, hol, hb⟩
  dsimp only at hk hol hb
  simp only [go_sem, List.getElem?_toArray, Nat.reduceBEq, Nat.reduceAdd, Nat.reduceSub, Nat.reduceMul, Nat.reduceLT, Nat.reduceLeDiff, Nat.reduceEqDiff, Nat.succ_ne_zero, reduceIte, List.length_map]
  refine cndC.mk (fun h => ?_) (fun h => ?_)
  · have hk' : k < l.length := by simpa using h
    rw [List.drop_eq_getElem_cons hk', List.filter_cons] at hb
    have hr := hl.2 _ (List.getElem_mem hk')
    rw [fitRow_eq] at hr
    have hrl := hr.1
    have hol2 : out.length + 1 ≤ 2147483648 := by omega
    simp only [go_sem, List.getElem?_toArray, Nat.reduceBEq, Nat.reduceAdd, Nat.reduceSub, Nat.reduceMul, Nat.reduceLT, Nat.reduceLeDiff, Nat.reduceEqDiff, Nat.succ_ne_zero, reduceIte, List.length_map, map_at _ hk', hk', Option.getD_some]
    refine CallK.mk _ (by simpa only [go_sem] using iHas_spec ids l[k].id hi) fun _ => ?_
    rcases hc : hasN ids l[k].id with _ | _
    rotate_left
    · rw [if_neg (by simp [hc])] at hb
      simp only [go_sem, List.getElem?_toArray, Nat.reduceBEq, Nat.reduceAdd, Nat.reduceSub, Nat.reduceMul, Nat.reduceLT, Nat.reduceLeDiff, Nat.reduceEqDiff, Nat.succ_ne_zero, reduceIte, List.length_map, map_at _ hk', hk', hc, Option.getD_some, wrap_i64 (n := (k : Int) + 1) (by omega) (by omega)]
      exact ⟨(k + 1, out), Head.sel [(0, true)] ⟨rfl, rfl, nr_inE (nr_Row _), trivial⟩ (by
        show (⟨27, _, [⟨113, 2, (out.map DRow.o).map (fun x => x.map (rnC [(0, true)])), true, true⟩]⟩ : MS) = _
        rw [rn_nrE (nr_Row out)]; rfl), ⟨hk', by simp only; omega, hb⟩, by simp only; omega⟩
    rw [if_pos (by simp [hc])] at hb
    simp only [go_sem, List.getElem?_toArray, Nat.reduceBEq, Nat.reduceAdd, Nat.reduceSub, Nat.reduceMul, Nat.reduceLT, Nat.reduceLeDiff, Nat.reduceEqDiff, Nat.succ_ne_zero, reduceIte, List.length_map, map_at _ hk', hk', hc, Option.getD_some]
    refine CallK.mk _ (by simpa only [go_sem] using cloneRow_spec l[k] hrl) fun _ => ?_
    simp only [go_sem, List.getElem?_toArray, Nat.reduceBEq, Nat.reduceAdd, Nat.reduceSub, Nat.reduceMul, Nat.reduceLT, Nat.reduceLeDiff, Nat.reduceEqDiff, Nat.succ_ne_zero, reduceIte, List.all_cons, List.all_nil, List.length_map, map_at _ hk', hk', hol2, nr_ref2, Bool.false_eq_true, Option.getD_some, wrap_i64 (n := (k : Int) + 1) (by omega) (by omega)]
    refine ⟨(k + 1, out ++ [l[k]]), Head.selAbs [(4, true), (2, false)] 1 0 ⟨rfl, rfl, in_app DRow.o_nr _ out rfl, pureE_map DVal.pure, trivial⟩ ⟨out.length, out.map DRow.o ++ [DRow.o l[k]], _, DRow.o l[k], _, ⟨Nat.lt_succ_self 0, rfl, rn_app DRow.o_nr _ out _ _, by simp, rfl⟩,
      ⟨rfl, rfl, rfl, rfl, rfl, rfl, nr_Val _, by simp [idxL], fun l hl => by simp [idxL] at hl; omega⟩, ⟨rfl, ?tr⟩, ?eq⟩, ⟨hk', by simp; omega, (List.append_assoc _ _ _).trans hb⟩, by simp only; omega⟩
    case tr => unfold absSt; rw [set_last]; exact all1 (nr_noRefOb (nr_Row _))
    case eq => unfold absSt; rw [set_last, List.map_append]; rfl
  · have hk' : k = l.length := by simp at h; omega
    subst hk'
    rw [List.drop_length] at hb
    have : out = (l.filter fun r => !hasN ids r.id) := by simpa using hb
    rw [← this]
    simp only [go_sem, List.getElem?_toArray, Nat.reduceBEq, Nat.reduceAdd, Nat.reduceSub, Nat.reduceMul, Nat.reduceLT, Nat.reduceLeDiff, Nat.reduceEqDiff, Nat.succ_ne_zero, reduceIte, nr_Row]
    try simp
theorem sDrop_spec (l : List DRow) (ids : List Int) (hl : fitS fitRow l) (hi : ids.length ≤ 1048576) : Ctr Tryz.prog 101 [.c (.sl (l.map DRow.c)), .c (.sl (ids.map intC))] [.own 113 2 ((l.filter fun r => !hasN ids r.id).map DRow.o) true] := by
  refine Ctr.mk (fn := Tryz.f101) Tryz.call101 Tryz.func101 rfl mixed Tryz.ntmps101 Tryz.results101 (by kernel_rfl) rfl fun hw => ?_
  have hlen := hl.1
  simp only [go_sem, List.getElem?_toArray, Nat.reduceBEq, Nat.reduceAdd, Nat.reduceSub, Nat.reduceMul, Nat.reduceLT, Nat.reduceLeDiff, Nat.reduceEqDiff, Nat.succ_ne_zero, reduceIte, List.length_map]
  refine LoopH.mk [8] (A := Nat × List DRow) (fun x => [(6, .c (.v (.int .i64 (x.1)))), (5, .c (.ref 0))]) (fun x => [⟨113, 2, x.2.map DRow.o, true, true⟩]) (fun x => x.1 ≤ l.length ∧ x.2.length ≤ x.1 ∧ x.2 ++ (l.drop x.1).filter (fun r => !hasN ids r.id) = (l.filter fun r => !hasN ids r.id)) (fun x => l.length - x.1) (0, []) (Head.sel [(0, false)] ⟨rfl, rfl, rfl, trivial⟩ rfl) ⟨Nat.zero_le _, Nat.le_refl _, rfl⟩ ?_
  rintro ⟨k, out⟩ ⟨hk, hol, hb⟩
  dsimp only at hk hol hb
  simp only [go_sem, List.getElem?_toArray, Nat.reduceBEq, Nat.reduceAdd, Nat.reduceSub, Nat.reduceMul, Nat.reduceLT, Nat.reduceLeDiff, Nat.reduceEqDiff, Nat.succ_ne_zero, reduceIte, List.length_map]
  refine cndC.mk (fun h => ?_) (fun h => ?_)
  · have hk' : k < l.length := by simpa using h
    rw [List.drop_eq_getElem_cons hk', List.filter_cons] at hb
    have hr := hl.2 _ (List.getElem_mem hk')
    rw [fitRow_eq] at hr
    have hrl := hr.1
    have hol2 : out.length + 1 ≤ 2147483648 := by omega
    simp only [go_sem, List.getElem?_toArray, Nat.reduceBEq, Nat.reduceAdd, Nat.reduceSub, Nat.reduceMul, Nat.reduceLT, Nat.reduceLeDiff, Nat.reduceEqDiff, Nat.succ_ne_zero, reduceIte, List.length_map, map_at _ hk', hk', Option.getD_some]
    refine CallK.mk _ (by simpa only [go_sem] using sHas_spec ids l[k].id hi) fun _ => ?_
    rcases hc : hasN ids l[k].id with _ | _
    rotate_left
    · rw [if_neg (by simp [hc])] at hb
      simp only [go_sem, List.getElem?_toArray, Nat.reduceBEq, Nat.reduceAdd, Nat.reduceSub, Nat.reduceMul, Nat.reduceLT, Nat.reduceLeDiff, Nat.reduceEqDiff, Nat.succ_ne_zero, reduceIte, List.length_map, map_at _ hk', hk', hc, Option.getD_some, wrap_i64 (n := (k : Int) + 1) (by omega) (by omega)]
      exact ⟨(k + 1, out), Head.sel [(0, true)] ⟨rfl, rfl, nr_inE (nr_Row _), trivial⟩ (by
        show (⟨33, _, [⟨113, 2, (out.map DRow.o).map (fun x => x.map (rnC [(0, true)])), true, true⟩]⟩ : MS) = _
        rw [rn_nrE (nr_Row out)]; rfl), ⟨hk', by simp only; omega, hb⟩, by simp only; omega⟩
    rw [if_pos (by simp [hc])] at hb
    simp only [go_sem, List.getElem?_toArray, Nat.reduceBEq, Nat.reduceAdd, Nat.reduceSub, Nat.reduceMul, Nat.reduceLT, Nat.reduceLeDiff, Nat.reduceEqDiff, Nat.succ_ne_zero, reduceIte, List.length_map, map_at _ hk', hk', hc, Option.getD_some]
    refine CallK.mk _ (by simpa only [go_sem] using l4Copy_spec l[k] hrl) fun _ => ?_
    simp only [go_sem, List.getElem?_toArray, Nat.reduceBEq, Nat.reduceAdd, Nat.reduceSub, Nat.reduceMul, Nat.reduceLT, Nat.reduceLeDiff, Nat.reduceEqDiff, Nat.succ_ne_zero, reduceIte, List.all_cons, List.all_nil, List.length_map, map_at _ hk', hk', hol2, nr_ref2, Bool.false_eq_true, Option.getD_some, wrap_i64 (n := (k : Int) + 1) (by omega) (by omega)]
    refine ⟨(k + 1, out ++ [l[k]]), Head.selAbs [(4, true), (1, false)] 1 0 ⟨rfl, rfl, in_app DRow.o_nr _ out rfl, pureE_map DVal.pure, trivial⟩ ⟨out.length, out.map DRow.o ++ [DRow.o l[k]], _, DRow.o l[k], _, ⟨Nat.lt_succ_self 0, rfl, rn_app DRow.o_nr _ out _ _, by simp, rfl⟩,
      ⟨rfl, rfl, rfl, rfl, rfl, rfl, nr_Val _, by simp [idxL], fun l hl => by simp [idxL] at hl; omega⟩, ⟨rfl, ?tr⟩, ?eq⟩, ⟨hk', by simp; omega, (List.append_assoc _ _ _).trans hb⟩, by simp only; omega⟩
    case tr => unfold absSt; rw [set_last]; exact all1 (nr_noRefOb (nr_Row _))
    case eq => unfold absSt; rw [set_last, List.map_append]; rfl
  · have hk' : k = l.length := by simp at h; omega
    subst hk'
    rw [List.drop_length] at hb
    have : out = (l.filter fun r => !hasN ids r.id) := by simpa using hb
    rw [← this]
    simp only [go_sem, List.getElem?_toArray, Nat.reduceBEq, Nat.reduceAdd, Nat.reduceSub, Nat.reduceMul, Nat.reduceLT, Nat.reduceLeDiff, Nat.reduceEqDiff, Nat.succ_ne_zero, reduceIte, nr_Row]
    try simp

end Go.Proofs.YtepjgnlinjlehaaGreat
