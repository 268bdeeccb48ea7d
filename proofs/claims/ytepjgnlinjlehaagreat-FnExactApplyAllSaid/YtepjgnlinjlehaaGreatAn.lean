/- Walks: a deed applied to a table, all of it. -/
import Derived.Test.YtepjgnlinjlehaaGreatAm
namespace Go.Proofs.YtepjgnlinjlehaaGreat
set_option linter.unusedSimpArgs false
set_option linter.unusedVariables false
open Go.Vm
set_option maxHeartbeats 2000000
set_option maxRecDepth 10000

noncomputable def doneB (t : DTable) (d : DDeed) : Bool := tableOk t && (deedOk d && (d.lin != -1))
noncomputable def applyR (t : DTable) (d : DDeed) : Option DTable :=
  if doneB t d = true then
    (if (d.op == 1) = true then (if putOk t d = true then some (putT t d) else none) else
     if (d.op == 2) = true then (if dropOk t d = true then some (dropT t d) else none) else
     if (d.op == 3) = true then (if scanOk t d = true then some t else none) else some t)
  else none
noncomputable def applyT (t : DTable) (d : DDeed) : DTable := (applyR t d).getD t
theorem applyT_no {t : DTable} {d : DDeed} (h : applyR t d = none) : applyT t d = t := by simp [applyT, h]
theorem applyT_yes {t t' : DTable} {d : DDeed} (h : applyR t d = some t') : applyT t d = t' := by simp [applyT, h]
theorem putR_fit {l : List DRow} {r : DRow} (hl : fitS fitRow l) (hr : fitS fitVal r.l) : ∀ x ∈ putR l r, fitRow x := by
  intro x hx
  simp only [putR, List.mem_append, List.mem_singleton] at hx
  rcases hx with (hx | rfl) | hx
  · exact hl.2 x ((List.takeWhile_sublist _).subset hx)
  · rw [fitRow_eq]; exact hr
  · exact hl.2 x ((List.dropWhile_sublist _).subset hx)

theorem putR_len (l : List DRow) (r : DRow) : (putR l r).length = l.length + 1 := by
  have := congrArg List.length (List.takeWhile_append_dropWhile (p := fun x : DRow => decide (x.id < r.id)) (l := l))
  simp only [putR, List.length_append, List.length_singleton] at this ⊢
  omega
theorem fit_putT {t : DTable} {d : DDeed} (ht : fitTable t) (hd : fitDeed d) (hroom : t.l.length + 1 ≤ 1048576) : fitTable (putT t d) := by
  rw [fitTable_eq] at ht
  rw [fitDeed_eq] at hd
  unfold putT
  repeat' split
  · rw [fitTable_eq]
    exact ⟨ht.1, by simp only [putR_len]; exact hroom, putR_fit ht.2 hd.1⟩
  · exact (fitTable_eq t).mpr ht
  · exact (fitTable_eq t).mpr ht
theorem fit_dropT {t : DTable} {d : DDeed} (ht : fitTable t) : fitTable (dropT t d) := by
  rw [fitTable_eq] at ht
  unfold dropT
  split
  · rw [fitTable_eq]
    exact ⟨ht.1, Nat.le_trans (List.length_filter_le _ _) ht.2.1, fun x hx => ht.2.2 x (List.mem_filter.1 hx).1⟩
  · exact (fitTable_eq t).mpr ht
theorem putT_cols (t : DTable) (d : DDeed) : (putT t d).cols = t.cols := by
  unfold putT
  repeat' split
  all_goals rfl
theorem dropT_cols (t : DTable) (d : DDeed) : (dropT t d).cols = t.cols := by unfold dropT; split <;> rfl
theorem sApply_spec (t : DTable) (d : DDeed) (ht : fitTable t) (hd : fitDeed d) (hroom : tableOk t = true → t.l.length + 1 ≤ 1048576) : Ctr Tryz.prog 8 [.agg t.c, .agg d.c] [.val (.agg (applyT t d).c), .val (.c (.v (.bool ((applyR t d).isSome))))] := by
  have ht0 := ht
  rw [fitTable_eq] at ht
  have hcopy : ∀ t : DTable, fitTable t → Ctr Tryz.prog 34 [.agg t.c] [.val (.agg t.c)] := fun t ht => by rw [fitTable_eq] at ht; exact (sCopy_spec t ht.1 ht.2).aggVal t.o_er
  refine Ctr.mk (fn := Tryz.f8) Tryz.call8 Tryz.func8 rfl mixed Tryz.ntmps8 Tryz.results8 (by kernel_rfl) rfl fun hw => ?_
  simp only [go_sem, List.getElem?_toArray, Nat.reduceBEq, Nat.reduceAdd, Nat.reduceSub, Nat.reduceMul, Nat.reduceLT, Nat.reduceLeDiff, Nat.reduceEqDiff, Nat.succ_ne_zero, reduceIte]
  refine CallK.mk _ (by simpa only [go_sem] using hcopy t ht0) fun _ => ?_
  simp only [go_sem, List.getElem?_toArray, Nat.reduceBEq, Nat.reduceAdd, Nat.reduceSub, Nat.reduceMul, Nat.reduceLT, Nat.reduceLeDiff, Nat.reduceEqDiff, Nat.succ_ne_zero, reduceIte]
  refine CallK.mk _ (by simpa only [go_sem] using sTable_spec t) fun _ => ?_
  rcases h1 : tableOk t with _ | _
  · have hn : applyR t d = none := by simp [applyR, doneB, h1]
    rw [applyT_no hn, hn]
    simp only [go_sem, List.getElem?_toArray, Nat.reduceBEq, Nat.reduceAdd, Nat.reduceSub, Nat.reduceMul, Nat.reduceLT, Nat.reduceLeDiff, Nat.reduceEqDiff, Nat.succ_ne_zero, reduceIte, h1, Option.isSome_none]
    refine CallK.mk _ (by simpa only [go_sem] using hcopy t ht0) fun _ => ?_
    simp only [go_sem, List.getElem?_toArray, Nat.reduceBEq, Nat.reduceAdd, Nat.reduceSub, Nat.reduceMul, Nat.reduceLT, Nat.reduceLeDiff, Nat.reduceEqDiff, Nat.succ_ne_zero, reduceIte]
  have hroom := hroom h1
  simp only [go_sem, List.getElem?_toArray, Nat.reduceBEq, Nat.reduceAdd, Nat.reduceSub, Nat.reduceMul, Nat.reduceLT, Nat.reduceLeDiff, Nat.reduceEqDiff, Nat.succ_ne_zero, reduceIte, h1]
  refine CallK.mk _ (by simpa only [go_sem] using sDeedOk_spec d) fun _ => ?_
  rcases h2 : deedOk d with _ | _
  · have hn : applyR t d = none := by simp [applyR, doneB, h1, h2]
    rw [applyT_no hn, hn]
    simp only [go_sem, List.getElem?_toArray, Nat.reduceBEq, Nat.reduceAdd, Nat.reduceSub, Nat.reduceMul, Nat.reduceLT, Nat.reduceLeDiff, Nat.reduceEqDiff, Nat.succ_ne_zero, reduceIte, h1, h2, Option.isSome_none]
    refine CallK.mk _ (by simpa only [go_sem] using hcopy t ht0) fun _ => ?_
    simp only [go_sem, List.getElem?_toArray, Nat.reduceBEq, Nat.reduceAdd, Nat.reduceSub, Nat.reduceMul, Nat.reduceLT, Nat.reduceLeDiff, Nat.reduceEqDiff, Nat.succ_ne_zero, reduceIte]
  rcases h3 : (d.lin != -1) with _ | _
  · have hn : applyR t d = none := by simp only [applyR, doneB, h1, h2, h3]; rfl
    rw [applyT_no hn, hn]
    simp only [go_sem, List.getElem?_toArray, Nat.reduceBEq, Nat.reduceAdd, Nat.reduceSub, Nat.reduceMul, Nat.reduceLT, Nat.reduceLeDiff, Nat.reduceEqDiff, Nat.succ_ne_zero, reduceIte, h1, h2, h3, Option.isSome_none]
    refine CallK.mk _ (by simpa only [go_sem] using hcopy t ht0) fun _ => ?_
    simp only [go_sem, List.getElem?_toArray, Nat.reduceBEq, Nat.reduceAdd, Nat.reduceSub, Nat.reduceMul, Nat.reduceLT, Nat.reduceLeDiff, Nat.reduceEqDiff, Nat.succ_ne_zero, reduceIte]
  have hdone : doneB t d = true := by simp only [doneB, h1, h2, h3]; rfl
  rcases k1 : (d.op == 1) with _ | _
  rotate_left
  · simp only [go_sem, List.getElem?_toArray, Nat.reduceBEq, Nat.reduceAdd, Nat.reduceSub, Nat.reduceMul, Nat.reduceLT, Nat.reduceLeDiff, Nat.reduceEqDiff, Nat.succ_ne_zero, reduceIte, h1, h2, h3, k1]
    refine PtrK.mk (cl' := [.sl (t.cols.map intC), .sl ((putT t d).l.map DRow.c)]) (rs := [.c (.v (.bool (putOk t d)))]) ?h rfl rfl rfl rfl rfl rfl rfl ?_
    case h => simpa only [go_sem] using sPutD_spec t d ht.2 hd
    rcases hok : putOk t d with _ | _
    · have hn : applyR t d = none := by simp only [applyR, hdone, k1, hok]; rfl
      rw [applyT_no hn, hn]
      simp only [go_sem, List.getElem?_toArray, Nat.reduceBEq, Nat.reduceAdd, Nat.reduceSub, Nat.reduceMul, Nat.reduceLT, Nat.reduceLeDiff, Nat.reduceEqDiff, Nat.succ_ne_zero, reduceIte, h1, h2, h3, k1, hok, Option.isSome_none]
      refine CallK.mk _ (by simpa only [go_sem] using hcopy t ht0) fun _ => ?_
      simp only [go_sem, List.getElem?_toArray, Nat.reduceBEq, Nat.reduceAdd, Nat.reduceSub, Nat.reduceMul, Nat.reduceLT, Nat.reduceLeDiff, Nat.reduceEqDiff, Nat.succ_ne_zero, reduceIte]
    · have hn : applyR t d = some (putT t d) := by simp only [applyR, hdone, k1, hok]; rfl
      rw [applyT_yes hn, hn]
      have hc2 : (putT t d).cols = t.cols := putT_cols t d
      simp only [go_sem, List.getElem?_toArray, Nat.reduceBEq, Nat.reduceAdd, Nat.reduceSub, Nat.reduceMul, Nat.reduceLT, Nat.reduceLeDiff, Nat.reduceEqDiff, Nat.succ_ne_zero, reduceIte, h1, h2, h3, k1, hok, Option.isSome_some]
      refine CallK.mk _ (by have := hcopy (putT t d) (fit_putT ht0 hd hroom); rw [DTable.c_eq, hc2] at this; simpa only [go_sem] using this) fun _ => ?_
      simp only [go_sem, List.getElem?_toArray, Nat.reduceBEq, Nat.reduceAdd, Nat.reduceSub, Nat.reduceMul, Nat.reduceLT, Nat.reduceLeDiff, Nat.reduceEqDiff, Nat.succ_ne_zero, reduceIte, hc2]
  rcases k2 : (d.op == 2) with _ | _
  rotate_left
  · simp only [go_sem, List.getElem?_toArray, Nat.reduceBEq, Nat.reduceAdd, Nat.reduceSub, Nat.reduceMul, Nat.reduceLT, Nat.reduceLeDiff, Nat.reduceEqDiff, Nat.succ_ne_zero, reduceIte, h1, h2, h3, k1, k2]
    refine PtrK.mk (cl' := [.sl (t.cols.map intC), .sl ((dropT t d).l.map DRow.c)]) (rs := [.c (.v (.bool (dropOk t d)))]) ?h rfl rfl rfl rfl rfl rfl rfl ?_
    case h => simpa only [go_sem] using sDropD_spec t d ht.2
    rcases hok : dropOk t d with _ | _
    · have hn : applyR t d = none := by simp only [applyR, hdone, k1, k2, hok]; rfl
      rw [applyT_no hn, hn]
      simp only [go_sem, List.getElem?_toArray, Nat.reduceBEq, Nat.reduceAdd, Nat.reduceSub, Nat.reduceMul, Nat.reduceLT, Nat.reduceLeDiff, Nat.reduceEqDiff, Nat.succ_ne_zero, reduceIte, h1, h2, h3, k1, k2, hok, Option.isSome_none]
      refine CallK.mk _ (by simpa only [go_sem] using hcopy t ht0) fun _ => ?_
      simp only [go_sem, List.getElem?_toArray, Nat.reduceBEq, Nat.reduceAdd, Nat.reduceSub, Nat.reduceMul, Nat.reduceLT, Nat.reduceLeDiff, Nat.reduceEqDiff, Nat.succ_ne_zero, reduceIte]
    · have hn : applyR t d = some (dropT t d) := by simp only [applyR, hdone, k1, k2, hok]; rfl
      rw [applyT_yes hn, hn]
      have hc2 : (dropT t d).cols = t.cols := dropT_cols t d
      simp only [go_sem, List.getElem?_toArray, Nat.reduceBEq, Nat.reduceAdd, Nat.reduceSub, Nat.reduceMul, Nat.reduceLT, Nat.reduceLeDiff, Nat.reduceEqDiff, Nat.succ_ne_zero, reduceIte, h1, h2, h3, k1, k2, hok, Option.isSome_some]
      refine CallK.mk _ (by have := hcopy (dropT t d) (fit_dropT ht0); rw [DTable.c_eq, hc2] at this; simpa only [go_sem] using this) fun _ => ?_
      simp only [go_sem, List.getElem?_toArray, Nat.reduceBEq, Nat.reduceAdd, Nat.reduceSub, Nat.reduceMul, Nat.reduceLT, Nat.reduceLeDiff, Nat.reduceEqDiff, Nat.succ_ne_zero, reduceIte, hc2]
  rcases k3 : (d.op == 3) with _ | _
  rotate_left
  · simp only [go_sem, List.getElem?_toArray, Nat.reduceBEq, Nat.reduceAdd, Nat.reduceSub, Nat.reduceMul, Nat.reduceLT, Nat.reduceLeDiff, Nat.reduceEqDiff, Nat.succ_ne_zero, reduceIte, h1, h2, h3, k1, k2, k3]
    refine PtrK.mk (cl' := [.sl (t.cols.map intC), .sl ((t).l.map DRow.c)]) (rs := [.c (.v (.bool (scanOk t d)))]) ?h rfl rfl rfl rfl rfl rfl rfl ?_
    case h => simpa only [go_sem] using sScanD_spec t d ht.1 ht.2 hd
    rcases hok : scanOk t d with _ | _
    · have hn : applyR t d = none := by simp only [applyR, hdone, k1, k2, k3, hok]; rfl
      rw [applyT_no hn, hn]
      simp only [go_sem, List.getElem?_toArray, Nat.reduceBEq, Nat.reduceAdd, Nat.reduceSub, Nat.reduceMul, Nat.reduceLT, Nat.reduceLeDiff, Nat.reduceEqDiff, Nat.succ_ne_zero, reduceIte, h1, h2, h3, k1, k2, k3, hok, Option.isSome_none]
      refine CallK.mk _ (by simpa only [go_sem] using hcopy t ht0) fun _ => ?_
      simp only [go_sem, List.getElem?_toArray, Nat.reduceBEq, Nat.reduceAdd, Nat.reduceSub, Nat.reduceMul, Nat.reduceLT, Nat.reduceLeDiff, Nat.reduceEqDiff, Nat.succ_ne_zero, reduceIte]
    · have hn : applyR t d = some (t) := by simp only [applyR, hdone, k1, k2, k3, hok]; rfl
      rw [applyT_yes hn, hn]
      have hc2 : t.cols = t.cols := rfl
      simp only [go_sem, List.getElem?_toArray, Nat.reduceBEq, Nat.reduceAdd, Nat.reduceSub, Nat.reduceMul, Nat.reduceLT, Nat.reduceLeDiff, Nat.reduceEqDiff, Nat.succ_ne_zero, reduceIte, h1, h2, h3, k1, k2, k3, hok, Option.isSome_some]
      refine CallK.mk _ (by have := hcopy (t) (ht0); rw [DTable.c_eq, hc2] at this; simpa only [go_sem] using this) fun _ => ?_
      simp only [go_sem, List.getElem?_toArray, Nat.reduceBEq, Nat.reduceAdd, Nat.reduceSub, Nat.reduceMul, Nat.reduceLT, Nat.reduceLeDiff, Nat.reduceEqDiff, Nat.succ_ne_zero, reduceIte, hc2]
  have hn : applyR t d = some t := by simp only [applyR, hdone, k1, k2, k3]; rfl
  rw [applyT_yes hn, hn]
  simp only [go_sem, List.getElem?_toArray, Nat.reduceBEq, Nat.reduceAdd, Nat.reduceSub, Nat.reduceMul, Nat.reduceLT, Nat.reduceLeDiff, Nat.reduceEqDiff, Nat.succ_ne_zero, reduceIte, h1, h2, h3, k1, k2, k3, Option.isSome_some]
  refine CallK.mk _ (by simpa only [go_sem] using hcopy t ht0) fun _ => ?_
  simp only [go_sem, List.getElem?_toArray, Nat.reduceBEq, Nat.reduceAdd, Nat.reduceSub, Nat.reduceMul, Nat.reduceLT, Nat.reduceLeDiff, Nat.reduceEqDiff, Nat.succ_ne_zero, reduceIte]

end Go.Proofs.YtepjgnlinjlehaaGreat
