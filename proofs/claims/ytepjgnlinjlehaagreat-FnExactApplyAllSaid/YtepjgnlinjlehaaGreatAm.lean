/- Walks: a deed applied to a table. -/
import Derived.Test.YtepjgnlinjlehaaGreatAk
namespace Go.Proofs.YtepjgnlinjlehaaGreat
set_option linter.unusedSimpArgs false
set_option linter.unusedVariables false
open Go.Vm
set_option maxHeartbeats 2000000
set_option maxRecDepth 10000

theorem int_rows (l : List Int) : appRows 1 (l.map intC) = true := appRows_map (fun _ => rfl) l
theorem cloneInts_spec (l : List Int) (h : l.length ≤ 1048576) : Ctr Tryz.prog 108 [.c (.sl (l.map intC))] [.own 3 1 (l.map intC) true] := by
  refine Ctr.mk (fn := Tryz.f108) Tryz.call108 Tryz.func108 rfl mixed Tryz.ntmps108 Tryz.results108 (by kernel_rfl) rfl fun hw => ?_
  have hl : l.length ≤ 2147483648 := by omega
  simp only [go_sem, List.getElem?_toArray, Nat.reduceBEq, Nat.reduceAdd, Nat.reduceSub, Nat.reduceMul, Nat.reduceLT, Nat.reduceLeDiff, Nat.reduceEqDiff, Nat.succ_ne_zero, reduceIte, int_rows, List.length_map, hl, Option.getD_some, nr_int]
  try simp
theorem cloneTable_spec (t : DTable) (hc : t.cols.length ≤ 1048576) (hl : fitS fitRow t.l) : Ctr Tryz.prog 45 [.agg t.c] [.agg t.o] := by
  refine Ctr.mk (fn := Tryz.f45) Tryz.call45 Tryz.func45 rfl mixed Tryz.ntmps45 Tryz.results45 (by kernel_rfl) rfl fun hw => ?_
  simp only [go_sem, List.getElem?_toArray, Nat.reduceBEq, Nat.reduceAdd, Nat.reduceSub, Nat.reduceMul, Nat.reduceLT, Nat.reduceLeDiff, Nat.reduceEqDiff, Nat.succ_ne_zero, reduceIte]
  refine DrawK.mkE ?_
  simp only [go_sem, List.getElem?_toArray, Nat.reduceBEq, Nat.reduceAdd, Nat.reduceSub, Nat.reduceMul, Nat.reduceLT, Nat.reduceLeDiff, Nat.reduceEqDiff, Nat.succ_ne_zero, reduceIte]
  refine CallE.mk _ (cloneInts_spec t.cols hc) ?_
  simp only [go_sem, List.getElem?_toArray, Nat.reduceBEq, Nat.reduceAdd, Nat.reduceSub, Nat.reduceMul, Nat.reduceLT, Nat.reduceLeDiff, Nat.reduceEqDiff, Nat.succ_ne_zero, reduceIte, nr_int]
  refine CallE.mk _ (by simpa only [go_sem] using cloneRows_spec t.l hl) ?_
  simp only [go_sem, List.getElem?_toArray, Nat.reduceBEq, Nat.reduceAdd, Nat.reduceSub, Nat.reduceMul, Nat.reduceLT, Nat.reduceLeDiff, Nat.reduceEqDiff, Nat.succ_ne_zero, reduceIte, nr_int, nr_Row]
  try simp [OwnL, pureC]
theorem sCopy_spec (t : DTable) (hc : t.cols.length ≤ 1048576) (hl : fitS fitRow t.l) : Ctr Tryz.prog 34 [.agg t.c] [.agg t.o] := by
  refine Ctr.mk (fn := Tryz.f34) Tryz.call34 Tryz.func34 rfl mixed Tryz.ntmps34 Tryz.results34 (by kernel_rfl) rfl fun hw => ?_
  have hl2 : t.cols.length ≤ 2147483648 := by omega
  simp only [go_sem, List.getElem?_toArray, Nat.reduceBEq, Nat.reduceAdd, Nat.reduceSub, Nat.reduceMul, Nat.reduceLT, Nat.reduceLeDiff, Nat.reduceEqDiff, Nat.succ_ne_zero, reduceIte]
  refine DrawK.mkE ?_
  simp only [go_sem, List.getElem?_toArray, Nat.reduceBEq, Nat.reduceAdd, Nat.reduceSub, Nat.reduceMul, Nat.reduceLT, Nat.reduceLeDiff, Nat.reduceEqDiff, Nat.succ_ne_zero, reduceIte, int_rows, List.length_map, hl2, Option.getD_some, nr_int]
  refine CallE.mk _ (by simpa only [go_sem] using l4All_spec t.l hl) ?_
  simp only [go_sem, List.getElem?_toArray, Nat.reduceBEq, Nat.reduceAdd, Nat.reduceSub, Nat.reduceMul, Nat.reduceLT, Nat.reduceLeDiff, Nat.reduceEqDiff, Nat.succ_ne_zero, reduceIte, nr_int, nr_Row]
  try simp [OwnL, pureC]
def putD (d : DDeed) : DRow := ⟨d.id, d.r⟩
def dropL (l : List DRow) (n : Int) : List DRow := l.filter fun r => !hasN [n] r.id
def putOk (t : DTable) (d : DDeed) : Bool :=
  if (d.code == 4) = true then !fits t.cols d.r else if (d.code == 3) = true then fits t.cols d.r else if (d.code == 1) = true then !((findR t.l d.id).isSome || (!fits t.cols d.r || decide (d.id < 0))) else false
def putT (t : DTable) (d : DDeed) : DTable := if (d.code == 1) = true then (if putOk t d = true then ⟨t.cols, putR t.l (putD d)⟩ else t) else t
def foundV : Option DRow → AV
  | none => .agg [.v (.int .i64 0), .sl []]
  | some r => .agg r.c
theorem found_frz (o : Option DRow) (b : Bool) : [foundQ o, .val (.c (.v (.bool (b))))].map frz1 = [.val (foundV o), .val (.c (.v (.bool (b))))] := by
  cases o with
  | none => rfl
  | some r => simp only [foundQ, foundV, List.map_cons, List.map_nil, frz1, DRow.o_er]
theorem sFindV_spec (l : List DRow) (n : Int) (ha : fitS fitRow l) : Ctr Tryz.prog 99 [.c (.sl (l.map DRow.c)), .c (.v (.int .i64 (n)))] [.val (foundV (findR l n)), .val (.c (.v (.bool ((findR l n).isSome))))] := by
  rw [← found_frz]
  exact (sFind_spec l n ha).frz
theorem iFindV_spec (l : List DRow) (n : Int) (ha : fitS fitRow l) : Ctr Tryz.prog 48 [.c (.sl (l.map DRow.c)), .c (.v (.int .i64 (n)))] [.val (foundV (findR l n)), .val (.c (.v (.bool ((findR l n).isSome))))] := by
  rw [← found_frz]
  exact (iFind_spec l n ha).frz
theorem sPutD_spec (t : DTable) (d : DDeed) (hl : fitS fitRow t.l) (hd : fitDeed d) : PCtr Tryz.prog 37 42 [.sl (t.cols.map intC), .sl (t.l.map DRow.c)] [.agg d.c] [.sl (t.cols.map intC), .sl ((putT t d).l.map DRow.c)] [.c (.v (.bool (putOk t d)))] := by
  rw [fitDeed_eq] at hd
  refine PCtr.mk (fn := Tryz.f37) Tryz.call37 Tryz.func37 rfl mixed Tryz.ntmps37 Tryz.results37 (by kernel_rfl) rfl rfl fun b hw0 hw => ?_
  simp only [go_sem, List.getElem?_toArray, Nat.reduceBEq, Nat.reduceAdd, Nat.reduceSub, Nat.reduceMul, Nat.reduceLT, Nat.reduceLeDiff, Nat.reduceEqDiff, Nat.succ_ne_zero, reduceIte]
  refine DrawK.mk ?_
  simp only [go_sem, List.getElem?_toArray, Nat.reduceBEq, Nat.reduceAdd, Nat.reduceSub, Nat.reduceMul, Nat.reduceLT, Nat.reduceLeDiff, Nat.reduceEqDiff, Nat.succ_ne_zero, reduceIte]
  refine CallF.mk _ (sFits_spec t.cols d.r) ?_
  rcases k4 : (d.code == 4) with _ | _
  rotate_left
  · have hc1 : (d.code == 1) = false := by simp at k4 ⊢; omega
    have h1 : putOk t d = !fits t.cols d.r := by simp [putOk, k4]
    have h2 : putT t d = t := by simp [putT, hc1]
    simp only [go_sem, List.getElem?_toArray, Nat.reduceBEq, Nat.reduceAdd, Nat.reduceSub, Nat.reduceMul, Nat.reduceLT, Nat.reduceLeDiff, Nat.reduceEqDiff, Nat.succ_ne_zero, reduceIte, k4, h1, h2]
    exact ⟨0, _, _, _, _, _, rfl, rfl, rfl, rfl, rfl, rfl, rfl, rfl, rfl⟩
  rcases k3 : (d.code == 3) with _ | _
  rotate_left
  · have hc1 : (d.code == 1) = false := by simp at k3 ⊢; omega
    have h1 : putOk t d = fits t.cols d.r := by simp [putOk, k4, k3]
    have h2 : putT t d = t := by simp [putT, hc1]
    simp only [go_sem, List.getElem?_toArray, Nat.reduceBEq, Nat.reduceAdd, Nat.reduceSub, Nat.reduceMul, Nat.reduceLT, Nat.reduceLeDiff, Nat.reduceEqDiff, Nat.succ_ne_zero, reduceIte, k4, k3, h1, h2]
    exact ⟨0, _, _, _, _, _, rfl, rfl, rfl, rfl, rfl, rfl, rfl, rfl, rfl⟩
  rcases k1 : (d.code == 1) with _ | _
  · have h1 : putOk t d = false := by simp [putOk, k4, k3, k1]
    have h2 : putT t d = t := by simp [putT, k1]
    simp only [go_sem, List.getElem?_toArray, Nat.reduceBEq, Nat.reduceAdd, Nat.reduceSub, Nat.reduceMul, Nat.reduceLT, Nat.reduceLeDiff, Nat.reduceEqDiff, Nat.succ_ne_zero, reduceIte, k4, k3, k1, h1, h2]
    exact ⟨0, _, _, _, _, _, rfl, rfl, rfl, rfl, rfl, rfl, rfl, rfl, rfl⟩
  have h1 : putOk t d = !((findR t.l d.id).isSome || (!fits t.cols d.r || decide (d.id < 0))) := by simp [putOk, k4, k3, k1]
  simp only [go_sem, List.getElem?_toArray, Nat.reduceBEq, Nat.reduceAdd, Nat.reduceSub, Nat.reduceMul, Nat.reduceLT, Nat.reduceLeDiff, Nat.reduceEqDiff, Nat.succ_ne_zero, reduceIte, k4, k3, k1]
  rcases hf : findR t.l d.id with _ | r
  · refine DrawK.mkA 10 6 (by kernel_rfl) ?_
    simp only [go_sem, List.getElem?_toArray, Nat.reduceBEq, Nat.reduceAdd, Nat.reduceSub, Nat.reduceMul, Nat.reduceLT, Nat.reduceLeDiff, Nat.reduceEqDiff, Nat.succ_ne_zero, reduceIte, k4, k3, k1]
    refine CallE.mk _ (sFindV_spec t.l d.id hl) ?_
    simp only [go_sem, List.getElem?_toArray, Nat.reduceBEq, Nat.reduceAdd, Nat.reduceSub, Nat.reduceMul, Nat.reduceLT, Nat.reduceLeDiff, Nat.reduceEqDiff, Nat.succ_ne_zero, reduceIte, k4, k3, k1, hf, foundV, Option.isSome_none]
    rcases h3 : fits t.cols d.r with _ | _
    · have h2 : putT t d = t := by simp [putT, k1, h1, hf, h3]
      have h4 : putOk t d = false := by simp [h1, hf, h3]
      simp only [go_sem, List.getElem?_toArray, Nat.reduceBEq, Nat.reduceAdd, Nat.reduceSub, Nat.reduceMul, Nat.reduceLT, Nat.reduceLeDiff, Nat.reduceEqDiff, Nat.succ_ne_zero, reduceIte, k4, k3, k1, h3, h2, h4]
      exact ⟨0, _, _, _, _, _, rfl, rfl, rfl, rfl, rfl, rfl, rfl, rfl, rfl⟩
    rcases h5 : decide (d.id < 0) with _ | _
    · have h4 : putOk t d = true := by simp only [h1, hf, h3, h5]; rfl
      have h2 : putT t d = ⟨t.cols, putR t.l (putD d)⟩ := by simp [putT, k1, h4]
      simp only [go_sem, List.getElem?_toArray, Nat.reduceBEq, Nat.reduceAdd, Nat.reduceSub, Nat.reduceMul, Nat.reduceLT, Nat.reduceLeDiff, Nat.reduceEqDiff, Nat.succ_ne_zero, reduceIte, k4, k3, k1, h3, h5, h2, h4]
      refine DrawK.mkE ?_
      simp only [go_sem, List.getElem?_toArray, Nat.reduceBEq, Nat.reduceAdd, Nat.reduceSub, Nat.reduceMul, Nat.reduceLT, Nat.reduceLeDiff, Nat.reduceEqDiff, Nat.succ_ne_zero, reduceIte, k4, k3, k1, h3, h5, h2, h4]
      refine CallE.mk _ (by simpa only [go_sem, putD] using (sPut_spec t.l (putD d) hl hd.1.1).valO (erE_Row _)) ?_
      simp only [go_sem, List.getElem?_toArray, Nat.reduceBEq, Nat.reduceAdd, Nat.reduceSub, Nat.reduceMul, Nat.reduceLT, Nat.reduceLeDiff, Nat.reduceEqDiff, Nat.succ_ne_zero, reduceIte, k4, k3, k1, h3, h5, h2, h4, and_true, true_and]
      exact ⟨0, _, _, _, _, _, rfl, rfl, rfl, rfl, rfl, rfl, rfl, rfl, rfl⟩
    · have h4 : putOk t d = false := by simp only [h1, hf, h3, h5]; rfl
      have h2 : putT t d = t := by simp [putT, k1, h4]
      simp only [go_sem, List.getElem?_toArray, Nat.reduceBEq, Nat.reduceAdd, Nat.reduceSub, Nat.reduceMul, Nat.reduceLT, Nat.reduceLeDiff, Nat.reduceEqDiff, Nat.succ_ne_zero, reduceIte, k4, k3, k1, h3, h5, h2, h4]
      exact ⟨0, _, _, _, _, _, rfl, rfl, rfl, rfl, rfl, rfl, rfl, rfl, rfl⟩
  · have h2 : putT t d = t := by simp [putT, k1, h1, hf]
    refine DrawK.mkA 10 6 (by kernel_rfl) ?_
    simp only [go_sem, List.getElem?_toArray, Nat.reduceBEq, Nat.reduceAdd, Nat.reduceSub, Nat.reduceMul, Nat.reduceLT, Nat.reduceLeDiff, Nat.reduceEqDiff, Nat.succ_ne_zero, reduceIte, k4, k3, k1]
    refine CallE.mk _ (sFindV_spec t.l d.id hl) ?_
    have h4 : putOk t d = false := by simp [h1, hf]
    simp only [go_sem, List.getElem?_toArray, Nat.reduceBEq, Nat.reduceAdd, Nat.reduceSub, Nat.reduceMul, Nat.reduceLT, Nat.reduceLeDiff, Nat.reduceEqDiff, Nat.succ_ne_zero, reduceIte, k4, k3, k1, hf, foundV, Option.isSome_some, h2, h4]
    exact ⟨0, _, _, _, _, _, rfl, rfl, rfl, rfl, rfl, rfl, rfl, rfl, rfl⟩
def dropOk (t : DTable) (d : DDeed) : Bool :=
  if (d.code == 4) = true then decide (d.id < 0) else if (d.code == 2) = true then !(findR t.l d.id).isSome else if (d.code == 1) = true then (findR t.l d.id).isSome else false
def dropT (t : DTable) (d : DDeed) : DTable := if (d.code == 1) = true then ⟨t.cols, dropL t.l d.id⟩ else t
theorem sDropD_spec (t : DTable) (d : DDeed) (hl : fitS fitRow t.l) : PCtr Tryz.prog 38 42 [.sl (t.cols.map intC), .sl (t.l.map DRow.c)] [.agg d.c] [.sl (t.cols.map intC), .sl ((dropT t d).l.map DRow.c)] [.c (.v (.bool (dropOk t d)))] := by
  refine PCtr.mk (fn := Tryz.f38) Tryz.call38 Tryz.func38 rfl mixed Tryz.ntmps38 Tryz.results38 (by kernel_rfl) rfl rfl fun b hw0 hw => ?_
  simp only [go_sem, List.getElem?_toArray, Nat.reduceBEq, Nat.reduceAdd, Nat.reduceSub, Nat.reduceMul, Nat.reduceLT, Nat.reduceLeDiff, Nat.reduceEqDiff, Nat.succ_ne_zero, reduceIte]
  first | refine DrawK.mkA 10 6 (by kernel_rfl) ?_ | skip
  try simp only [go_sem, List.getElem?_toArray, Nat.reduceBEq, Nat.reduceAdd, Nat.reduceSub, Nat.reduceMul, Nat.reduceLT, Nat.reduceLeDiff, Nat.reduceEqDiff, Nat.succ_ne_zero, reduceIte]
  refine CallE.mk _ (sFindV_spec t.l d.id hl) ?_
  rcases hf : findR t.l d.id with _ | r
  all_goals
    simp only [go_sem, List.getElem?_toArray, Nat.reduceBEq, Nat.reduceAdd, Nat.reduceSub, Nat.reduceMul, Nat.reduceLT, Nat.reduceLeDiff, Nat.reduceEqDiff, Nat.succ_ne_zero, reduceIte, hf, foundV, Option.isSome_none, Option.isSome_some]
    rcases k4 : (d.code == 4) with _ | _
    rotate_left
    · have hc1 : (d.code == 1) = false := by simp at k4 ⊢; omega
      have h1 : dropOk t d = decide (d.id < 0) := by simp [dropOk, k4]
      have h2 : dropT t d = t := by simp [dropT, hc1]
      simp only [go_sem, List.getElem?_toArray, Nat.reduceBEq, Nat.reduceAdd, Nat.reduceSub, Nat.reduceMul, Nat.reduceLT, Nat.reduceLeDiff, Nat.reduceEqDiff, Nat.succ_ne_zero, reduceIte, k4, h1, h2]
      exact ⟨0, _, _, _, _, _, rfl, rfl, rfl, rfl, rfl, rfl, rfl, rfl, rfl⟩
    rcases k2 : (d.code == 2) with _ | _
    rotate_left
    · have hc1 : (d.code == 1) = false := by simp at k2 ⊢; omega
      have h1 : dropOk t d = !(findR t.l d.id).isSome := by simp [dropOk, k4, k2]
      have h2 : dropT t d = t := by simp [dropT, hc1]
      rw [hf] at h1
      simp only [go_sem, List.getElem?_toArray, Nat.reduceBEq, Nat.reduceAdd, Nat.reduceSub, Nat.reduceMul, Nat.reduceLT, Nat.reduceLeDiff, Nat.reduceEqDiff, Nat.succ_ne_zero, reduceIte, k4, k2, h1, h2, Option.isSome_none, Option.isSome_some]
      exact ⟨0, _, _, _, _, _, rfl, rfl, rfl, rfl, rfl, rfl, rfl, rfl, rfl⟩
    rcases k1 : (d.code == 1) with _ | _
    · have h1 : dropOk t d = false := by simp [dropOk, k4, k2, k1]
      have h2 : dropT t d = t := by simp [dropT, k1]
      simp only [go_sem, List.getElem?_toArray, Nat.reduceBEq, Nat.reduceAdd, Nat.reduceSub, Nat.reduceMul, Nat.reduceLT, Nat.reduceLeDiff, Nat.reduceEqDiff, Nat.succ_ne_zero, reduceIte, k4, k2, k1, h1, h2]
      exact ⟨0, _, _, _, _, _, rfl, rfl, rfl, rfl, rfl, rfl, rfl, rfl, rfl⟩
    have h1 : dropOk t d = (findR t.l d.id).isSome := by simp [dropOk, k4, k2, k1]
    have h2 : dropT t d = ⟨t.cols, dropL t.l d.id⟩ := by simp [dropT, k1]
    rw [hf] at h1
    simp only [go_sem, List.getElem?_toArray, Nat.reduceBEq, Nat.reduceAdd, Nat.reduceSub, Nat.reduceMul, Nat.reduceLT, Nat.reduceLeDiff, Nat.reduceEqDiff, Nat.succ_ne_zero, reduceIte, k4, k2, k1, h1, h2]
    refine DrawK.mkE ?_
    simp only [go_sem, List.getElem?_toArray, Nat.reduceBEq, Nat.reduceAdd, Nat.reduceSub, Nat.reduceMul, Nat.reduceLT, Nat.reduceLeDiff, Nat.reduceEqDiff, Nat.succ_ne_zero, reduceIte, k4, k2, k1, h1, h2, Option.getD_some, List.length_cons, List.length_nil]
    refine CallE.mk _ (by simpa only [go_sem, List.map_cons, List.map_nil, intC, dropL] using (sDrop_spec t.l [d.id] hl (by simp)).valO (erE_Row _)) ?_
    simp only [go_sem, List.getElem?_toArray, Nat.reduceBEq, Nat.reduceAdd, Nat.reduceSub, Nat.reduceMul, Nat.reduceLT, Nat.reduceLeDiff, Nat.reduceEqDiff, Nat.succ_ne_zero, reduceIte, k4, k2, k1, h1, h2, Option.isSome_none, Option.isSome_some, and_true, true_and]
    exact ⟨0, _, _, _, _, _, rfl, rfl, rfl, rfl, rfl, rfl, rfl, rfl, rfl⟩
theorem answer_frz {f : FuncId} {args : List AV} {q : DQuery} {l : List DRow} (h : Ctr Tryz.prog f args [ansRes q l]) : Ctr Tryz.prog f args [.val (.agg (answer q l).c)] := by
  rw [← ansRes_frz]
  exact h.frz
theorem answer_fit (q : DQuery) (l : List DRow) (hq : q.out.length ≤ 1048576) (hl : fitS fitRow l) : fitS fitRow (answer q l).rows := by
  have h0 : fitS fitRow ([] : List DRow) := ⟨by simp, fun x hx => by simp at hx⟩
  unfold answer
  repeat' split
  · have hm := meant_fit q l hl
    refine ⟨by simp; exact hm.1, fun x hx => ?_⟩
    obtain ⟨r, hr, rfl⟩ := List.mem_map.1 hx
    rw [fitRow_eq]
    have h1 : (cutL r q.out).length ≤ q.out.length := List.length_filterMap_le _ _
    refine ⟨by simp only [cutR]; omega, fun v hv => ?_⟩
    have h2 := hm.2 r hr
    rw [fitRow_eq] at h2
    simp only [cutR, cutL, List.mem_filterMap] at hv
    obtain ⟨k, _, hk⟩ := hv
    split at hk
    · exact h2.2 v (List.mem_of_getElem? hk)
    · cases hk
  all_goals exact h0
def scanOk (t : DTable) (d : DDeed) : Bool :=
  if (d.code == 0) = true then queryOk t.cols d.q else if (d.code == 4) = true then !queryOk t.cols d.q else if (d.code == 1) = true then queryOk t.cols d.q && sameRes d.res (answer d.q t.l) else false
theorem sScanD_spec (t : DTable) (d : DDeed) (hc : t.cols.length ≤ 1048576) (hl : fitS fitRow t.l) (hd : fitDeed d) : PCtr Tryz.prog 39 42 [.sl (t.cols.map intC), .sl (t.l.map DRow.c)] [.agg d.c] [.sl (t.cols.map intC), .sl (t.l.map DRow.c)] [.c (.v (.bool (scanOk t d)))] := by
  rw [fitDeed_eq] at hd
  refine PCtr.mk (fn := Tryz.f39) Tryz.call39 Tryz.func39 rfl mixed Tryz.ntmps39 Tryz.results39 (by kernel_rfl) rfl rfl fun b hw0 hw => ?_
  simp only [go_sem, List.getElem?_toArray, Nat.reduceBEq, Nat.reduceAdd, Nat.reduceSub, Nat.reduceMul, Nat.reduceLT, Nat.reduceLeDiff, Nat.reduceEqDiff, Nat.succ_ne_zero, reduceIte]
  refine DrawK.mk ?_
  simp only [go_sem, List.getElem?_toArray, Nat.reduceBEq, Nat.reduceAdd, Nat.reduceSub, Nat.reduceMul, Nat.reduceLT, Nat.reduceLeDiff, Nat.reduceEqDiff, Nat.succ_ne_zero, reduceIte]
  refine CallF.mk _ (by simpa only [go_sem] using sQueryOk_spec t.cols d.q hc hd.2.1) ?_
  rcases k0 : (d.code == 0) with _ | _
  rotate_left
  · have h1 : scanOk t d = queryOk t.cols d.q := by simp [scanOk, k0]
    simp only [go_sem, List.getElem?_toArray, Nat.reduceBEq, Nat.reduceAdd, Nat.reduceSub, Nat.reduceMul, Nat.reduceLT, Nat.reduceLeDiff, Nat.reduceEqDiff, Nat.succ_ne_zero, reduceIte, k0, h1]
    exact ⟨0, _, _, _, _, _, rfl, rfl, rfl, rfl, rfl, rfl, rfl, rfl, rfl⟩
  rcases k4 : (d.code == 4) with _ | _
  rotate_left
  · have h1 : scanOk t d = !queryOk t.cols d.q := by simp [scanOk, k0, k4]
    simp only [go_sem, List.getElem?_toArray, Nat.reduceBEq, Nat.reduceAdd, Nat.reduceSub, Nat.reduceMul, Nat.reduceLT, Nat.reduceLeDiff, Nat.reduceEqDiff, Nat.succ_ne_zero, reduceIte, k0, k4, h1]
    exact ⟨0, _, _, _, _, _, rfl, rfl, rfl, rfl, rfl, rfl, rfl, rfl, rfl⟩
  rcases k1 : (d.code == 1) with _ | _
  · have h1 : scanOk t d = false := by simp [scanOk, k0, k4, k1]
    simp only [go_sem, List.getElem?_toArray, Nat.reduceBEq, Nat.reduceAdd, Nat.reduceSub, Nat.reduceMul, Nat.reduceLT, Nat.reduceLeDiff, Nat.reduceEqDiff, Nat.succ_ne_zero, reduceIte, k0, k4, k1, h1]
    exact ⟨0, _, _, _, _, _, rfl, rfl, rfl, rfl, rfl, rfl, rfl, rfl, rfl⟩
  have h1 : scanOk t d = (queryOk t.cols d.q && sameRes d.res (answer d.q t.l)) := by simp [scanOk, k0, k4, k1]
  rcases h2 : queryOk t.cols d.q with _ | _
  · rw [h2, Bool.false_and] at h1
    simp only [go_sem, List.getElem?_toArray, Nat.reduceBEq, Nat.reduceAdd, Nat.reduceSub, Nat.reduceMul, Nat.reduceLT, Nat.reduceLeDiff, Nat.reduceEqDiff, Nat.succ_ne_zero, reduceIte, k0, k4, k1, h1, h2]
    try refine DrawK.mk ?_
    try simp only [go_sem, List.getElem?_toArray, Nat.reduceBEq, Nat.reduceAdd, Nat.reduceSub, Nat.reduceMul, Nat.reduceLT, Nat.reduceLeDiff, Nat.reduceEqDiff, Nat.succ_ne_zero, reduceIte, k0, k4, k1, h1, h2]
    exact ⟨0, _, _, _, _, _, rfl, rfl, rfl, rfl, rfl, rfl, rfl, rfl, rfl⟩
  rw [h2, Bool.true_and] at h1
  simp only [go_sem, List.getElem?_toArray, Nat.reduceBEq, Nat.reduceAdd, Nat.reduceSub, Nat.reduceMul, Nat.reduceLT, Nat.reduceLeDiff, Nat.reduceEqDiff, Nat.succ_ne_zero, reduceIte, k0, k4, k1, h1, h2]
  refine DrawK.mk ?_
  simp only [go_sem, List.getElem?_toArray, Nat.reduceBEq, Nat.reduceAdd, Nat.reduceSub, Nat.reduceMul, Nat.reduceLT, Nat.reduceLeDiff, Nat.reduceEqDiff, Nat.succ_ne_zero, reduceIte, k0, k4, k1, h1, h2]
  refine CallF.mk _ (by simpa only [go_sem] using answer_frz (sAnswer_spec d.q t.l hd.2.1 hl)) ?_
  simp only [go_sem, List.getElem?_toArray, Nat.reduceBEq, Nat.reduceAdd, Nat.reduceSub, Nat.reduceMul, Nat.reduceLT, Nat.reduceLeDiff, Nat.reduceEqDiff, Nat.succ_ne_zero, reduceIte, k0, k4, k1, h1, h2]
  refine CallF.mk _ (by simpa only [go_sem] using sSameRes_spec d.res (answer d.q t.l) hd.2.2.1 (answer_fit d.q t.l hd.2.1.2 hl)) ?_
  simp only [go_sem, List.getElem?_toArray, Nat.reduceBEq, Nat.reduceAdd, Nat.reduceSub, Nat.reduceMul, Nat.reduceLT, Nat.reduceLeDiff, Nat.reduceEqDiff, Nat.succ_ne_zero, reduceIte, k0, k4, k1, h1, h2]
  exact ⟨0, _, _, _, _, _, rfl, rfl, rfl, rfl, rfl, rfl, rfl, rfl, rfl⟩

end Go.Proofs.YtepjgnlinjlehaaGreat
