/- Walks: whether a question, and a deed, is well formed. -/
import Derived.Test.YtepjgnlinjlehaaGreatAf
import Derived.Test.YtepjgnlinjlehaaGreatAb
namespace Go.Proofs.YtepjgnlinjlehaaGreat
set_option linter.unusedSimpArgs false
set_option linter.unusedVariables false
open Go.Vm
set_option maxHeartbeats 2000000
set_option maxRecDepth 10000

def predOk (cs : List Int) (p : DPred) : Bool := colsOk cs && (okP cs 4 p && decide ((cntP 4 p : Int) ≤ 8))
theorem sPredOk_spec (cs : List Int) (p : DPred) (hc : cs.length ≤ 1048576) (hp : fitPred p) : Ctr Tryz.prog 149 [.c (.sl (cs.map intC)), .agg p.c] [.val (.c (.v (.bool (predOk cs p))))] := by
  refine Ctr.mk (fn := Tryz.f149) Tryz.call149 Tryz.func149 rfl mixed Tryz.ntmps149 Tryz.results149 (by kernel_rfl) rfl fun hw => ?_
  simp only [go_sem, List.getElem?_toArray, Nat.reduceBEq, Nat.reduceAdd, Nat.reduceSub, Nat.reduceMul, Nat.reduceLT, Nat.reduceLeDiff, Nat.reduceEqDiff, Nat.succ_ne_zero, reduceIte, List.length_map]
  refine CallK.mk _ (sCols_spec cs) fun _ => ?_
  rcases h1 : colsOk cs with _ | _
  · simp only [go_sem, List.getElem?_toArray, Nat.reduceBEq, Nat.reduceAdd, Nat.reduceSub, Nat.reduceMul, Nat.reduceLT, Nat.reduceLeDiff, Nat.reduceEqDiff, Nat.succ_ne_zero, reduceIte, predOk, h1, Bool.false_and]
  simp only [go_sem, List.getElem?_toArray, Nat.reduceBEq, Nat.reduceAdd, Nat.reduceSub, Nat.reduceMul, Nat.reduceLT, Nat.reduceLeDiff, Nat.reduceEqDiff, Nat.succ_ne_zero, reduceIte, h1]
  refine CallK.mk _ (by simpa only [go_sem] using sDeep_spec cs hc 4 1 p (by decide) (by decide) hp) fun _ => ?_
  rcases h2 : okP cs 4 p with _ | _
  · simp only [go_sem, List.getElem?_toArray, Nat.reduceBEq, Nat.reduceAdd, Nat.reduceSub, Nat.reduceMul, Nat.reduceLT, Nat.reduceLeDiff, Nat.reduceEqDiff, Nat.succ_ne_zero, reduceIte, predOk, h1, h2, Bool.false_and, Bool.and_false]
  simp only [go_sem, List.getElem?_toArray, Nat.reduceBEq, Nat.reduceAdd, Nat.reduceSub, Nat.reduceMul, Nat.reduceLT, Nat.reduceLeDiff, Nat.reduceEqDiff, Nat.succ_ne_zero, reduceIte, h1, h2]
  refine CallK.mk _ (by simpa only [go_sem] using sCount_spec cs 4 p (by decide) hp h2) fun _ => ?_
  simp only [go_sem, List.getElem?_toArray, Nat.reduceBEq, Nat.reduceAdd, Nat.reduceSub, Nat.reduceMul, Nat.reduceLT, Nat.reduceLeDiff, Nat.reduceEqDiff, Nat.succ_ne_zero, reduceIte, predOk, h1, h2, Bool.true_and]
theorem iPredOk_spec (cs : List Int) (p : DPred) (hc : cs.length ≤ 1048576) (hp : fitPred p) : Ctr Tryz.prog 116 [.c (.sl (cs.map intC)), .agg p.c] [.val (.c (.v (.bool (predOk cs p))))] := by
  refine Ctr.mk (fn := Tryz.f116) Tryz.call116 Tryz.func116 rfl mixed Tryz.ntmps116 Tryz.results116 (by kernel_rfl) rfl fun hw => ?_
  simp only [go_sem, List.getElem?_toArray, Nat.reduceBEq, Nat.reduceAdd, Nat.reduceSub, Nat.reduceMul, Nat.reduceLT, Nat.reduceLeDiff, Nat.reduceEqDiff, Nat.succ_ne_zero, reduceIte, List.length_map]
  refine CallK.mk _ (iCols_spec cs) fun _ => ?_
  rcases h1 : colsOk cs with _ | _
  · simp only [go_sem, List.getElem?_toArray, Nat.reduceBEq, Nat.reduceAdd, Nat.reduceSub, Nat.reduceMul, Nat.reduceLT, Nat.reduceLeDiff, Nat.reduceEqDiff, Nat.succ_ne_zero, reduceIte, predOk, h1, Bool.false_and]
  simp only [go_sem, List.getElem?_toArray, Nat.reduceBEq, Nat.reduceAdd, Nat.reduceSub, Nat.reduceMul, Nat.reduceLT, Nat.reduceLeDiff, Nat.reduceEqDiff, Nat.succ_ne_zero, reduceIte, h1]
  refine CallK.mk _ (by have := iCount_spec cs hc 4 p (by decide) hp; rw [show ((4 : Nat) : Int) = 4 from rfl] at this; simpa only [go_sem] using this) fun _ => ?_
  simp only [go_sem, List.getElem?_toArray, Nat.reduceBEq, Nat.reduceAdd, Nat.reduceSub, Nat.reduceMul, Nat.reduceLT, Nat.reduceLeDiff, Nat.reduceEqDiff, Nat.succ_ne_zero, reduceIte, h1]
  refine CallK.mk _ (within_spec _ _ _) fun _ => ?_
  have : inR (cntI cs 4 p) 1 8 = predOk cs p := by
    unfold predOk cntI
    rw [h1]
    rcases h2 : okP cs 4 p with _ | _
    · rfl
    · have : 1 ≤ cntP 4 p := cntP_pos 3 p
      simp [inR]
      omega
  simp only [go_sem, List.getElem?_toArray, Nat.reduceBEq, Nat.reduceAdd, Nat.reduceSub, Nat.reduceMul, Nat.reduceLT, Nat.reduceLeDiff, Nat.reduceEqDiff, Nat.succ_ne_zero, reduceIte, this]

def qRow (q : DQuery) : List Cl := [.v (.int .i64 q.kind), .v (.int .i64 q.p.kind), .v (.int .i64 q.p.col), .v (.int .i64 q.p.op), .v (.int .i64 q.p.v.ty), .v (.int .i64 q.p.v.n), .v (.string q.p.v.s), .sl (q.p.l.map DPred.c), .v (.int .i64 q.col), .sl (q.out.map intC)]
@[go_sem] theorem qRow_eq (q : DQuery) : qRow q = [.v (.int .i64 q.kind), .v (.int .i64 q.p.kind), .v (.int .i64 q.p.col), .v (.int .i64 q.p.op), .v (.int .i64 q.p.v.ty), .v (.int .i64 q.p.v.n), .v (.string q.p.v.s), .sl (q.p.l.map DPred.c), .v (.int .i64 q.col), .sl (q.out.map intC)] := rfl
def outOk (cs : List Int) (l : List Int) : Bool := l.all fun k => inR k 0 ((cs.length : Int) - 1)
def queryOk (cs : List Int) (q : DQuery) : Bool :=
  predOk cs q.p && (if (q.kind == 1) = true then outOk cs q.out && ((q.col == 0) && inR q.out.length 1 3) else
    if (q.kind == 2) = true then (q.col == 0) && ((q.out.length : Int) == 0) else
    if (q.kind == 3) = true then inR q.col 0 ((cs.length : Int) - 1) && (((cs[q.col.toNat]?).getD 0 == 1) && ((q.out.length : Int) == 0)) else
    if (q.kind == 4) = true then inR q.col 0 ((cs.length : Int) - 1) && ((q.out.length : Int) == 0) else
    if (q.kind == 5) = true then inR q.col 0 ((cs.length : Int) - 1) && ((q.out.length : Int) == 0) else false)
theorem outOk_drop (cs : List Int) (l : List Int) {k : Nat} (h : k < l.length) : outOk cs (l.drop k) = (inR l[k] 0 ((cs.length : Int) - 1) && outOk cs (l.drop (k + 1))) := by
  unfold outOk
  rw [List.drop_eq_getElem_cons h]; rfl
theorem sQueryOk_spec (cs : List Int) (q : DQuery) (hc : cs.length ≤ 1048576) (hq : fitQuery q) : Ctr Tryz.prog 102 [.c (.sl (cs.map intC)), .agg q.c] [.val (.c (.v (.bool (queryOk cs q))))] := by
  rw [fitQuery_eq] at hq
  have hol := hq.2
  have hwl : IntKind.i64.wrap ((cs.length : Int) - 1) = (cs.length : Int) - 1 := wrap_i64 (by omega) (by omega)
  have hin : inR q.col 0 ((cs.length : Int) - 1) = true → ∃ m : Nat, q.col = m ∧ m < cs.length := by
    intro hh
    simp [inR] at hh
    exact ⟨q.col.toNat, by omega, by omega⟩
  refine Ctr.mk (fn := Tryz.f102) Tryz.call102 Tryz.func102 rfl mixed Tryz.ntmps102 Tryz.results102 (by kernel_rfl) rfl fun hw => ?_
  simp only [go_sem, List.getElem?_toArray, Nat.reduceBEq, Nat.reduceAdd, Nat.reduceSub, Nat.reduceMul, Nat.reduceLT, Nat.reduceLeDiff, Nat.reduceEqDiff, Nat.succ_ne_zero, reduceIte, List.length_map]
  refine CallK.mk _ (by simpa only [go_sem] using sPredOk_spec cs q.p hc hq.1) fun _ => ?_
  rcases h1 : predOk cs q.p with _ | _
  · simp only [go_sem, List.getElem?_toArray, Nat.reduceBEq, Nat.reduceAdd, Nat.reduceSub, Nat.reduceMul, Nat.reduceLT, Nat.reduceLeDiff, Nat.reduceEqDiff, Nat.succ_ne_zero, reduceIte, queryOk, h1, Bool.false_and]
  rcases k1 : (q.kind == 1) with _ | _
  rotate_left
  · have hr : queryOk cs q = (outOk cs q.out && ((q.col == 0) && inR q.out.length 1 3)) := by simp [queryOk, h1, k1]
    rw [hr]
    simp only [go_sem, List.getElem?_toArray, Nat.reduceBEq, Nat.reduceAdd, Nat.reduceSub, Nat.reduceMul, Nat.reduceLT, Nat.reduceLeDiff, Nat.reduceEqDiff, Nat.succ_ne_zero, reduceIte, List.length_map, h1, k1]
    refine LoopU.mk 1 (A := Nat) (fun k => [(5, .c (.v (.int .i64 (k))))]) (fun _ => [⟨52, 10, [qRow q], true, true⟩]) (fun k => k ≤ q.out.length ∧ outOk cs (q.out.drop k) = outOk cs q.out) (fun k => q.out.length - k) 0 ⟨⟨rfl, rfl⟩, rfl, Nat.zero_le _, rfl⟩ ?_
    rintro k ⟨hk, hb⟩
    simp only [go_sem, List.getElem?_toArray, Nat.reduceBEq, Nat.reduceAdd, Nat.reduceSub, Nat.reduceMul, Nat.reduceLT, Nat.reduceLeDiff, Nat.reduceEqDiff, Nat.succ_ne_zero, reduceIte, List.length_map]
    refine cndC.mk (fun h => ?_) (fun h => ?_)
    · have hk' : k < q.out.length := by simpa using h
      rw [outOk_drop cs q.out hk'] at hb
      simp only [go_sem, List.getElem?_toArray, Nat.reduceBEq, Nat.reduceAdd, Nat.reduceSub, Nat.reduceMul, Nat.reduceLT, Nat.reduceLeDiff, Nat.reduceEqDiff, Nat.succ_ne_zero, reduceIte, List.length_map, map_at _ hk', hk', hwl]
      refine CallK.mk _ (l1In_spec q.out[k] 0 _) fun _ => ?_
      rcases hv : inR q.out[k] 0 ((cs.length : Int) - 1) with _ | _
      · rw [hv, Bool.false_and] at hb
        simp only [go_sem, List.getElem?_toArray, Nat.reduceBEq, Nat.reduceAdd, Nat.reduceSub, Nat.reduceMul, Nat.reduceLT, Nat.reduceLeDiff, Nat.reduceEqDiff, Nat.succ_ne_zero, reduceIte, List.length_map, hv, ← hb, Bool.false_and]
      · rw [hv, Bool.true_and] at hb
        simp only [go_sem, List.getElem?_toArray, Nat.reduceBEq, Nat.reduceAdd, Nat.reduceSub, Nat.reduceMul, Nat.reduceLT, Nat.reduceLeDiff, Nat.reduceEqDiff, Nat.succ_ne_zero, reduceIte, List.length_map, hv, wrap_i64 (n := (k : Int) + 1) (by omega) (by omega)]
        exact ⟨k + 1, ⟨rfl, rfl⟩, rfl, ⟨by omega, hb⟩, by omega⟩
    · have hk' : k = q.out.length := by simp at h; omega
      rw [hk', List.drop_length] at hb
      have hb' : outOk cs q.out = true := by rw [← hb]; rfl
      rw [hb', Bool.true_and]
      rcases hA : (q.col == 0) with _ | _
      · simp only [go_sem, List.getElem?_toArray, Nat.reduceBEq, Nat.reduceAdd, Nat.reduceSub, Nat.reduceMul, Nat.reduceLT, Nat.reduceLeDiff, Nat.reduceEqDiff, Nat.succ_ne_zero, reduceIte, List.length_map, hA, Bool.false_and]
      · simp only [go_sem, List.getElem?_toArray, Nat.reduceBEq, Nat.reduceAdd, Nat.reduceSub, Nat.reduceMul, Nat.reduceLT, Nat.reduceLeDiff, Nat.reduceEqDiff, Nat.succ_ne_zero, reduceIte, List.length_map, hA, Bool.true_and]
        refine CallK.mk _ (l1In_spec q.out.length 1 3) fun _ => ?_
        simp only [go_sem, List.getElem?_toArray, Nat.reduceBEq, Nat.reduceAdd, Nat.reduceSub, Nat.reduceMul, Nat.reduceLT, Nat.reduceLeDiff, Nat.reduceEqDiff, Nat.succ_ne_zero, reduceIte, List.length_map, hA, Bool.true_and]
  rcases k2 : (q.kind == 2) with _ | _
  rotate_left
  · have hr : queryOk cs q = ((q.col == 0) && ((q.out.length : Int) == 0)) := by simp [queryOk, h1, k1, k2]
    rw [hr]
    rcases hA : (q.col == 0) with _ | _
    · simp only [go_sem, List.getElem?_toArray, Nat.reduceBEq, Nat.reduceAdd, Nat.reduceSub, Nat.reduceMul, Nat.reduceLT, Nat.reduceLeDiff, Nat.reduceEqDiff, Nat.succ_ne_zero, reduceIte, List.length_map, h1, k1, k2, hA, Bool.false_and]
    · simp only [go_sem, List.getElem?_toArray, Nat.reduceBEq, Nat.reduceAdd, Nat.reduceSub, Nat.reduceMul, Nat.reduceLT, Nat.reduceLeDiff, Nat.reduceEqDiff, Nat.succ_ne_zero, reduceIte, List.length_map, h1, k1, k2, hA, Bool.true_and]
  rcases k3 : (q.kind == 3) with _ | _
  rotate_left
  · have hr : queryOk cs q = (inR q.col 0 ((cs.length : Int) - 1) && (((cs[q.col.toNat]?).getD 0 == 1) && ((q.out.length : Int) == 0))) := by simp [queryOk, h1, k1, k2, k3]
    rw [hr]
    simp only [go_sem, List.getElem?_toArray, Nat.reduceBEq, Nat.reduceAdd, Nat.reduceSub, Nat.reduceMul, Nat.reduceLT, Nat.reduceLeDiff, Nat.reduceEqDiff, Nat.succ_ne_zero, reduceIte, List.length_map, h1, k1, k2, k3, hwl]
    refine CallK.mk _ (l1In_spec q.col 0 _) fun _ => ?_
    rcases c1 : inR q.col 0 ((cs.length : Int) - 1) with _ | _
    · simp only [go_sem, List.getElem?_toArray, Nat.reduceBEq, Nat.reduceAdd, Nat.reduceSub, Nat.reduceMul, Nat.reduceLT, Nat.reduceLeDiff, Nat.reduceEqDiff, Nat.succ_ne_zero, reduceIte, List.length_map, c1, Bool.false_and]
    obtain ⟨m, hm, hml⟩ := hin c1
    have hgm : (cs[q.col.toNat]?).getD 0 = cs[m] := by rw [hm]; simp [hml]
    rw [hgm]
    rcases c2 : (cs[m] == 1) with _ | _
    · simp only [go_sem, List.getElem?_toArray, Nat.reduceBEq, Nat.reduceAdd, Nat.reduceSub, Nat.reduceMul, Nat.reduceLT, Nat.reduceLeDiff, Nat.reduceEqDiff, Nat.succ_ne_zero, reduceIte, List.length_map, c1, c2, hm, map_at _ hml, hml, Bool.true_and, Bool.false_and]
    · simp only [go_sem, List.getElem?_toArray, Nat.reduceBEq, Nat.reduceAdd, Nat.reduceSub, Nat.reduceMul, Nat.reduceLT, Nat.reduceLeDiff, Nat.reduceEqDiff, Nat.succ_ne_zero, reduceIte, List.length_map, c1, c2, hm, map_at _ hml, hml, Bool.true_and]
  rcases k4 : (q.kind == 4) with _ | _
  rotate_left
  · have hr : queryOk cs q = (inR q.col 0 ((cs.length : Int) - 1) && ((q.out.length : Int) == 0)) := by simp [queryOk, h1, k1, k2, k3, k4]
    rw [hr]
    simp only [go_sem, List.getElem?_toArray, Nat.reduceBEq, Nat.reduceAdd, Nat.reduceSub, Nat.reduceMul, Nat.reduceLT, Nat.reduceLeDiff, Nat.reduceEqDiff, Nat.succ_ne_zero, reduceIte, List.length_map, h1, k1, k2, k3, k4, hwl]
    refine CallK.mk _ (l1In_spec q.col 0 _) fun _ => ?_
    rcases c1 : inR q.col 0 ((cs.length : Int) - 1) with _ | _
    all_goals simp only [go_sem, List.getElem?_toArray, Nat.reduceBEq, Nat.reduceAdd, Nat.reduceSub, Nat.reduceMul, Nat.reduceLT, Nat.reduceLeDiff, Nat.reduceEqDiff, Nat.succ_ne_zero, reduceIte, List.length_map, c1, Bool.false_and, Bool.true_and]
  rcases k5 : (q.kind == 5) with _ | _
  rotate_left
  · have hr : queryOk cs q = (inR q.col 0 ((cs.length : Int) - 1) && ((q.out.length : Int) == 0)) := by simp [queryOk, h1, k1, k2, k3, k4, k5]
    rw [hr]
    simp only [go_sem, List.getElem?_toArray, Nat.reduceBEq, Nat.reduceAdd, Nat.reduceSub, Nat.reduceMul, Nat.reduceLT, Nat.reduceLeDiff, Nat.reduceEqDiff, Nat.succ_ne_zero, reduceIte, List.length_map, h1, k1, k2, k3, k4, k5, hwl]
    refine CallK.mk _ (l1In_spec q.col 0 _) fun _ => ?_
    rcases c1 : inR q.col 0 ((cs.length : Int) - 1) with _ | _
    all_goals simp only [go_sem, List.getElem?_toArray, Nat.reduceBEq, Nat.reduceAdd, Nat.reduceSub, Nat.reduceMul, Nat.reduceLT, Nat.reduceLeDiff, Nat.reduceEqDiff, Nat.succ_ne_zero, reduceIte, List.length_map, c1, Bool.false_and, Bool.true_and]
  have hr : queryOk cs q = false := by simp [queryOk, h1, k1, k2, k3, k4, k5]
  rw [hr]
  simp only [go_sem, List.getElem?_toArray, Nat.reduceBEq, Nat.reduceAdd, Nat.reduceSub, Nat.reduceMul, Nat.reduceLT, Nat.reduceLeDiff, Nat.reduceEqDiff, Nat.succ_ne_zero, reduceIte, List.length_map, h1, k1, k2, k3, k4, k5]
theorem iQueryOk_spec (cs : List Int) (q : DQuery) (hc : cs.length ≤ 1048576) (hq : fitQuery q) : Ctr Tryz.prog 52 [.c (.sl (cs.map intC)), .agg q.c] [.val (.c (.v (.bool (queryOk cs q))))] := by
  rw [fitQuery_eq] at hq
  have hol := hq.2
  have hwl : IntKind.i64.wrap ((cs.length : Int) - 1) = (cs.length : Int) - 1 := wrap_i64 (by omega) (by omega)
  have hin : inR q.col 0 ((cs.length : Int) - 1) = true → ∃ m : Nat, q.col = m ∧ m < cs.length := by
    intro hh
    simp [inR] at hh
    exact ⟨q.col.toNat, by omega, by omega⟩
  refine Ctr.mk (fn := Tryz.f52) Tryz.call52 Tryz.func52 rfl mixed Tryz.ntmps52 Tryz.results52 (by kernel_rfl) rfl fun hw => ?_
  simp only [go_sem, List.getElem?_toArray, Nat.reduceBEq, Nat.reduceAdd, Nat.reduceSub, Nat.reduceMul, Nat.reduceLT, Nat.reduceLeDiff, Nat.reduceEqDiff, Nat.succ_ne_zero, reduceIte, List.length_map]
  refine CallK.mk _ (by simpa only [go_sem] using iPredOk_spec cs q.p hc hq.1) fun _ => ?_
  rcases h1 : predOk cs q.p with _ | _
  · simp only [go_sem, List.getElem?_toArray, Nat.reduceBEq, Nat.reduceAdd, Nat.reduceSub, Nat.reduceMul, Nat.reduceLT, Nat.reduceLeDiff, Nat.reduceEqDiff, Nat.succ_ne_zero, reduceIte, queryOk, h1, Bool.false_and]
  simp only [go_sem, List.getElem?_toArray, Nat.reduceBEq, Nat.reduceAdd, Nat.reduceSub, Nat.reduceMul, Nat.reduceLT, Nat.reduceLeDiff, Nat.reduceEqDiff, Nat.succ_ne_zero, reduceIte, List.length_map, h1, hwl]
  refine CallK.mk _ (within_spec q.col 0 _) fun _ => ?_
  rcases c1 : inR q.col 0 ((cs.length : Int) - 1) with _ | _
  · rcases k1 : (q.kind == 1) with _ | _
    rotate_left
    · have hr : queryOk cs q = (outOk cs q.out && ((q.col == 0) && inR q.out.length 1 3)) := by simp [queryOk, h1, k1]
      rw [hr]
      simp only [go_sem, List.getElem?_toArray, Nat.reduceBEq, Nat.reduceAdd, Nat.reduceSub, Nat.reduceMul, Nat.reduceLT, Nat.reduceLeDiff, Nat.reduceEqDiff, Nat.succ_ne_zero, reduceIte, List.length_map, h1, c1, k1]
      refine LoopU.mk 1 (A := Nat) (fun k => [(32, .c (.v (.int .i64 (k))))]) (fun _ => [⟨52, 10, [qRow q], true, true⟩]) (fun k => k ≤ q.out.length ∧ outOk cs (q.out.drop k) = outOk cs q.out) (fun k => q.out.length - k) 0 ⟨⟨rfl, rfl⟩, rfl, Nat.zero_le _, rfl⟩ ?_
      rintro k ⟨hk, hb⟩
      simp only [go_sem, List.getElem?_toArray, Nat.reduceBEq, Nat.reduceAdd, Nat.reduceSub, Nat.reduceMul, Nat.reduceLT, Nat.reduceLeDiff, Nat.reduceEqDiff, Nat.succ_ne_zero, reduceIte, List.length_map]
      refine cndC.mk (fun h => ?_) (fun h => ?_)
      · have hk' : k < q.out.length := by simpa using h
        rw [outOk_drop cs q.out hk'] at hb
        simp only [go_sem, List.getElem?_toArray, Nat.reduceBEq, Nat.reduceAdd, Nat.reduceSub, Nat.reduceMul, Nat.reduceLT, Nat.reduceLeDiff, Nat.reduceEqDiff, Nat.succ_ne_zero, reduceIte, List.length_map, map_at _ hk', hk', hwl]
        refine CallK.mk _ (within_spec q.out[k] 0 _) fun _ => ?_
        rcases hv : inR q.out[k] 0 ((cs.length : Int) - 1) with _ | _
        · rw [hv, Bool.false_and] at hb
          simp only [go_sem, List.getElem?_toArray, Nat.reduceBEq, Nat.reduceAdd, Nat.reduceSub, Nat.reduceMul, Nat.reduceLT, Nat.reduceLeDiff, Nat.reduceEqDiff, Nat.succ_ne_zero, reduceIte, List.length_map, hv, ← hb, Bool.false_and]
        · rw [hv, Bool.true_and] at hb
          simp only [go_sem, List.getElem?_toArray, Nat.reduceBEq, Nat.reduceAdd, Nat.reduceSub, Nat.reduceMul, Nat.reduceLT, Nat.reduceLeDiff, Nat.reduceEqDiff, Nat.succ_ne_zero, reduceIte, List.length_map, hv, wrap_i64 (n := (k : Int) + 1) (by omega) (by omega)]
          exact ⟨k + 1, ⟨rfl, rfl⟩, rfl, ⟨by omega, hb⟩, by omega⟩
      · have hk' : k = q.out.length := by simp at h; omega
        rw [hk', List.drop_length] at hb
        have hb' : outOk cs q.out = true := by rw [← hb]; rfl
        rw [hb', Bool.true_and]
        simp only [go_sem, List.getElem?_toArray, Nat.reduceBEq, Nat.reduceAdd, Nat.reduceSub, Nat.reduceMul, Nat.reduceLT, Nat.reduceLeDiff, Nat.reduceEqDiff, Nat.succ_ne_zero, reduceIte, List.length_map]
        refine CallK.mk _ (within_spec q.out.length 1 3) fun _ => ?_
        rcases hA : inR q.out.length 1 3 with _ | _
        · simp only [go_sem, List.getElem?_toArray, Nat.reduceBEq, Nat.reduceAdd, Nat.reduceSub, Nat.reduceMul, Nat.reduceLT, Nat.reduceLeDiff, Nat.reduceEqDiff, Nat.succ_ne_zero, reduceIte, List.length_map, hA, Bool.and_false]
        · simp only [go_sem, List.getElem?_toArray, Nat.reduceBEq, Nat.reduceAdd, Nat.reduceSub, Nat.reduceMul, Nat.reduceLT, Nat.reduceLeDiff, Nat.reduceEqDiff, Nat.succ_ne_zero, reduceIte, List.length_map, hA, Bool.and_true]
    rcases k2 : (q.kind == 2) with _ | _
    rotate_left
    · have hr : queryOk cs q = ((q.col == 0) && ((q.out.length : Int) == 0)) := by simp [queryOk, h1, k1, k2]
      rw [hr]
      rcases hA : (q.col == 0) with _ | _
      · simp only [go_sem, List.getElem?_toArray, Nat.reduceBEq, Nat.reduceAdd, Nat.reduceSub, Nat.reduceMul, Nat.reduceLT, Nat.reduceLeDiff, Nat.reduceEqDiff, Nat.succ_ne_zero, reduceIte, List.length_map, h1, c1, k1, k2, hA, Bool.false_and]
      · simp only [go_sem, List.getElem?_toArray, Nat.reduceBEq, Nat.reduceAdd, Nat.reduceSub, Nat.reduceMul, Nat.reduceLT, Nat.reduceLeDiff, Nat.reduceEqDiff, Nat.succ_ne_zero, reduceIte, List.length_map, h1, c1, k1, k2, hA, Bool.true_and]
    have hr : queryOk cs q = false := by simp [queryOk, h1, k1, k2, c1]
    rw [hr]
    rcases k3 : (q.kind == 3) with _ | _
    rotate_left
    · simp only [go_sem, List.getElem?_toArray, Nat.reduceBEq, Nat.reduceAdd, Nat.reduceSub, Nat.reduceMul, Nat.reduceLT, Nat.reduceLeDiff, Nat.reduceEqDiff, Nat.succ_ne_zero, reduceIte, List.length_map, h1, c1, k1, k2, k3]
    rcases k4 : (q.kind == 4) with _ | _
    rotate_left
    · simp only [go_sem, List.getElem?_toArray, Nat.reduceBEq, Nat.reduceAdd, Nat.reduceSub, Nat.reduceMul, Nat.reduceLT, Nat.reduceLeDiff, Nat.reduceEqDiff, Nat.succ_ne_zero, reduceIte, List.length_map, h1, c1, k1, k2, k3, k4]
    rcases k5 : (q.kind == 5) with _ | _
    rotate_left
    · simp only [go_sem, List.getElem?_toArray, Nat.reduceBEq, Nat.reduceAdd, Nat.reduceSub, Nat.reduceMul, Nat.reduceLT, Nat.reduceLeDiff, Nat.reduceEqDiff, Nat.succ_ne_zero, reduceIte, List.length_map, h1, c1, k1, k2, k3, k4, k5]
    simp only [go_sem, List.getElem?_toArray, Nat.reduceBEq, Nat.reduceAdd, Nat.reduceSub, Nat.reduceMul, Nat.reduceLT, Nat.reduceLeDiff, Nat.reduceEqDiff, Nat.succ_ne_zero, reduceIte, List.length_map, h1, c1, k1, k2, k3, k4, k5]
  · rcases k1 : (q.kind == 1) with _ | _
    rotate_left
    · have hr : queryOk cs q = (outOk cs q.out && ((q.col == 0) && inR q.out.length 1 3)) := by simp [queryOk, h1, k1]
      rw [hr]
      simp only [go_sem, List.getElem?_toArray, Nat.reduceBEq, Nat.reduceAdd, Nat.reduceSub, Nat.reduceMul, Nat.reduceLT, Nat.reduceLeDiff, Nat.reduceEqDiff, Nat.succ_ne_zero, reduceIte, List.length_map, h1, c1, k1]
      refine LoopU.mk 1 (A := Nat) (fun k => [(32, .c (.v (.int .i64 (k))))]) (fun _ => [⟨52, 10, [qRow q], true, true⟩]) (fun k => k ≤ q.out.length ∧ outOk cs (q.out.drop k) = outOk cs q.out) (fun k => q.out.length - k) 0 ⟨⟨rfl, rfl⟩, rfl, Nat.zero_le _, rfl⟩ ?_
      rintro k ⟨hk, hb⟩
      simp only [go_sem, List.getElem?_toArray, Nat.reduceBEq, Nat.reduceAdd, Nat.reduceSub, Nat.reduceMul, Nat.reduceLT, Nat.reduceLeDiff, Nat.reduceEqDiff, Nat.succ_ne_zero, reduceIte, List.length_map]
      refine cndC.mk (fun h => ?_) (fun h => ?_)
      · have hk' : k < q.out.length := by simpa using h
        rw [outOk_drop cs q.out hk'] at hb
        simp only [go_sem, List.getElem?_toArray, Nat.reduceBEq, Nat.reduceAdd, Nat.reduceSub, Nat.reduceMul, Nat.reduceLT, Nat.reduceLeDiff, Nat.reduceEqDiff, Nat.succ_ne_zero, reduceIte, List.length_map, map_at _ hk', hk', hwl]
        refine CallK.mk _ (within_spec q.out[k] 0 _) fun _ => ?_
        rcases hv : inR q.out[k] 0 ((cs.length : Int) - 1) with _ | _
        · rw [hv, Bool.false_and] at hb
          simp only [go_sem, List.getElem?_toArray, Nat.reduceBEq, Nat.reduceAdd, Nat.reduceSub, Nat.reduceMul, Nat.reduceLT, Nat.reduceLeDiff, Nat.reduceEqDiff, Nat.succ_ne_zero, reduceIte, List.length_map, hv, ← hb, Bool.false_and]
        · rw [hv, Bool.true_and] at hb
          simp only [go_sem, List.getElem?_toArray, Nat.reduceBEq, Nat.reduceAdd, Nat.reduceSub, Nat.reduceMul, Nat.reduceLT, Nat.reduceLeDiff, Nat.reduceEqDiff, Nat.succ_ne_zero, reduceIte, List.length_map, hv, wrap_i64 (n := (k : Int) + 1) (by omega) (by omega)]
          exact ⟨k + 1, ⟨rfl, rfl⟩, rfl, ⟨by omega, hb⟩, by omega⟩
      · have hk' : k = q.out.length := by simp at h; omega
        rw [hk', List.drop_length] at hb
        have hb' : outOk cs q.out = true := by rw [← hb]; rfl
        rw [hb', Bool.true_and]
        simp only [go_sem, List.getElem?_toArray, Nat.reduceBEq, Nat.reduceAdd, Nat.reduceSub, Nat.reduceMul, Nat.reduceLT, Nat.reduceLeDiff, Nat.reduceEqDiff, Nat.succ_ne_zero, reduceIte, List.length_map]
        refine CallK.mk _ (within_spec q.out.length 1 3) fun _ => ?_
        rcases hA : inR q.out.length 1 3 with _ | _
        · simp only [go_sem, List.getElem?_toArray, Nat.reduceBEq, Nat.reduceAdd, Nat.reduceSub, Nat.reduceMul, Nat.reduceLT, Nat.reduceLeDiff, Nat.reduceEqDiff, Nat.succ_ne_zero, reduceIte, List.length_map, hA, Bool.and_false]
        · simp only [go_sem, List.getElem?_toArray, Nat.reduceBEq, Nat.reduceAdd, Nat.reduceSub, Nat.reduceMul, Nat.reduceLT, Nat.reduceLeDiff, Nat.reduceEqDiff, Nat.succ_ne_zero, reduceIte, List.length_map, hA, Bool.and_true]
    rcases k2 : (q.kind == 2) with _ | _
    rotate_left
    · have hr : queryOk cs q = ((q.col == 0) && ((q.out.length : Int) == 0)) := by simp [queryOk, h1, k1, k2]
      rw [hr]
      rcases hA : (q.col == 0) with _ | _
      · simp only [go_sem, List.getElem?_toArray, Nat.reduceBEq, Nat.reduceAdd, Nat.reduceSub, Nat.reduceMul, Nat.reduceLT, Nat.reduceLeDiff, Nat.reduceEqDiff, Nat.succ_ne_zero, reduceIte, List.length_map, h1, c1, k1, k2, hA, Bool.false_and]
      · simp only [go_sem, List.getElem?_toArray, Nat.reduceBEq, Nat.reduceAdd, Nat.reduceSub, Nat.reduceMul, Nat.reduceLT, Nat.reduceLeDiff, Nat.reduceEqDiff, Nat.succ_ne_zero, reduceIte, List.length_map, h1, c1, k1, k2, hA, Bool.true_and]
    rcases k3 : (q.kind == 3) with _ | _
    rotate_left
    · obtain ⟨m, hm, hml⟩ := hin c1
      have hgm : (cs[q.col.toNat]?).getD 0 = cs[m] := by rw [hm]; simp [hml]
      have hr : queryOk cs q = ((cs[m] == 1) && ((q.out.length : Int) == 0)) := by simp only [queryOk, h1, k1, k2, k3, c1, hgm]; rfl
      rw [hr]
      rcases c2 : ((q.out.length : Int) == 0) with _ | _
      · simp only [go_sem, List.getElem?_toArray, Nat.reduceBEq, Nat.reduceAdd, Nat.reduceSub, Nat.reduceMul, Nat.reduceLT, Nat.reduceLeDiff, Nat.reduceEqDiff, Nat.succ_ne_zero, reduceIte, List.length_map, h1, c1, c2, k1, k2, k3, Bool.and_false]
      · simp only [go_sem, List.getElem?_toArray, Nat.reduceBEq, Nat.reduceAdd, Nat.reduceSub, Nat.reduceMul, Nat.reduceLT, Nat.reduceLeDiff, Nat.reduceEqDiff, Nat.succ_ne_zero, reduceIte, List.length_map, h1, c1, c2, k1, k2, k3, hm, map_at _ hml, hml, Bool.and_true]
    have hr2 : (q.kind == 4) = true ∨ (q.kind == 5) = true → queryOk cs q = ((q.out.length : Int) == 0) := by
      intro h45
      rcases h45 with h45 | h45
      · simp [queryOk, h1, k1, k2, k3, h45, c1]
      · simp [queryOk, h1, k1, k2, k3, h45, c1]
    rcases k4 : (q.kind == 4) with _ | _
    rotate_left
    · rw [hr2 (.inl k4)]
      simp only [go_sem, List.getElem?_toArray, Nat.reduceBEq, Nat.reduceAdd, Nat.reduceSub, Nat.reduceMul, Nat.reduceLT, Nat.reduceLeDiff, Nat.reduceEqDiff, Nat.succ_ne_zero, reduceIte, List.length_map, h1, c1, k1, k2, k3, k4]
    rcases k5 : (q.kind == 5) with _ | _
    rotate_left
    · rw [hr2 (.inr k5)]
      simp only [go_sem, List.getElem?_toArray, Nat.reduceBEq, Nat.reduceAdd, Nat.reduceSub, Nat.reduceMul, Nat.reduceLT, Nat.reduceLeDiff, Nat.reduceEqDiff, Nat.succ_ne_zero, reduceIte, List.length_map, h1, c1, k1, k2, k3, k4, k5]
    have hr : queryOk cs q = false := by simp [queryOk, h1, k1, k2, k3, k4, k5]
    rw [hr]
    simp only [go_sem, List.getElem?_toArray, Nat.reduceBEq, Nat.reduceAdd, Nat.reduceSub, Nat.reduceMul, Nat.reduceLT, Nat.reduceLeDiff, Nat.reduceEqDiff, Nat.succ_ne_zero, reduceIte, List.length_map, h1, c1, k1, k2, k3, k4, k5]

end Go.Proofs.YtepjgnlinjlehaaGreat
