/- Walks: whether a condition, and a question, is well formed: the program. -/
import Derived.Test.YtepjgnlinjlehaaGreatAe
namespace Go.Proofs.YtepjgnlinjlehaaGreat
set_option linter.unusedSimpArgs false
set_option linter.unusedVariables false
open Go.Vm
set_option maxHeartbeats 2000000
set_option maxRecDepth 10000

def predRow (p : DPred) : List Cl := [.v (.int .i64 p.kind), .v (.int .i64 p.col), .v (.int .i64 p.op), .v (.int .i64 p.v.ty), .v (.int .i64 p.v.n), .v (.string p.v.s), .sl (p.l.map DPred.c)]
@[go_sem] theorem predRow_eq (p : DPred) : predRow p = [.v (.int .i64 p.kind), .v (.int .i64 p.col), .v (.int .i64 p.op), .v (.int .i64 p.v.ty), .v (.int .i64 p.v.n), .v (.string p.v.s), .sl (p.l.map DPred.c)] := rfl
def predRowC (c : Int) (p : DPred) : List Cl := [.v (.int .i64 p.kind), .v (.int .i64 c), .v (.int .i64 p.op), .v (.int .i64 p.v.ty), .v (.int .i64 p.v.n), .v (.string p.v.s), .sl (p.l.map DPred.c)]
@[go_sem] theorem predRowC_eq (c : Int) (p : DPred) : predRowC c p = [.v (.int .i64 p.kind), .v (.int .i64 c), .v (.int .i64 p.op), .v (.int .i64 p.v.ty), .v (.int .i64 p.v.n), .v (.string p.v.s), .sl (p.l.map DPred.c)] := rfl
def cntI (cs : List Int) (d : Nat) (p : DPred) : Int := if okP cs d p = true then (cntP d p : Int) else -1
theorem cntI_no {cs : List Int} {d : Nat} {p : DPred} (h : shapeP cs p = false) : cntI cs (d + 1) p = -1 := by simp [cntI, okP, h]
theorem iCount_of (cs : List Int) (hc : cs.length ≤ 1048576) (d : Nat) (p : DPred) (hd : d + 1 ≤ 4) (hlen : p.l.length ≤ 1048576) (hx : ∀ x ∈ p.l, Ctr Tryz.prog 158 [.c (.sl (cs.map intC)), .agg x.c, .c (.v (.int .i64 (d)))] [.val (.c (.v (.int .i64 (cntI cs d x))))]) : Ctr Tryz.prog 158 [.c (.sl (cs.map intC)), .agg p.c, .c (.v (.int .i64 ((d + 1 : Nat))))] [.val (.c (.v (.int .i64 (cntI cs (d + 1) p))))] := by
  refine Ctr.mk (fn := Tryz.f158) Tryz.call158 Tryz.func158 rfl mixed Tryz.ntmps158 Tryz.results158 (by kernel_rfl) rfl fun hw => ?_
  have h1 : decide (((d + 1 : Nat) : Int) < 1) = false := by simp; omega
  have hdw : IntKind.i64.wrap (((d + 1 : Nat) : Int) - 1) = (d : Int) := by rw [wrap_i64 (by omega) (by omega)]; omega
  have hin : inR p.col 0 ((cs.length : Int) - 1) = true → ∃ m : Nat, p.col = m ∧ m < cs.length := by
    intro hh
    simp [inR] at hh
    exact ⟨p.col.toNat, by omega, by omega⟩
  have hwl : IntKind.i64.wrap ((cs.length : Int) - 1) = (cs.length : Int) - 1 := wrap_i64 (by omega) (by omega)
  rcases hl4 : decide ((p.l.length : Int) > 4) with _ | _
  rotate_left
  · have hno : shapeP cs p = false := by
      rcases h : shapeP cs p with _ | _
      · rfl
      · have := shape_len h; simp at hl4; omega
    rw [cntI_no hno]
    simp only [go_sem, List.getElem?_toArray, Nat.reduceBEq, Nat.reduceAdd, Nat.reduceSub, Nat.reduceMul, Nat.reduceLT, Nat.reduceLeDiff, Nat.reduceEqDiff, Nat.succ_ne_zero, reduceIte, List.length_map, h1, hl4]
  rcases hs : shapeP cs p with _ | _
  · rw [cntI_no hs]
    rcases k1 : (p.kind == 1) with _ | _
    rotate_left
    · have hs1 : (bareP p && ((p.l.length : Int) == 0)) = false := by simpa [shapeP, k1] using hs
      rcases hA : (p.col == 0) with _ | _
      · simp only [go_sem, List.getElem?_toArray, Nat.reduceBEq, Nat.reduceAdd, Nat.reduceSub, Nat.reduceMul, Nat.reduceLT, Nat.reduceLeDiff, Nat.reduceEqDiff, Nat.succ_ne_zero, reduceIte, List.length_map, h1, hl4, hA, k1]
      rcases hB : (p.op == 0) with _ | _
      · simp only [go_sem, List.getElem?_toArray, Nat.reduceBEq, Nat.reduceAdd, Nat.reduceSub, Nat.reduceMul, Nat.reduceLT, Nat.reduceLeDiff, Nat.reduceEqDiff, Nat.succ_ne_zero, reduceIte, List.length_map, h1, hl4, hA, hB, k1]
      rcases hE : ((p.v.ty == 0) && ((p.v.n == 0) && (p.v.s.toList == ByteArray.empty.toList))) with _ | _
      · simp only [go_sem, List.getElem?_toArray, Nat.reduceBEq, Nat.reduceAdd, Nat.reduceSub, Nat.reduceMul, Nat.reduceLT, Nat.reduceLeDiff, Nat.reduceEqDiff, Nat.succ_ne_zero, reduceIte, List.length_map, h1, hl4, hA, hB, hE, k1, eqBy, eq1]
      · have hbt : bareP p = true := by simp only [bareP, hA, hB, Bool.true_and]; exact hE
        have hl0 : ((p.l.length : Int) == 0) = false := by rw [hbt, Bool.true_and] at hs1; exact hs1
        simp only [go_sem, List.getElem?_toArray, Nat.reduceBEq, Nat.reduceAdd, Nat.reduceSub, Nat.reduceMul, Nat.reduceLT, Nat.reduceLeDiff, Nat.reduceEqDiff, Nat.succ_ne_zero, reduceIte, List.length_map, h1, hl4, hA, hB, hE, k1, eqBy, eq1, hl0]
    rcases k2 : (p.kind == 2) with _ | _
    rotate_left
    · have hs1 : (cmpP cs p && ((p.l.length : Int) == 0)) = false := by simpa [shapeP, k1, k2] using hs
      rcases hA : (p.col == 0) with _ | _
      · simp only [go_sem, List.getElem?_toArray, Nat.reduceBEq, Nat.reduceAdd, Nat.reduceSub, Nat.reduceMul, Nat.reduceLT, Nat.reduceLeDiff, Nat.reduceEqDiff, Nat.succ_ne_zero, reduceIte, List.length_map, h1, hl4, hwl, hA, k1, k2, eqBy, eq1]
        refine DrawK.mk ?_
        simp only [go_sem, List.getElem?_toArray, Nat.reduceBEq, Nat.reduceAdd, Nat.reduceSub, Nat.reduceMul, Nat.reduceLT, Nat.reduceLeDiff, Nat.reduceEqDiff, Nat.succ_ne_zero, reduceIte, List.length_map, h1, hl4, hwl, hA, k1, k2]
        refine CallF.mk _ (within_spec p.col 0 _) ?_
        rcases c1 : inR p.col 0 ((cs.length : Int) - 1) with _ | _
        · simp only [go_sem, List.getElem?_toArray, Nat.reduceBEq, Nat.reduceAdd, Nat.reduceSub, Nat.reduceMul, Nat.reduceLT, Nat.reduceLeDiff, Nat.reduceEqDiff, Nat.succ_ne_zero, reduceIte, List.length_map, h1, hl4, hwl, k1, k2, c1]
        obtain ⟨m, hm, hml⟩ := hin c1
        have hgm : (cs[p.col.toNat]?).getD 0 = cs[m] := by rw [hm]; simp [hml]
        simp only [go_sem, List.getElem?_toArray, Nat.reduceBEq, Nat.reduceAdd, Nat.reduceSub, Nat.reduceMul, Nat.reduceLT, Nat.reduceLeDiff, Nat.reduceEqDiff, Nat.succ_ne_zero, reduceIte, List.length_map, h1, hl4, hwl, k1, k2, c1]
        refine CallF.mk _ (within_spec p.op 1 6) ?_
        rcases c4 : inR p.op 1 6 with _ | _
        · simp only [go_sem, List.getElem?_toArray, Nat.reduceBEq, Nat.reduceAdd, Nat.reduceSub, Nat.reduceMul, Nat.reduceLT, Nat.reduceLeDiff, Nat.reduceEqDiff, Nat.succ_ne_zero, reduceIte, List.length_map, h1, hl4, hwl, k1, k2, c1, c4]
        simp only [go_sem, List.getElem?_toArray, Nat.reduceBEq, Nat.reduceAdd, Nat.reduceSub, Nat.reduceMul, Nat.reduceLT, Nat.reduceLeDiff, Nat.reduceEqDiff, Nat.succ_ne_zero, reduceIte, List.length_map, h1, hl4, hwl, k1, k2, c1, c4]
        refine CallF.mk _ (by simpa only [go_sem] using iValOk_spec p.v) ?_
        rcases c2 : valOk p.v with _ | _
        · simp only [go_sem, List.getElem?_toArray, Nat.reduceBEq, Nat.reduceAdd, Nat.reduceSub, Nat.reduceMul, Nat.reduceLT, Nat.reduceLeDiff, Nat.reduceEqDiff, Nat.succ_ne_zero, reduceIte, List.length_map, h1, hl4, hwl, k1, k2, c1, c2, c4]
        rcases c3 : (p.v.ty == cs[m]) with _ | _
        · simp only [go_sem, List.getElem?_toArray, Nat.reduceBEq, Nat.reduceAdd, Nat.reduceSub, Nat.reduceMul, Nat.reduceLT, Nat.reduceLeDiff, Nat.reduceEqDiff, Nat.succ_ne_zero, reduceIte, List.length_map, h1, hl4, hwl, k1, k2, c1, c2, c3, c4, hm, map_at _ hml, hml]
        have hl0 : ((p.l.length : Int) == 0) = false := by
          have : cmpP cs p = true := by simp only [cmpP, hgm, c1, c2, c3, c4, Bool.and_true]
          simpa [this] using hs1
        simp only [go_sem, List.getElem?_toArray, Nat.reduceBEq, Nat.reduceAdd, Nat.reduceSub, Nat.reduceMul, Nat.reduceLT, Nat.reduceLeDiff, Nat.reduceEqDiff, Nat.succ_ne_zero, reduceIte, List.length_map, h1, hl4, hwl, k1, k2, c1, c2, c3, c4, hm, map_at _ hml, hml, hl0]
      rcases hB : (p.op == 0) with _ | _
      · simp only [go_sem, List.getElem?_toArray, Nat.reduceBEq, Nat.reduceAdd, Nat.reduceSub, Nat.reduceMul, Nat.reduceLT, Nat.reduceLeDiff, Nat.reduceEqDiff, Nat.succ_ne_zero, reduceIte, List.length_map, h1, hl4, hwl, hA, hB, k1, k2, eqBy, eq1]
        refine DrawK.mk ?_
        simp only [go_sem, List.getElem?_toArray, Nat.reduceBEq, Nat.reduceAdd, Nat.reduceSub, Nat.reduceMul, Nat.reduceLT, Nat.reduceLeDiff, Nat.reduceEqDiff, Nat.succ_ne_zero, reduceIte, List.length_map, h1, hl4, hwl, hA, hB, k1, k2]
        refine CallF.mk _ (within_spec p.col 0 _) ?_
        rcases c1 : inR p.col 0 ((cs.length : Int) - 1) with _ | _
        · simp only [go_sem, List.getElem?_toArray, Nat.reduceBEq, Nat.reduceAdd, Nat.reduceSub, Nat.reduceMul, Nat.reduceLT, Nat.reduceLeDiff, Nat.reduceEqDiff, Nat.succ_ne_zero, reduceIte, List.length_map, h1, hl4, hwl, k1, k2, c1]
        obtain ⟨m, hm, hml⟩ := hin c1
        have hgm : (cs[p.col.toNat]?).getD 0 = cs[m] := by rw [hm]; simp [hml]
        simp only [go_sem, List.getElem?_toArray, Nat.reduceBEq, Nat.reduceAdd, Nat.reduceSub, Nat.reduceMul, Nat.reduceLT, Nat.reduceLeDiff, Nat.reduceEqDiff, Nat.succ_ne_zero, reduceIte, List.length_map, h1, hl4, hwl, k1, k2, c1]
        refine CallF.mk _ (within_spec p.op 1 6) ?_
        rcases c4 : inR p.op 1 6 with _ | _
        · simp only [go_sem, List.getElem?_toArray, Nat.reduceBEq, Nat.reduceAdd, Nat.reduceSub, Nat.reduceMul, Nat.reduceLT, Nat.reduceLeDiff, Nat.reduceEqDiff, Nat.succ_ne_zero, reduceIte, List.length_map, h1, hl4, hwl, k1, k2, c1, c4]
        simp only [go_sem, List.getElem?_toArray, Nat.reduceBEq, Nat.reduceAdd, Nat.reduceSub, Nat.reduceMul, Nat.reduceLT, Nat.reduceLeDiff, Nat.reduceEqDiff, Nat.succ_ne_zero, reduceIte, List.length_map, h1, hl4, hwl, k1, k2, c1, c4]
        refine CallF.mk _ (by simpa only [go_sem] using iValOk_spec p.v) ?_
        rcases c2 : valOk p.v with _ | _
        · simp only [go_sem, List.getElem?_toArray, Nat.reduceBEq, Nat.reduceAdd, Nat.reduceSub, Nat.reduceMul, Nat.reduceLT, Nat.reduceLeDiff, Nat.reduceEqDiff, Nat.succ_ne_zero, reduceIte, List.length_map, h1, hl4, hwl, k1, k2, c1, c2, c4]
        rcases c3 : (p.v.ty == cs[m]) with _ | _
        · simp only [go_sem, List.getElem?_toArray, Nat.reduceBEq, Nat.reduceAdd, Nat.reduceSub, Nat.reduceMul, Nat.reduceLT, Nat.reduceLeDiff, Nat.reduceEqDiff, Nat.succ_ne_zero, reduceIte, List.length_map, h1, hl4, hwl, k1, k2, c1, c2, c3, c4, hm, map_at _ hml, hml]
        have hl0 : ((p.l.length : Int) == 0) = false := by
          have : cmpP cs p = true := by simp only [cmpP, hgm, c1, c2, c3, c4, Bool.and_true]
          simpa [this] using hs1
        simp only [go_sem, List.getElem?_toArray, Nat.reduceBEq, Nat.reduceAdd, Nat.reduceSub, Nat.reduceMul, Nat.reduceLT, Nat.reduceLeDiff, Nat.reduceEqDiff, Nat.succ_ne_zero, reduceIte, List.length_map, h1, hl4, hwl, k1, k2, c1, c2, c3, c4, hm, map_at _ hml, hml, hl0]
      simp only [go_sem, List.getElem?_toArray, Nat.reduceBEq, Nat.reduceAdd, Nat.reduceSub, Nat.reduceMul, Nat.reduceLT, Nat.reduceLeDiff, Nat.reduceEqDiff, Nat.succ_ne_zero, reduceIte, List.length_map, h1, hl4, hwl, hA, hB, k1, k2, eqBy, eq1]
      refine DrawK.mk ?_
      simp only [go_sem, List.getElem?_toArray, Nat.reduceBEq, Nat.reduceAdd, Nat.reduceSub, Nat.reduceMul, Nat.reduceLT, Nat.reduceLeDiff, Nat.reduceEqDiff, Nat.succ_ne_zero, reduceIte, List.length_map, h1, hl4, hwl, hA, hB, k1, k2]
      refine CallF.mk _ (within_spec p.col 0 _) ?_
      rcases c1 : inR p.col 0 ((cs.length : Int) - 1) with _ | _
      · simp only [go_sem, List.getElem?_toArray, Nat.reduceBEq, Nat.reduceAdd, Nat.reduceSub, Nat.reduceMul, Nat.reduceLT, Nat.reduceLeDiff, Nat.reduceEqDiff, Nat.succ_ne_zero, reduceIte, List.length_map, h1, hl4, hwl, k1, k2, c1]
      obtain ⟨m, hm, hml⟩ := hin c1
      have hgm : (cs[p.col.toNat]?).getD 0 = cs[m] := by rw [hm]; simp [hml]
      simp only [go_sem, List.getElem?_toArray, Nat.reduceBEq, Nat.reduceAdd, Nat.reduceSub, Nat.reduceMul, Nat.reduceLT, Nat.reduceLeDiff, Nat.reduceEqDiff, Nat.succ_ne_zero, reduceIte, List.length_map, h1, hl4, hwl, k1, k2, c1]
      refine CallF.mk _ (within_spec p.op 1 6) ?_
      rcases c4 : inR p.op 1 6 with _ | _
      · simp only [go_sem, List.getElem?_toArray, Nat.reduceBEq, Nat.reduceAdd, Nat.reduceSub, Nat.reduceMul, Nat.reduceLT, Nat.reduceLeDiff, Nat.reduceEqDiff, Nat.succ_ne_zero, reduceIte, List.length_map, h1, hl4, hwl, k1, k2, c1, c4]
      simp only [go_sem, List.getElem?_toArray, Nat.reduceBEq, Nat.reduceAdd, Nat.reduceSub, Nat.reduceMul, Nat.reduceLT, Nat.reduceLeDiff, Nat.reduceEqDiff, Nat.succ_ne_zero, reduceIte, List.length_map, h1, hl4, hwl, k1, k2, c1, c4]
      refine CallF.mk _ (by simpa only [go_sem] using iValOk_spec p.v) ?_
      rcases c2 : valOk p.v with _ | _
      · simp only [go_sem, List.getElem?_toArray, Nat.reduceBEq, Nat.reduceAdd, Nat.reduceSub, Nat.reduceMul, Nat.reduceLT, Nat.reduceLeDiff, Nat.reduceEqDiff, Nat.succ_ne_zero, reduceIte, List.length_map, h1, hl4, hwl, k1, k2, c1, c2, c4]
      rcases c3 : (p.v.ty == cs[m]) with _ | _
      · simp only [go_sem, List.getElem?_toArray, Nat.reduceBEq, Nat.reduceAdd, Nat.reduceSub, Nat.reduceMul, Nat.reduceLT, Nat.reduceLeDiff, Nat.reduceEqDiff, Nat.succ_ne_zero, reduceIte, List.length_map, h1, hl4, hwl, k1, k2, c1, c2, c3, c4, hm, map_at _ hml, hml]
      have hl0 : ((p.l.length : Int) == 0) = false := by
        have : cmpP cs p = true := by simp only [cmpP, hgm, c1, c2, c3, c4, Bool.and_true]
        simpa [this] using hs1
      simp only [go_sem, List.getElem?_toArray, Nat.reduceBEq, Nat.reduceAdd, Nat.reduceSub, Nat.reduceMul, Nat.reduceLT, Nat.reduceLeDiff, Nat.reduceEqDiff, Nat.succ_ne_zero, reduceIte, List.length_map, h1, hl4, hwl, k1, k2, c1, c2, c3, c4, hm, map_at _ hml, hml, hl0]
    rcases k3 : (p.kind == 3) with _ | _
    rotate_left
    · have hs1 : (bareP p && inR p.l.length 1 4) = false := by simpa [shapeP, k1, k2, k3] using hs
      rcases hA : (p.col == 0) with _ | _
      · simp only [go_sem, List.getElem?_toArray, Nat.reduceBEq, Nat.reduceAdd, Nat.reduceSub, Nat.reduceMul, Nat.reduceLT, Nat.reduceLeDiff, Nat.reduceEqDiff, Nat.succ_ne_zero, reduceIte, List.length_map, h1, hl4, hA, k1, k2, k3]
      rcases hB : (p.op == 0) with _ | _
      · simp only [go_sem, List.getElem?_toArray, Nat.reduceBEq, Nat.reduceAdd, Nat.reduceSub, Nat.reduceMul, Nat.reduceLT, Nat.reduceLeDiff, Nat.reduceEqDiff, Nat.succ_ne_zero, reduceIte, List.length_map, h1, hl4, hA, hB, k1, k2, k3]
      rcases hE : ((p.v.ty == 0) && ((p.v.n == 0) && (p.v.s.toList == ByteArray.empty.toList))) with _ | _
      · simp only [go_sem, List.getElem?_toArray, Nat.reduceBEq, Nat.reduceAdd, Nat.reduceSub, Nat.reduceMul, Nat.reduceLT, Nat.reduceLeDiff, Nat.reduceEqDiff, Nat.succ_ne_zero, reduceIte, List.length_map, h1, hl4, hA, hB, hE, k1, k2, k3, eqBy, eq1]
      · have hbt : bareP p = true := by simp only [bareP, hA, hB, Bool.true_and]; exact hE
        have hl0 : inR p.l.length 1 4 = false := by rw [hbt, Bool.true_and] at hs1; exact hs1
        have hl1 : decide ((p.l.length : Int) ≥ 1) = false := by simp [inR] at hl0 hl4 ⊢; omega
        simp only [go_sem, List.getElem?_toArray, Nat.reduceBEq, Nat.reduceAdd, Nat.reduceSub, Nat.reduceMul, Nat.reduceLT, Nat.reduceLeDiff, Nat.reduceEqDiff, Nat.succ_ne_zero, reduceIte, List.length_map, h1, hl4, hA, hB, hE, k1, k2, k3, eqBy, eq1, hl1]
    rcases k4 : (p.kind == 4) with _ | _
    rotate_left
    · have hs1 : (bareP p && inR p.l.length 1 4) = false := by simpa [shapeP, k1, k2, k3, k4] using hs
      rcases hA : (p.col == 0) with _ | _
      · simp only [go_sem, List.getElem?_toArray, Nat.reduceBEq, Nat.reduceAdd, Nat.reduceSub, Nat.reduceMul, Nat.reduceLT, Nat.reduceLeDiff, Nat.reduceEqDiff, Nat.succ_ne_zero, reduceIte, List.length_map, h1, hl4, hA, k1, k2, k3, k4]
      rcases hB : (p.op == 0) with _ | _
      · simp only [go_sem, List.getElem?_toArray, Nat.reduceBEq, Nat.reduceAdd, Nat.reduceSub, Nat.reduceMul, Nat.reduceLT, Nat.reduceLeDiff, Nat.reduceEqDiff, Nat.succ_ne_zero, reduceIte, List.length_map, h1, hl4, hA, hB, k1, k2, k3, k4]
      rcases hE : ((p.v.ty == 0) && ((p.v.n == 0) && (p.v.s.toList == ByteArray.empty.toList))) with _ | _
      · simp only [go_sem, List.getElem?_toArray, Nat.reduceBEq, Nat.reduceAdd, Nat.reduceSub, Nat.reduceMul, Nat.reduceLT, Nat.reduceLeDiff, Nat.reduceEqDiff, Nat.succ_ne_zero, reduceIte, List.length_map, h1, hl4, hA, hB, hE, k1, k2, k3, k4, eqBy, eq1]
      · have hbt : bareP p = true := by simp only [bareP, hA, hB, Bool.true_and]; exact hE
        have hl0 : inR p.l.length 1 4 = false := by rw [hbt, Bool.true_and] at hs1; exact hs1
        have hl1 : decide ((p.l.length : Int) ≥ 1) = false := by simp [inR] at hl0 hl4 ⊢; omega
        simp only [go_sem, List.getElem?_toArray, Nat.reduceBEq, Nat.reduceAdd, Nat.reduceSub, Nat.reduceMul, Nat.reduceLT, Nat.reduceLeDiff, Nat.reduceEqDiff, Nat.succ_ne_zero, reduceIte, List.length_map, h1, hl4, hA, hB, hE, k1, k2, k3, k4, eqBy, eq1, hl1]
    rcases k5 : (p.kind == 5) with _ | _
    rotate_left
    · have hs1 : (bareP p && ((p.l.length : Int) == 1)) = false := by simpa [shapeP, k1, k2, k3, k4, k5] using hs
      rcases hA : (p.col == 0) with _ | _
      · simp only [go_sem, List.getElem?_toArray, Nat.reduceBEq, Nat.reduceAdd, Nat.reduceSub, Nat.reduceMul, Nat.reduceLT, Nat.reduceLeDiff, Nat.reduceEqDiff, Nat.succ_ne_zero, reduceIte, List.length_map, h1, hl4, hA, k1, k2, k3, k4, k5]
      rcases hB : (p.op == 0) with _ | _
      · simp only [go_sem, List.getElem?_toArray, Nat.reduceBEq, Nat.reduceAdd, Nat.reduceSub, Nat.reduceMul, Nat.reduceLT, Nat.reduceLeDiff, Nat.reduceEqDiff, Nat.succ_ne_zero, reduceIte, List.length_map, h1, hl4, hA, hB, k1, k2, k3, k4, k5]
      rcases hE : ((p.v.ty == 0) && ((p.v.n == 0) && (p.v.s.toList == ByteArray.empty.toList))) with _ | _
      · simp only [go_sem, List.getElem?_toArray, Nat.reduceBEq, Nat.reduceAdd, Nat.reduceSub, Nat.reduceMul, Nat.reduceLT, Nat.reduceLeDiff, Nat.reduceEqDiff, Nat.succ_ne_zero, reduceIte, List.length_map, h1, hl4, hA, hB, hE, k1, k2, k3, k4, k5, eqBy, eq1]
      · have hbt : bareP p = true := by simp only [bareP, hA, hB, Bool.true_and]; exact hE
        have hl0 : ((p.l.length : Int) == 1) = false := by rw [hbt, Bool.true_and] at hs1; exact hs1
        simp only [go_sem, List.getElem?_toArray, Nat.reduceBEq, Nat.reduceAdd, Nat.reduceSub, Nat.reduceMul, Nat.reduceLT, Nat.reduceLeDiff, Nat.reduceEqDiff, Nat.succ_ne_zero, reduceIte, List.length_map, h1, hl4, hA, hB, hE, k1, k2, k3, k4, k5, eqBy, eq1, hl0]
    rcases hA : (p.col == 0) with _ | _
    · simp only [go_sem, List.getElem?_toArray, Nat.reduceBEq, Nat.reduceAdd, Nat.reduceSub, Nat.reduceMul, Nat.reduceLT, Nat.reduceLeDiff, Nat.reduceEqDiff, Nat.succ_ne_zero, reduceIte, List.length_map, h1, hl4, hA, k1, k2, k3, k4, k5]
    rcases hB : (p.op == 0) with _ | _
    · simp only [go_sem, List.getElem?_toArray, Nat.reduceBEq, Nat.reduceAdd, Nat.reduceSub, Nat.reduceMul, Nat.reduceLT, Nat.reduceLeDiff, Nat.reduceEqDiff, Nat.succ_ne_zero, reduceIte, List.length_map, h1, hl4, hA, hB, k1, k2, k3, k4, k5]
    simp only [go_sem, List.getElem?_toArray, Nat.reduceBEq, Nat.reduceAdd, Nat.reduceSub, Nat.reduceMul, Nat.reduceLT, Nat.reduceLeDiff, Nat.reduceEqDiff, Nat.succ_ne_zero, reduceIte, List.length_map, h1, hl4, hA, hB, k1, k2, k3, k4, k5, eqBy, eq1]
  · have hbare : bareP p = true → (p.col == 0) = true ∧ (p.op == 0) = true ∧ ((p.v.ty == 0) && ((p.v.n == 0) && (p.v.s.toList == ByteArray.empty.toList))) = true := by
      intro hh
      simp only [bareP, Bool.and_eq_true] at hh
      simp only [Bool.and_eq_true]
      exact hh
    have hs0 := hs
    unfold shapeP at hs0
    rcases k1 : (p.kind == 1) with _ | _
    rotate_left
    · have hs1 : (bareP p && ((p.l.length : Int) == 0)) = true := by simpa [k1] using hs0
      rw [Bool.and_eq_true] at hs1
      obtain ⟨hA, hB, hE⟩ := hbare hs1.1
      have hl0 := hs1.2
      simp only [go_sem, List.getElem?_toArray, Nat.reduceBEq, Nat.reduceAdd, Nat.reduceSub, Nat.reduceMul, Nat.reduceLT, Nat.reduceLeDiff, Nat.reduceEqDiff, Nat.succ_ne_zero, reduceIte, List.length_map, h1, hl4, k1, hA, hB, hE, hl0, eqBy, eq1]
      refine LoopU.mk 1 (A := Nat × Nat) (fun x => [(9, .c (.v (.int .i64 (x.2)))), (105, .c (.v (.int .i64 (x.1))))]) (fun _ => [⟨50, 7, [predRow p], true, true⟩]) (fun x => x.1 ≤ p.l.length ∧ ((p.l.drop x.1).all fun q => okP cs d q) = (p.l.all fun q => okP cs d q) ∧ x.2 + ((p.l.drop x.1).map fun q => cntP d q).sum = 1 + (p.l.map fun q => cntP d q).sum ∧ x.2 ≤ 1 + 100 * x.1) (fun x => p.l.length - x.1) (0, 1) ⟨⟨rfl, rfl⟩, rfl, Nat.zero_le _, rfl, rfl, by simp⟩ ?_
      rintro ⟨k, n⟩ ⟨hk, hb, hs2, hn⟩
      dsimp only at hk hb hs2 hn
      simp only [go_sem, List.getElem?_toArray, Nat.reduceBEq, Nat.reduceAdd, Nat.reduceSub, Nat.reduceMul, Nat.reduceLT, Nat.reduceLeDiff, Nat.reduceEqDiff, Nat.succ_ne_zero, reduceIte, List.length_map]
      refine cndC.mk (fun h2 => ?_) (fun h2 => ?_)
      · have hk' : k < p.l.length := by simpa using h2
        rw [all_drop cs d p.l hk'] at hb
        rw [cnt_drop d p.l hk'] at hs2
        simp only [go_sem, List.getElem?_toArray, Nat.reduceBEq, Nat.reduceAdd, Nat.reduceSub, Nat.reduceMul, Nat.reduceLT, Nat.reduceLeDiff, Nat.reduceEqDiff, Nat.succ_ne_zero, reduceIte, List.length_map, map_at _ hk', hk', hdw]
        try refine DrawK.mk ?_
        try simp only [go_sem, List.getElem?_toArray, Nat.reduceBEq, Nat.reduceAdd, Nat.reduceSub, Nat.reduceMul, Nat.reduceLT, Nat.reduceLeDiff, Nat.reduceEqDiff, Nat.succ_ne_zero, reduceIte, List.length_map, map_at _ hk', hk', hdw]
        first | refine CallF.mk _ (by simpa only [go_sem] using hx p.l[k] (List.getElem_mem hk')) ?_ | refine CallK.mk _ (by simpa only [go_sem] using hx p.l[k] (List.getElem_mem hk')) fun _ => ?_
        rcases hv : okP cs d p.l[k] with _ | _
        · have e1 : cntI cs d p.l[k] = -1 := by simp [cntI, hv]
          rw [hv, Bool.false_and] at hb
          have e2 : cntI cs (d + 1) p = -1 := by simp [cntI, okP, ← hb]
          have e3 : decide ((-1 : Int) < 0) = true := by decide
          rw [e2]
          simp only [go_sem, List.getElem?_toArray, Nat.reduceBEq, Nat.reduceAdd, Nat.reduceSub, Nat.reduceMul, Nat.reduceLT, Nat.reduceLeDiff, Nat.reduceEqDiff, Nat.succ_ne_zero, reduceIte, List.length_map, e1, e3]
        · have e1 : cntI cs d p.l[k] = (cntP d p.l[k] : Int) := by simp [cntI, hv]
          have e4 := cntP_le d _ hv
          have e5 : 4 ^ d ≤ 4 ^ 3 := Nat.pow_le_pow_right (by omega) (by omega)
          have e3 : decide ((cntP d p.l[k] : Int) < 0) = false := by simp
          rw [hv, Bool.true_and] at hb
          have hw1 : IntKind.i64.wrap ((n : Int) + (cntP d p.l[k] : Int)) = ((n + cntP d p.l[k] : Nat) : Int) := by rw [wrap_i64 (by omega) (by omega)]; omega
          simp only [go_sem, List.getElem?_toArray, Nat.reduceBEq, Nat.reduceAdd, Nat.reduceSub, Nat.reduceMul, Nat.reduceLT, Nat.reduceLeDiff, Nat.reduceEqDiff, Nat.succ_ne_zero, reduceIte, List.length_map, e1, e3, hw1, wrap_i64 (n := (k : Int) + 1) (by omega) (by omega)]
          exact ⟨(k + 1, n + cntP d p.l[k]), ⟨rfl, rfl⟩, rfl, ⟨by omega, hb, by simp only; omega, by simp only; omega⟩, by simp only; omega⟩
      · have hk' : k = p.l.length := by simp at h2; omega
        subst hk'
        rw [List.drop_length] at hb hs2
        have e1 : cntI cs (d + 1) p = n := by
          have e2 : okP cs (d + 1) p = true := by rw [okP, hs, ← hb]; rfl
          have e3 : n = cntP (d + 1) p := by rw [cntP]; simpa using hs2
          rw [cntI, if_pos e2, e3]
        rw [e1]
        simp only [go_sem, List.getElem?_toArray, Nat.reduceBEq, Nat.reduceAdd, Nat.reduceSub, Nat.reduceMul, Nat.reduceLT, Nat.reduceLeDiff, Nat.reduceEqDiff, Nat.succ_ne_zero, reduceIte]
    rcases k2 : (p.kind == 2) with _ | _
    rotate_left
    · have hs1 : (cmpP cs p && ((p.l.length : Int) == 0)) = true := by simpa [k1, k2] using hs0
      rw [Bool.and_eq_true] at hs1
      have hl0 := hs1.2
      have hs2 := hs1.1
      simp only [cmpP, Bool.and_eq_true] at hs2
      obtain ⟨c1, c4, c2, c3⟩ := hs2
      obtain ⟨m, hm, hml⟩ := hin c1
      have hgm : (cs[p.col.toNat]?).getD 0 = cs[m] := by rw [hm]; simp [hml]
      rw [hgm] at c3
      have c1' := c1
      rw [hm] at c1'
      have fin : ∀ P : Prop, P → P := fun _ h => h
      rcases hA : (p.col == 0) with _ | _
      · simp only [go_sem, List.getElem?_toArray, Nat.reduceBEq, Nat.reduceAdd, Nat.reduceSub, Nat.reduceMul, Nat.reduceLT, Nat.reduceLeDiff, Nat.reduceEqDiff, Nat.succ_ne_zero, reduceIte, List.length_map, h1, hl4, hwl, hA, k1, k2, eqBy, eq1]
        refine DrawK.mk ?_
        simp only [go_sem, List.getElem?_toArray, Nat.reduceBEq, Nat.reduceAdd, Nat.reduceSub, Nat.reduceMul, Nat.reduceLT, Nat.reduceLeDiff, Nat.reduceEqDiff, Nat.succ_ne_zero, reduceIte, List.length_map, h1, hl4, hwl, hA, k1, k2]
        refine CallF.mk _ (within_spec p.col 0 _) ?_
        simp only [go_sem, List.getElem?_toArray, Nat.reduceBEq, Nat.reduceAdd, Nat.reduceSub, Nat.reduceMul, Nat.reduceLT, Nat.reduceLeDiff, Nat.reduceEqDiff, Nat.succ_ne_zero, reduceIte, List.length_map, h1, hl4, hwl, k1, k2, c1]
        refine CallF.mk _ (within_spec p.op 1 6) ?_
        simp only [go_sem, List.getElem?_toArray, Nat.reduceBEq, Nat.reduceAdd, Nat.reduceSub, Nat.reduceMul, Nat.reduceLT, Nat.reduceLeDiff, Nat.reduceEqDiff, Nat.succ_ne_zero, reduceIte, List.length_map, h1, hl4, hwl, k1, k2, c1, c4]
        refine CallF.mk _ (by simpa only [go_sem] using iValOk_spec p.v) ?_
        simp only [go_sem, List.getElem?_toArray, Nat.reduceBEq, Nat.reduceAdd, Nat.reduceSub, Nat.reduceMul, Nat.reduceLT, Nat.reduceLeDiff, Nat.reduceEqDiff, Nat.succ_ne_zero, reduceIte, List.length_map, h1, hl4, hwl, k1, k2, c1, c2, c3, c4, hm, map_at _ hml, hml, hl0]
        refine LoopU.mk 1 (A := Nat × Nat) (fun x => [(9, .c (.v (.int .i64 (x.2)))), (105, .c (.v (.int .i64 (x.1))))]) (fun _ => [⟨50, 7, [predRowC m p], true, true⟩]) (fun x => x.1 ≤ p.l.length ∧ ((p.l.drop x.1).all fun q => okP cs d q) = (p.l.all fun q => okP cs d q) ∧ x.2 + ((p.l.drop x.1).map fun q => cntP d q).sum = 1 + (p.l.map fun q => cntP d q).sum ∧ x.2 ≤ 1 + 100 * x.1) (fun x => p.l.length - x.1) (0, 1) ⟨⟨rfl, rfl⟩, rfl, Nat.zero_le _, rfl, rfl, by simp⟩ ?_
        rintro ⟨k, n⟩ ⟨hk, hb, hs2, hn⟩
        dsimp only at hk hb hs2 hn
        simp only [go_sem, List.getElem?_toArray, Nat.reduceBEq, Nat.reduceAdd, Nat.reduceSub, Nat.reduceMul, Nat.reduceLT, Nat.reduceLeDiff, Nat.reduceEqDiff, Nat.succ_ne_zero, reduceIte, List.length_map]
        refine cndC.mk (fun h2 => ?_) (fun h2 => ?_)
        · have hk' : k < p.l.length := by simpa using h2
          rw [all_drop cs d p.l hk'] at hb
          rw [cnt_drop d p.l hk'] at hs2
          simp only [go_sem, List.getElem?_toArray, Nat.reduceBEq, Nat.reduceAdd, Nat.reduceSub, Nat.reduceMul, Nat.reduceLT, Nat.reduceLeDiff, Nat.reduceEqDiff, Nat.succ_ne_zero, reduceIte, List.length_map, map_at _ hk', hk', hdw]
          try refine DrawK.mk ?_
          try simp only [go_sem, List.getElem?_toArray, Nat.reduceBEq, Nat.reduceAdd, Nat.reduceSub, Nat.reduceMul, Nat.reduceLT, Nat.reduceLeDiff, Nat.reduceEqDiff, Nat.succ_ne_zero, reduceIte, List.length_map, map_at _ hk', hk', hdw]
          first | refine CallF.mk _ (by simpa only [go_sem] using hx p.l[k] (List.getElem_mem hk')) ?_ | refine CallK.mk _ (by simpa only [go_sem] using hx p.l[k] (List.getElem_mem hk')) fun _ => ?_
          rcases hv : okP cs d p.l[k] with _ | _
          · have e1 : cntI cs d p.l[k] = -1 := by simp [cntI, hv]
            rw [hv, Bool.false_and] at hb
            have e2 : cntI cs (d + 1) p = -1 := by simp [cntI, okP, ← hb]
            have e3 : decide ((-1 : Int) < 0) = true := by decide
            rw [e2]
            simp only [go_sem, List.getElem?_toArray, Nat.reduceBEq, Nat.reduceAdd, Nat.reduceSub, Nat.reduceMul, Nat.reduceLT, Nat.reduceLeDiff, Nat.reduceEqDiff, Nat.succ_ne_zero, reduceIte, List.length_map, e1, e3]
          · have e1 : cntI cs d p.l[k] = (cntP d p.l[k] : Int) := by simp [cntI, hv]
            have e4 := cntP_le d _ hv
            have e5 : 4 ^ d ≤ 4 ^ 3 := Nat.pow_le_pow_right (by omega) (by omega)
            have e3 : decide ((cntP d p.l[k] : Int) < 0) = false := by simp
            rw [hv, Bool.true_and] at hb
            have hw1 : IntKind.i64.wrap ((n : Int) + (cntP d p.l[k] : Int)) = ((n + cntP d p.l[k] : Nat) : Int) := by rw [wrap_i64 (by omega) (by omega)]; omega
            simp only [go_sem, List.getElem?_toArray, Nat.reduceBEq, Nat.reduceAdd, Nat.reduceSub, Nat.reduceMul, Nat.reduceLT, Nat.reduceLeDiff, Nat.reduceEqDiff, Nat.succ_ne_zero, reduceIte, List.length_map, e1, e3, hw1, wrap_i64 (n := (k : Int) + 1) (by omega) (by omega)]
            exact ⟨(k + 1, n + cntP d p.l[k]), ⟨rfl, rfl⟩, rfl, ⟨by omega, hb, by simp only; omega, by simp only; omega⟩, by simp only; omega⟩
        · have hk' : k = p.l.length := by simp at h2; omega
          subst hk'
          rw [List.drop_length] at hb hs2
          have e1 : cntI cs (d + 1) p = n := by
            have e2 : okP cs (d + 1) p = true := by rw [okP, hs, ← hb]; rfl
            have e3 : n = cntP (d + 1) p := by rw [cntP]; simpa using hs2
            rw [cntI, if_pos e2, e3]
          rw [e1]
          simp only [go_sem, List.getElem?_toArray, Nat.reduceBEq, Nat.reduceAdd, Nat.reduceSub, Nat.reduceMul, Nat.reduceLT, Nat.reduceLeDiff, Nat.reduceEqDiff, Nat.succ_ne_zero, reduceIte]
      rcases hB : (p.op == 0) with _ | _
      · simp only [go_sem, List.getElem?_toArray, Nat.reduceBEq, Nat.reduceAdd, Nat.reduceSub, Nat.reduceMul, Nat.reduceLT, Nat.reduceLeDiff, Nat.reduceEqDiff, Nat.succ_ne_zero, reduceIte, List.length_map, h1, hl4, hwl, hA, hB, k1, k2, eqBy, eq1]
        refine DrawK.mk ?_
        simp only [go_sem, List.getElem?_toArray, Nat.reduceBEq, Nat.reduceAdd, Nat.reduceSub, Nat.reduceMul, Nat.reduceLT, Nat.reduceLeDiff, Nat.reduceEqDiff, Nat.succ_ne_zero, reduceIte, List.length_map, h1, hl4, hwl, hA, hB, k1, k2]
        refine CallF.mk _ (within_spec p.col 0 _) ?_
        simp only [go_sem, List.getElem?_toArray, Nat.reduceBEq, Nat.reduceAdd, Nat.reduceSub, Nat.reduceMul, Nat.reduceLT, Nat.reduceLeDiff, Nat.reduceEqDiff, Nat.succ_ne_zero, reduceIte, List.length_map, h1, hl4, hwl, k1, k2, c1]
        refine CallF.mk _ (within_spec p.op 1 6) ?_
        simp only [go_sem, List.getElem?_toArray, Nat.reduceBEq, Nat.reduceAdd, Nat.reduceSub, Nat.reduceMul, Nat.reduceLT, Nat.reduceLeDiff, Nat.reduceEqDiff, Nat.succ_ne_zero, reduceIte, List.length_map, h1, hl4, hwl, k1, k2, c1, c4]
        refine CallF.mk _ (by simpa only [go_sem] using iValOk_spec p.v) ?_
        simp only [go_sem, List.getElem?_toArray, Nat.reduceBEq, Nat.reduceAdd, Nat.reduceSub, Nat.reduceMul, Nat.reduceLT, Nat.reduceLeDiff, Nat.reduceEqDiff, Nat.succ_ne_zero, reduceIte, List.length_map, h1, hl4, hwl, k1, k2, c1, c2, c3, c4, hm, map_at _ hml, hml, hl0]
        refine LoopU.mk 1 (A := Nat × Nat) (fun x => [(9, .c (.v (.int .i64 (x.2)))), (105, .c (.v (.int .i64 (x.1))))]) (fun _ => [⟨50, 7, [predRowC m p], true, true⟩]) (fun x => x.1 ≤ p.l.length ∧ ((p.l.drop x.1).all fun q => okP cs d q) = (p.l.all fun q => okP cs d q) ∧ x.2 + ((p.l.drop x.1).map fun q => cntP d q).sum = 1 + (p.l.map fun q => cntP d q).sum ∧ x.2 ≤ 1 + 100 * x.1) (fun x => p.l.length - x.1) (0, 1) ⟨⟨rfl, rfl⟩, rfl, Nat.zero_le _, rfl, rfl, by simp⟩ ?_
        rintro ⟨k, n⟩ ⟨hk, hb, hs2, hn⟩
        dsimp only at hk hb hs2 hn
        simp only [go_sem, List.getElem?_toArray, Nat.reduceBEq, Nat.reduceAdd, Nat.reduceSub, Nat.reduceMul, Nat.reduceLT, Nat.reduceLeDiff, Nat.reduceEqDiff, Nat.succ_ne_zero, reduceIte, List.length_map]
        refine cndC.mk (fun h2 => ?_) (fun h2 => ?_)
        · have hk' : k < p.l.length := by simpa using h2
          rw [all_drop cs d p.l hk'] at hb
          rw [cnt_drop d p.l hk'] at hs2
          simp only [go_sem, List.getElem?_toArray, Nat.reduceBEq, Nat.reduceAdd, Nat.reduceSub, Nat.reduceMul, Nat.reduceLT, Nat.reduceLeDiff, Nat.reduceEqDiff, Nat.succ_ne_zero, reduceIte, List.length_map, map_at _ hk', hk', hdw]
          try refine DrawK.mk ?_
          try simp only [go_sem, List.getElem?_toArray, Nat.reduceBEq, Nat.reduceAdd, Nat.reduceSub, Nat.reduceMul, Nat.reduceLT, Nat.reduceLeDiff, Nat.reduceEqDiff, Nat.succ_ne_zero, reduceIte, List.length_map, map_at _ hk', hk', hdw]
          first | refine CallF.mk _ (by simpa only [go_sem] using hx p.l[k] (List.getElem_mem hk')) ?_ | refine CallK.mk _ (by simpa only [go_sem] using hx p.l[k] (List.getElem_mem hk')) fun _ => ?_
          rcases hv : okP cs d p.l[k] with _ | _
          · have e1 : cntI cs d p.l[k] = -1 := by simp [cntI, hv]
            rw [hv, Bool.false_and] at hb
            have e2 : cntI cs (d + 1) p = -1 := by simp [cntI, okP, ← hb]
            have e3 : decide ((-1 : Int) < 0) = true := by decide
            rw [e2]
            simp only [go_sem, List.getElem?_toArray, Nat.reduceBEq, Nat.reduceAdd, Nat.reduceSub, Nat.reduceMul, Nat.reduceLT, Nat.reduceLeDiff, Nat.reduceEqDiff, Nat.succ_ne_zero, reduceIte, List.length_map, e1, e3]
          · have e1 : cntI cs d p.l[k] = (cntP d p.l[k] : Int) := by simp [cntI, hv]
            have e4 := cntP_le d _ hv
            have e5 : 4 ^ d ≤ 4 ^ 3 := Nat.pow_le_pow_right (by omega) (by omega)
            have e3 : decide ((cntP d p.l[k] : Int) < 0) = false := by simp
            rw [hv, Bool.true_and] at hb
            have hw1 : IntKind.i64.wrap ((n : Int) + (cntP d p.l[k] : Int)) = ((n + cntP d p.l[k] : Nat) : Int) := by rw [wrap_i64 (by omega) (by omega)]; omega
            simp only [go_sem, List.getElem?_toArray, Nat.reduceBEq, Nat.reduceAdd, Nat.reduceSub, Nat.reduceMul, Nat.reduceLT, Nat.reduceLeDiff, Nat.reduceEqDiff, Nat.succ_ne_zero, reduceIte, List.length_map, e1, e3, hw1, wrap_i64 (n := (k : Int) + 1) (by omega) (by omega)]
            exact ⟨(k + 1, n + cntP d p.l[k]), ⟨rfl, rfl⟩, rfl, ⟨by omega, hb, by simp only; omega, by simp only; omega⟩, by simp only; omega⟩
        · have hk' : k = p.l.length := by simp at h2; omega
          subst hk'
          rw [List.drop_length] at hb hs2
          have e1 : cntI cs (d + 1) p = n := by
            have e2 : okP cs (d + 1) p = true := by rw [okP, hs, ← hb]; rfl
            have e3 : n = cntP (d + 1) p := by rw [cntP]; simpa using hs2
            rw [cntI, if_pos e2, e3]
          rw [e1]
          simp only [go_sem, List.getElem?_toArray, Nat.reduceBEq, Nat.reduceAdd, Nat.reduceSub, Nat.reduceMul, Nat.reduceLT, Nat.reduceLeDiff, Nat.reduceEqDiff, Nat.succ_ne_zero, reduceIte]
      simp only [go_sem, List.getElem?_toArray, Nat.reduceBEq, Nat.reduceAdd, Nat.reduceSub, Nat.reduceMul, Nat.reduceLT, Nat.reduceLeDiff, Nat.reduceEqDiff, Nat.succ_ne_zero, reduceIte, List.length_map, h1, hl4, hwl, hA, hB, k1, k2, eqBy, eq1]
      refine DrawK.mk ?_
      simp only [go_sem, List.getElem?_toArray, Nat.reduceBEq, Nat.reduceAdd, Nat.reduceSub, Nat.reduceMul, Nat.reduceLT, Nat.reduceLeDiff, Nat.reduceEqDiff, Nat.succ_ne_zero, reduceIte, List.length_map, h1, hl4, hwl, hA, hB, k1, k2]
      refine CallF.mk _ (within_spec p.col 0 _) ?_
      simp only [go_sem, List.getElem?_toArray, Nat.reduceBEq, Nat.reduceAdd, Nat.reduceSub, Nat.reduceMul, Nat.reduceLT, Nat.reduceLeDiff, Nat.reduceEqDiff, Nat.succ_ne_zero, reduceIte, List.length_map, h1, hl4, hwl, k1, k2, c1]
      refine CallF.mk _ (within_spec p.op 1 6) ?_
      simp only [go_sem, List.getElem?_toArray, Nat.reduceBEq, Nat.reduceAdd, Nat.reduceSub, Nat.reduceMul, Nat.reduceLT, Nat.reduceLeDiff, Nat.reduceEqDiff, Nat.succ_ne_zero, reduceIte, List.length_map, h1, hl4, hwl, k1, k2, c1, c4]
      refine CallF.mk _ (by simpa only [go_sem] using iValOk_spec p.v) ?_
      simp only [go_sem, List.getElem?_toArray, Nat.reduceBEq, Nat.reduceAdd, Nat.reduceSub, Nat.reduceMul, Nat.reduceLT, Nat.reduceLeDiff, Nat.reduceEqDiff, Nat.succ_ne_zero, reduceIte, List.length_map, h1, hl4, hwl, k1, k2, c1, c2, c3, c4, hm, map_at _ hml, hml, hl0]
      refine LoopU.mk 1 (A := Nat × Nat) (fun x => [(9, .c (.v (.int .i64 (x.2)))), (105, .c (.v (.int .i64 (x.1))))]) (fun _ => [⟨50, 7, [predRowC m p], true, true⟩]) (fun x => x.1 ≤ p.l.length ∧ ((p.l.drop x.1).all fun q => okP cs d q) = (p.l.all fun q => okP cs d q) ∧ x.2 + ((p.l.drop x.1).map fun q => cntP d q).sum = 1 + (p.l.map fun q => cntP d q).sum ∧ x.2 ≤ 1 + 100 * x.1) (fun x => p.l.length - x.1) (0, 1) ⟨⟨rfl, rfl⟩, rfl, Nat.zero_le _, rfl, rfl, by simp⟩ ?_
      rintro ⟨k, n⟩ ⟨hk, hb, hs2, hn⟩
      dsimp only at hk hb hs2 hn
      simp only [go_sem, List.getElem?_toArray, Nat.reduceBEq, Nat.reduceAdd, Nat.reduceSub, Nat.reduceMul, Nat.reduceLT, Nat.reduceLeDiff, Nat.reduceEqDiff, Nat.succ_ne_zero, reduceIte, List.length_map]
      refine cndC.mk (fun h2 => ?_) (fun h2 => ?_)
      · have hk' : k < p.l.length := by simpa using h2
        rw [all_drop cs d p.l hk'] at hb
        rw [cnt_drop d p.l hk'] at hs2
        simp only [go_sem, List.getElem?_toArray, Nat.reduceBEq, Nat.reduceAdd, Nat.reduceSub, Nat.reduceMul, Nat.reduceLT, Nat.reduceLeDiff, Nat.reduceEqDiff, Nat.succ_ne_zero, reduceIte, List.length_map, map_at _ hk', hk', hdw]
        try refine DrawK.mk ?_
        try simp only [go_sem, List.getElem?_toArray, Nat.reduceBEq, Nat.reduceAdd, Nat.reduceSub, Nat.reduceMul, Nat.reduceLT, Nat.reduceLeDiff, Nat.reduceEqDiff, Nat.succ_ne_zero, reduceIte, List.length_map, map_at _ hk', hk', hdw]
        first | refine CallF.mk _ (by simpa only [go_sem] using hx p.l[k] (List.getElem_mem hk')) ?_ | refine CallK.mk _ (by simpa only [go_sem] using hx p.l[k] (List.getElem_mem hk')) fun _ => ?_
        rcases hv : okP cs d p.l[k] with _ | _
        · have e1 : cntI cs d p.l[k] = -1 := by simp [cntI, hv]
          rw [hv, Bool.false_and] at hb
          have e2 : cntI cs (d + 1) p = -1 := by simp [cntI, okP, ← hb]
          have e3 : decide ((-1 : Int) < 0) = true := by decide
          rw [e2]
          simp only [go_sem, List.getElem?_toArray, Nat.reduceBEq, Nat.reduceAdd, Nat.reduceSub, Nat.reduceMul, Nat.reduceLT, Nat.reduceLeDiff, Nat.reduceEqDiff, Nat.succ_ne_zero, reduceIte, List.length_map, e1, e3]
        · have e1 : cntI cs d p.l[k] = (cntP d p.l[k] : Int) := by simp [cntI, hv]
          have e4 := cntP_le d _ hv
          have e5 : 4 ^ d ≤ 4 ^ 3 := Nat.pow_le_pow_right (by omega) (by omega)
          have e3 : decide ((cntP d p.l[k] : Int) < 0) = false := by simp
          rw [hv, Bool.true_and] at hb
          have hw1 : IntKind.i64.wrap ((n : Int) + (cntP d p.l[k] : Int)) = ((n + cntP d p.l[k] : Nat) : Int) := by rw [wrap_i64 (by omega) (by omega)]; omega
          simp only [go_sem, List.getElem?_toArray, Nat.reduceBEq, Nat.reduceAdd, Nat.reduceSub, Nat.reduceMul, Nat.reduceLT, Nat.reduceLeDiff, Nat.reduceEqDiff, Nat.succ_ne_zero, reduceIte, List.length_map, e1, e3, hw1, wrap_i64 (n := (k : Int) + 1) (by omega) (by omega)]
          exact ⟨(k + 1, n + cntP d p.l[k]), ⟨rfl, rfl⟩, rfl, ⟨by omega, hb, by simp only; omega, by simp only; omega⟩, by simp only; omega⟩
      · have hk' : k = p.l.length := by simp at h2; omega
        subst hk'
        rw [List.drop_length] at hb hs2
        have e1 : cntI cs (d + 1) p = n := by
          have e2 : okP cs (d + 1) p = true := by rw [okP, hs, ← hb]; rfl
          have e3 : n = cntP (d + 1) p := by rw [cntP]; simpa using hs2
          rw [cntI, if_pos e2, e3]
        rw [e1]
        simp only [go_sem, List.getElem?_toArray, Nat.reduceBEq, Nat.reduceAdd, Nat.reduceSub, Nat.reduceMul, Nat.reduceLT, Nat.reduceLeDiff, Nat.reduceEqDiff, Nat.succ_ne_zero, reduceIte]
    rcases k3 : (p.kind == 3) with _ | _
    rotate_left
    · have hs1 : (bareP p && inR p.l.length 1 4) = true := by simpa [k1, k2, k3] using hs0
      rw [Bool.and_eq_true] at hs1
      obtain ⟨hA, hB, hE⟩ := hbare hs1.1
      have hl0 := hs1.2
      have hl1 : decide ((p.l.length : Int) ≥ 1) = true := by simp [inR] at hl0 ⊢; omega
      simp only [go_sem, List.getElem?_toArray, Nat.reduceBEq, Nat.reduceAdd, Nat.reduceSub, Nat.reduceMul, Nat.reduceLT, Nat.reduceLeDiff, Nat.reduceEqDiff, Nat.succ_ne_zero, reduceIte, List.length_map, h1, hl4, k1, k2, k3, hA, hB, hE, hl1, eqBy, eq1]
      refine LoopU.mk 1 (A := Nat × Nat) (fun x => [(9, .c (.v (.int .i64 (x.2)))), (105, .c (.v (.int .i64 (x.1))))]) (fun _ => [⟨50, 7, [predRow p], true, true⟩]) (fun x => x.1 ≤ p.l.length ∧ ((p.l.drop x.1).all fun q => okP cs d q) = (p.l.all fun q => okP cs d q) ∧ x.2 + ((p.l.drop x.1).map fun q => cntP d q).sum = 1 + (p.l.map fun q => cntP d q).sum ∧ x.2 ≤ 1 + 100 * x.1) (fun x => p.l.length - x.1) (0, 1) ⟨⟨rfl, rfl⟩, rfl, Nat.zero_le _, rfl, rfl, by simp⟩ ?_
      rintro ⟨k, n⟩ ⟨hk, hb, hs2, hn⟩
      dsimp only at hk hb hs2 hn
      simp only [go_sem, List.getElem?_toArray, Nat.reduceBEq, Nat.reduceAdd, Nat.reduceSub, Nat.reduceMul, Nat.reduceLT, Nat.reduceLeDiff, Nat.reduceEqDiff, Nat.succ_ne_zero, reduceIte, List.length_map]
      refine cndC.mk (fun h2 => ?_) (fun h2 => ?_)
      · have hk' : k < p.l.length := by simpa using h2
        rw [all_drop cs d p.l hk'] at hb
        rw [cnt_drop d p.l hk'] at hs2
        simp only [go_sem, List.getElem?_toArray, Nat.reduceBEq, Nat.reduceAdd, Nat.reduceSub, Nat.reduceMul, Nat.reduceLT, Nat.reduceLeDiff, Nat.reduceEqDiff, Nat.succ_ne_zero, reduceIte, List.length_map, map_at _ hk', hk', hdw]
        try refine DrawK.mk ?_
        try simp only [go_sem, List.getElem?_toArray, Nat.reduceBEq, Nat.reduceAdd, Nat.reduceSub, Nat.reduceMul, Nat.reduceLT, Nat.reduceLeDiff, Nat.reduceEqDiff, Nat.succ_ne_zero, reduceIte, List.length_map, map_at _ hk', hk', hdw]
        first | refine CallF.mk _ (by simpa only [go_sem] using hx p.l[k] (List.getElem_mem hk')) ?_ | refine CallK.mk _ (by simpa only [go_sem] using hx p.l[k] (List.getElem_mem hk')) fun _ => ?_
        rcases hv : okP cs d p.l[k] with _ | _
        · have e1 : cntI cs d p.l[k] = -1 := by simp [cntI, hv]
          rw [hv, Bool.false_and] at hb
          have e2 : cntI cs (d + 1) p = -1 := by simp [cntI, okP, ← hb]
          have e3 : decide ((-1 : Int) < 0) = true := by decide
          rw [e2]
          simp only [go_sem, List.getElem?_toArray, Nat.reduceBEq, Nat.reduceAdd, Nat.reduceSub, Nat.reduceMul, Nat.reduceLT, Nat.reduceLeDiff, Nat.reduceEqDiff, Nat.succ_ne_zero, reduceIte, List.length_map, e1, e3]
        · have e1 : cntI cs d p.l[k] = (cntP d p.l[k] : Int) := by simp [cntI, hv]
          have e4 := cntP_le d _ hv
          have e5 : 4 ^ d ≤ 4 ^ 3 := Nat.pow_le_pow_right (by omega) (by omega)
          have e3 : decide ((cntP d p.l[k] : Int) < 0) = false := by simp
          rw [hv, Bool.true_and] at hb
          have hw1 : IntKind.i64.wrap ((n : Int) + (cntP d p.l[k] : Int)) = ((n + cntP d p.l[k] : Nat) : Int) := by rw [wrap_i64 (by omega) (by omega)]; omega
          simp only [go_sem, List.getElem?_toArray, Nat.reduceBEq, Nat.reduceAdd, Nat.reduceSub, Nat.reduceMul, Nat.reduceLT, Nat.reduceLeDiff, Nat.reduceEqDiff, Nat.succ_ne_zero, reduceIte, List.length_map, e1, e3, hw1, wrap_i64 (n := (k : Int) + 1) (by omega) (by omega)]
          exact ⟨(k + 1, n + cntP d p.l[k]), ⟨rfl, rfl⟩, rfl, ⟨by omega, hb, by simp only; omega, by simp only; omega⟩, by simp only; omega⟩
      · have hk' : k = p.l.length := by simp at h2; omega
        subst hk'
        rw [List.drop_length] at hb hs2
        have e1 : cntI cs (d + 1) p = n := by
          have e2 : okP cs (d + 1) p = true := by rw [okP, hs, ← hb]; rfl
          have e3 : n = cntP (d + 1) p := by rw [cntP]; simpa using hs2
          rw [cntI, if_pos e2, e3]
        rw [e1]
        simp only [go_sem, List.getElem?_toArray, Nat.reduceBEq, Nat.reduceAdd, Nat.reduceSub, Nat.reduceMul, Nat.reduceLT, Nat.reduceLeDiff, Nat.reduceEqDiff, Nat.succ_ne_zero, reduceIte]
    rcases k4 : (p.kind == 4) with _ | _
    rotate_left
    · have hs1 : (bareP p && inR p.l.length 1 4) = true := by simpa [k1, k2, k3, k4] using hs0
      rw [Bool.and_eq_true] at hs1
      obtain ⟨hA, hB, hE⟩ := hbare hs1.1
      have hl0 := hs1.2
      have hl1 : decide ((p.l.length : Int) ≥ 1) = true := by simp [inR] at hl0 ⊢; omega
      simp only [go_sem, List.getElem?_toArray, Nat.reduceBEq, Nat.reduceAdd, Nat.reduceSub, Nat.reduceMul, Nat.reduceLT, Nat.reduceLeDiff, Nat.reduceEqDiff, Nat.succ_ne_zero, reduceIte, List.length_map, h1, hl4, k1, k2, k3, k4, hA, hB, hE, hl1, eqBy, eq1]
      refine LoopU.mk 1 (A := Nat × Nat) (fun x => [(9, .c (.v (.int .i64 (x.2)))), (105, .c (.v (.int .i64 (x.1))))]) (fun _ => [⟨50, 7, [predRow p], true, true⟩]) (fun x => x.1 ≤ p.l.length ∧ ((p.l.drop x.1).all fun q => okP cs d q) = (p.l.all fun q => okP cs d q) ∧ x.2 + ((p.l.drop x.1).map fun q => cntP d q).sum = 1 + (p.l.map fun q => cntP d q).sum ∧ x.2 ≤ 1 + 100 * x.1) (fun x => p.l.length - x.1) (0, 1) ⟨⟨rfl, rfl⟩, rfl, Nat.zero_le _, rfl, rfl, by simp⟩ ?_
      rintro ⟨k, n⟩ ⟨hk, hb, hs2, hn⟩
      dsimp only at hk hb hs2 hn
      simp only [go_sem, List.getElem?_toArray, Nat.reduceBEq, Nat.reduceAdd, Nat.reduceSub, Nat.reduceMul, Nat.reduceLT, Nat.reduceLeDiff, Nat.reduceEqDiff, Nat.succ_ne_zero, reduceIte, List.length_map]
      refine cndC.mk (fun h2 => ?_) (fun h2 => ?_)
      · have hk' : k < p.l.length := by simpa using h2
        rw [all_drop cs d p.l hk'] at hb
        rw [cnt_drop d p.l hk'] at hs2
        simp only [go_sem, List.getElem?_toArray, Nat.reduceBEq, Nat.reduceAdd, Nat.reduceSub, Nat.reduceMul, Nat.reduceLT, Nat.reduceLeDiff, Nat.reduceEqDiff, Nat.succ_ne_zero, reduceIte, List.length_map, map_at _ hk', hk', hdw]
        try refine DrawK.mk ?_
        try simp only [go_sem, List.getElem?_toArray, Nat.reduceBEq, Nat.reduceAdd, Nat.reduceSub, Nat.reduceMul, Nat.reduceLT, Nat.reduceLeDiff, Nat.reduceEqDiff, Nat.succ_ne_zero, reduceIte, List.length_map, map_at _ hk', hk', hdw]
        first | refine CallF.mk _ (by simpa only [go_sem] using hx p.l[k] (List.getElem_mem hk')) ?_ | refine CallK.mk _ (by simpa only [go_sem] using hx p.l[k] (List.getElem_mem hk')) fun _ => ?_
        rcases hv : okP cs d p.l[k] with _ | _
        · have e1 : cntI cs d p.l[k] = -1 := by simp [cntI, hv]
          rw [hv, Bool.false_and] at hb
          have e2 : cntI cs (d + 1) p = -1 := by simp [cntI, okP, ← hb]
          have e3 : decide ((-1 : Int) < 0) = true := by decide
          rw [e2]
          simp only [go_sem, List.getElem?_toArray, Nat.reduceBEq, Nat.reduceAdd, Nat.reduceSub, Nat.reduceMul, Nat.reduceLT, Nat.reduceLeDiff, Nat.reduceEqDiff, Nat.succ_ne_zero, reduceIte, List.length_map, e1, e3]
        · have e1 : cntI cs d p.l[k] = (cntP d p.l[k] : Int) := by simp [cntI, hv]
          have e4 := cntP_le d _ hv
          have e5 : 4 ^ d ≤ 4 ^ 3 := Nat.pow_le_pow_right (by omega) (by omega)
          have e3 : decide ((cntP d p.l[k] : Int) < 0) = false := by simp
          rw [hv, Bool.true_and] at hb
          have hw1 : IntKind.i64.wrap ((n : Int) + (cntP d p.l[k] : Int)) = ((n + cntP d p.l[k] : Nat) : Int) := by rw [wrap_i64 (by omega) (by omega)]; omega
          simp only [go_sem, List.getElem?_toArray, Nat.reduceBEq, Nat.reduceAdd, Nat.reduceSub, Nat.reduceMul, Nat.reduceLT, Nat.reduceLeDiff, Nat.reduceEqDiff, Nat.succ_ne_zero, reduceIte, List.length_map, e1, e3, hw1, wrap_i64 (n := (k : Int) + 1) (by omega) (by omega)]
          exact ⟨(k + 1, n + cntP d p.l[k]), ⟨rfl, rfl⟩, rfl, ⟨by omega, hb, by simp only; omega, by simp only; omega⟩, by simp only; omega⟩
      · have hk' : k = p.l.length := by simp at h2; omega
        subst hk'
        rw [List.drop_length] at hb hs2
        have e1 : cntI cs (d + 1) p = n := by
          have e2 : okP cs (d + 1) p = true := by rw [okP, hs, ← hb]; rfl
          have e3 : n = cntP (d + 1) p := by rw [cntP]; simpa using hs2
          rw [cntI, if_pos e2, e3]
        rw [e1]
        simp only [go_sem, List.getElem?_toArray, Nat.reduceBEq, Nat.reduceAdd, Nat.reduceSub, Nat.reduceMul, Nat.reduceLT, Nat.reduceLeDiff, Nat.reduceEqDiff, Nat.succ_ne_zero, reduceIte]
    rcases k5 : (p.kind == 5) with _ | _
    rotate_left
    · have hs1 : (bareP p && ((p.l.length : Int) == 1)) = true := by simpa [k1, k2, k3, k4, k5] using hs0
      rw [Bool.and_eq_true] at hs1
      obtain ⟨hA, hB, hE⟩ := hbare hs1.1
      have hl0 := hs1.2
      simp only [go_sem, List.getElem?_toArray, Nat.reduceBEq, Nat.reduceAdd, Nat.reduceSub, Nat.reduceMul, Nat.reduceLT, Nat.reduceLeDiff, Nat.reduceEqDiff, Nat.succ_ne_zero, reduceIte, List.length_map, h1, hl4, k1, k2, k3, k4, k5, hA, hB, hE, hl0, eqBy, eq1]
      refine LoopU.mk 1 (A := Nat × Nat) (fun x => [(9, .c (.v (.int .i64 (x.2)))), (105, .c (.v (.int .i64 (x.1))))]) (fun _ => [⟨50, 7, [predRow p], true, true⟩]) (fun x => x.1 ≤ p.l.length ∧ ((p.l.drop x.1).all fun q => okP cs d q) = (p.l.all fun q => okP cs d q) ∧ x.2 + ((p.l.drop x.1).map fun q => cntP d q).sum = 1 + (p.l.map fun q => cntP d q).sum ∧ x.2 ≤ 1 + 100 * x.1) (fun x => p.l.length - x.1) (0, 1) ⟨⟨rfl, rfl⟩, rfl, Nat.zero_le _, rfl, rfl, by simp⟩ ?_
      rintro ⟨k, n⟩ ⟨hk, hb, hs2, hn⟩
      dsimp only at hk hb hs2 hn
      simp only [go_sem, List.getElem?_toArray, Nat.reduceBEq, Nat.reduceAdd, Nat.reduceSub, Nat.reduceMul, Nat.reduceLT, Nat.reduceLeDiff, Nat.reduceEqDiff, Nat.succ_ne_zero, reduceIte, List.length_map]
      refine cndC.mk (fun h2 => ?_) (fun h2 => ?_)
      · have hk' : k < p.l.length := by simpa using h2
        rw [all_drop cs d p.l hk'] at hb
        rw [cnt_drop d p.l hk'] at hs2
        simp only [go_sem, List.getElem?_toArray, Nat.reduceBEq, Nat.reduceAdd, Nat.reduceSub, Nat.reduceMul, Nat.reduceLT, Nat.reduceLeDiff, Nat.reduceEqDiff, Nat.succ_ne_zero, reduceIte, List.length_map, map_at _ hk', hk', hdw]
        try refine DrawK.mk ?_
        try simp only [go_sem, List.getElem?_toArray, Nat.reduceBEq, Nat.reduceAdd, Nat.reduceSub, Nat.reduceMul, Nat.reduceLT, Nat.reduceLeDiff, Nat.reduceEqDiff, Nat.succ_ne_zero, reduceIte, List.length_map, map_at _ hk', hk', hdw]
        first | refine CallF.mk _ (by simpa only [go_sem] using hx p.l[k] (List.getElem_mem hk')) ?_ | refine CallK.mk _ (by simpa only [go_sem] using hx p.l[k] (List.getElem_mem hk')) fun _ => ?_
        rcases hv : okP cs d p.l[k] with _ | _
        · have e1 : cntI cs d p.l[k] = -1 := by simp [cntI, hv]
          rw [hv, Bool.false_and] at hb
          have e2 : cntI cs (d + 1) p = -1 := by simp [cntI, okP, ← hb]
          have e3 : decide ((-1 : Int) < 0) = true := by decide
          rw [e2]
          simp only [go_sem, List.getElem?_toArray, Nat.reduceBEq, Nat.reduceAdd, Nat.reduceSub, Nat.reduceMul, Nat.reduceLT, Nat.reduceLeDiff, Nat.reduceEqDiff, Nat.succ_ne_zero, reduceIte, List.length_map, e1, e3]
        · have e1 : cntI cs d p.l[k] = (cntP d p.l[k] : Int) := by simp [cntI, hv]
          have e4 := cntP_le d _ hv
          have e5 : 4 ^ d ≤ 4 ^ 3 := Nat.pow_le_pow_right (by omega) (by omega)
          have e3 : decide ((cntP d p.l[k] : Int) < 0) = false := by simp
          rw [hv, Bool.true_and] at hb
          have hw1 : IntKind.i64.wrap ((n : Int) + (cntP d p.l[k] : Int)) = ((n + cntP d p.l[k] : Nat) : Int) := by rw [wrap_i64 (by omega) (by omega)]; omega
          simp only [go_sem, List.getElem?_toArray, Nat.reduceBEq, Nat.reduceAdd, Nat.reduceSub, Nat.reduceMul, Nat.reduceLT, Nat.reduceLeDiff, Nat.reduceEqDiff, Nat.succ_ne_zero, reduceIte, List.length_map, e1, e3, hw1, wrap_i64 (n := (k : Int) + 1) (by omega) (by omega)]
          exact ⟨(k + 1, n + cntP d p.l[k]), ⟨rfl, rfl⟩, rfl, ⟨by omega, hb, by simp only; omega, by simp only; omega⟩, by simp only; omega⟩
      · have hk' : k = p.l.length := by simp at h2; omega
        subst hk'
        rw [List.drop_length] at hb hs2
        have e1 : cntI cs (d + 1) p = n := by
          have e2 : okP cs (d + 1) p = true := by rw [okP, hs, ← hb]; rfl
          have e3 : n = cntP (d + 1) p := by rw [cntP]; simpa using hs2
          rw [cntI, if_pos e2, e3]
        rw [e1]
        simp only [go_sem, List.getElem?_toArray, Nat.reduceBEq, Nat.reduceAdd, Nat.reduceSub, Nat.reduceMul, Nat.reduceLT, Nat.reduceLeDiff, Nat.reduceEqDiff, Nat.succ_ne_zero, reduceIte]
    simp [k1, k2, k3, k4, k5] at hs0
theorem iCount_spec (cs : List Int) (hc : cs.length ≤ 1048576) : ∀ (d : Nat) (p : DPred), d ≤ 4 → fitPred p → Ctr Tryz.prog 158 [.c (.sl (cs.map intC)), .agg p.c, .c (.v (.int .i64 (d)))] [.val (.c (.v (.int .i64 (cntI cs d p))))]
  | 0, p, _, _ => by
    refine Ctr.mk (fn := Tryz.f158) Tryz.call158 Tryz.func158 rfl mixed Tryz.ntmps158 Tryz.results158 (by kernel_rfl) rfl fun hw => ?_
    have e1 : cntI cs 0 p = -1 := by simp [cntI, okP]
    have h1 : decide (((0 : Nat) : Int) < 1) = true := by decide
    rw [e1]
    simp only [go_sem, List.getElem?_toArray, Nat.reduceBEq, Nat.reduceAdd, Nat.reduceSub, Nat.reduceMul, Nat.reduceLT, Nat.reduceLeDiff, Nat.reduceEqDiff, Nat.succ_ne_zero, reduceIte, List.length_map, h1]
  | d + 1, p, hd, hf => by
    rw [fitPred_eq] at hf
    exact iCount_of cs hc d p hd hf.2.1 fun x hx => iCount_spec cs hc d x (by omega) (hf.2.2 x hx)

end Go.Proofs.YtepjgnlinjlehaaGreat
