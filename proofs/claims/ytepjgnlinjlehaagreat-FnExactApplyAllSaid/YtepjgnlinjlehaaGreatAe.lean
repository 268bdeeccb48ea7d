/- Walks: whether a condition, and a question, is well formed. -/
import Derived.Test.YtepjgnlinjlehaaGreatAd
import Derived.Test.YtepjgnlinjlehaaGreatIa
namespace Go.Proofs.YtepjgnlinjlehaaGreat
set_option linter.unusedSimpArgs false
set_option linter.unusedVariables false
open Go.Vm
set_option maxHeartbeats 2000000
set_option maxRecDepth 10000

def bareP (p : DPred) : Bool := (p.col == 0) && ((p.op == 0) && ((p.v.ty == 0) && ((p.v.n == 0) && (p.v.s.toList == ByteArray.empty.toList))))
def cmpP (cs : List Int) (p : DPred) : Bool := inR p.col 0 ((cs.length : Int) - 1) && (inR p.op 1 6 && (valOk p.v && (p.v.ty == (cs[p.col.toNat]?).getD 0)))
def shapeP (cs : List Int) (p : DPred) : Bool :=
  if (p.kind == 1) = true then bareP p && ((p.l.length : Int) == 0) else
  if (p.kind == 2) = true then cmpP cs p && ((p.l.length : Int) == 0) else
  if (p.kind == 3) = true then bareP p && inR p.l.length 1 4 else
  if (p.kind == 4) = true then bareP p && inR p.l.length 1 4 else
  if (p.kind == 5) = true then bareP p && ((p.l.length : Int) == 1) else false
def okP (cs : List Int) : Nat → DPred → Bool
  | 0, _ => false
  | d + 1, p => (p.l.all fun q => okP cs d q) && shapeP cs p
def cntP : Nat → DPred → Nat
  | 0, _ => 0
  | d + 1, p => 1 + (p.l.map fun q => cntP d q).sum
theorem shape_len {cs : List Int} {p : DPred} (h : shapeP cs p = true) : p.l.length ≤ 4 := by
  unfold shapeP at h
  by_cases hl : p.l.length ≤ 4
  · exact hl
  have e1 : ((p.l.length : Int) == 0) = false := by simp; intro h0; simp [h0] at hl
  have e2 : inR p.l.length 1 4 = false := by simp [inR]; omega
  have e3 : ((p.l.length : Int) == 1) = false := by simp; omega
  rw [e1, e2, e3] at h
  repeat' split at h
  all_goals simp at h
theorem cntP_le {cs : List Int} : ∀ (d : Nat) (p : DPred), okP cs d p = true → 3 * cntP d p + 1 ≤ 4 ^ d
  | 0, p, h => by simp [okP] at h
  | d + 1, p, h => by
    rw [okP, Bool.and_eq_true] at h
    have hl := shape_len h.2
    have hs : ∀ l : List DPred, (l.all fun q => okP cs d q) = true → 3 * (l.map fun q => cntP d q).sum + l.length ≤ l.length * 4 ^ d := by
      intro l
      induction l with
      | nil => intro _; simp
      | cons x l ih =>
        intro hx
        rw [List.all_cons, Bool.and_eq_true] at hx
        have h1 := cntP_le d x hx.1
        have h2 := ih hx.2
        simp only [List.map_cons, List.sum_cons, List.length_cons, Nat.add_mul, Nat.one_mul]
        omega
    have h1 := hs p.l h.1
    have h2 : p.l.length * (4 ^ d - 1) ≤ 4 * (4 ^ d - 1) := Nat.mul_le_mul_right _ hl
    have h3 : 0 < 4 ^ d := Nat.pow_pos (by omega)
    rw [Nat.mul_sub, Nat.mul_sub] at h2
    rw [cntP, Nat.pow_succ]
    omega
theorem cntP_pos (d : Nat) (p : DPred) : 1 ≤ cntP (d + 1) p := by rw [cntP]; omega
theorem cnt_drop (d : Nat) (l : List DPred) {k : Nat} (h : k < l.length) : ((l.drop k).map fun q => cntP d q).sum = cntP d l[k] + ((l.drop (k + 1)).map fun q => cntP d q).sum := by
  rw [List.drop_eq_getElem_cons h]; rfl
theorem all_drop (cs : List Int) (d : Nat) (l : List DPred) {k : Nat} (h : k < l.length) : ((l.drop k).all fun q => okP cs d q) = (okP cs d l[k] && (l.drop (k + 1)).all fun q => okP cs d q) := by
  rw [List.drop_eq_getElem_cons h]; rfl
theorem sCount_spec (cs : List Int) : ∀ (d : Nat) (p : DPred), d ≤ 4 → fitPred p → okP cs d p = true → Ctr Tryz.prog 177 [.agg p.c] [.val (.c (.v (.int .i64 (cntP d p))))]
  | 0, p, _, _, h => by simp [okP] at h
  | d + 1, p, hd, hf, h => by
    have hcb := cntP_le _ p h
    have hpw : 4 ^ (d + 1) ≤ 4 ^ 4 := Nat.pow_le_pow_right (by omega) hd
    rw [okP, Bool.and_eq_true] at h
    rw [cntP] at hcb ⊢
    rw [fitPred_eq] at hf
    have hlen := hf.2.1
    refine Ctr.mk (fn := Tryz.f177) Tryz.call177 Tryz.func177 rfl mixed Tryz.ntmps177 Tryz.results177 (by kernel_rfl) rfl fun hw => ?_
    simp only [go_sem, List.getElem?_toArray, Nat.reduceBEq, Nat.reduceAdd, Nat.reduceSub, Nat.reduceMul, Nat.reduceLT, Nat.reduceLeDiff, Nat.reduceEqDiff, Nat.succ_ne_zero, reduceIte, List.length_map]
    refine LoopU.mk 1 (A := Nat × Nat) (fun x => [(3, .c (.v (.int .i64 (x.2)))), (4, .c (.v (.int .i64 (x.1))))]) (fun _ => [⟨50, 7, [[.v (.int .i64 p.kind), .v (.int .i64 p.col), .v (.int .i64 p.op), .v (.int .i64 p.v.ty), .v (.int .i64 p.v.n), .v (.string p.v.s), .sl (p.l.map DPred.c)]], true, true⟩]) (fun x => x.1 ≤ p.l.length ∧ x.2 + ((p.l.drop x.1).map fun q => cntP d q).sum = 1 + (p.l.map fun q => cntP d q).sum) (fun x => p.l.length - x.1) (0, 1) ⟨⟨rfl, rfl⟩, rfl, Nat.zero_le _, rfl⟩ ?_
    rintro ⟨k, n⟩ ⟨hk, hb⟩
    dsimp only at hk hb
    simp only [go_sem, List.getElem?_toArray, Nat.reduceBEq, Nat.reduceAdd, Nat.reduceSub, Nat.reduceMul, Nat.reduceLT, Nat.reduceLeDiff, Nat.reduceEqDiff, Nat.succ_ne_zero, reduceIte, List.length_map]
    refine cndC.mk (fun h2 => ?_) (fun h2 => ?_)
    · have hk' : k < p.l.length := by simpa using h2
      have hok : okP cs d p.l[k] = true := List.all_eq_true.1 h.1 _ (List.getElem_mem hk')
      rw [cnt_drop d p.l hk'] at hb
      have hw1 : IntKind.i64.wrap ((n : Int) + (cntP d p.l[k] : Int)) = ((n + cntP d p.l[k] : Nat) : Int) := by rw [wrap_i64 (by omega) (by omega)]; omega
      simp only [go_sem, List.getElem?_toArray, Nat.reduceBEq, Nat.reduceAdd, Nat.reduceSub, Nat.reduceMul, Nat.reduceLT, Nat.reduceLeDiff, Nat.reduceEqDiff, Nat.succ_ne_zero, reduceIte, List.length_map, map_at _ hk', hk']
      try refine DrawK.mk ?_
      try simp only [go_sem, List.getElem?_toArray, Nat.reduceBEq, Nat.reduceAdd, Nat.reduceSub, Nat.reduceMul, Nat.reduceLT, Nat.reduceLeDiff, Nat.reduceEqDiff, Nat.succ_ne_zero, reduceIte, List.length_map, map_at _ hk', hk']
      first | refine CallF.mk _ (by simpa only [go_sem] using sCount_spec cs d p.l[k] (by omega) (hf.2.2 _ (List.getElem_mem hk')) hok) ?_ | refine CallK.mk _ (by simpa only [go_sem] using sCount_spec cs d p.l[k] (by omega) (hf.2.2 _ (List.getElem_mem hk')) hok) fun _ => ?_
      simp only [go_sem, List.getElem?_toArray, Nat.reduceBEq, Nat.reduceAdd, Nat.reduceSub, Nat.reduceMul, Nat.reduceLT, Nat.reduceLeDiff, Nat.reduceEqDiff, Nat.succ_ne_zero, reduceIte, List.length_map, hw1, wrap_i64 (n := (k : Int) + 1) (by omega) (by omega)]
      exact ⟨(k + 1, n + cntP d p.l[k]), ⟨rfl, rfl⟩, rfl, ⟨by omega, by simp only; omega⟩, by simp only; omega⟩
    · have hk' : k = p.l.length := by simp at h2; omega
      subst hk'
      rw [List.drop_length] at hb
      have : n = 1 + (p.l.map fun q => cntP d q).sum := by simpa using hb
      subst this
      simp only [go_sem, List.getElem?_toArray, Nat.reduceBEq, Nat.reduceAdd, Nat.reduceSub, Nat.reduceMul, Nat.reduceLT, Nat.reduceLeDiff, Nat.reduceEqDiff, Nat.succ_ne_zero, reduceIte]
theorem sDeep_spec (cs : List Int) (hc : cs.length ≤ 1048576) : ∀ (d : Nat) (e : Int) (p : DPred), e + d = 5 → d ≤ 4 → fitPred p → Ctr Tryz.prog 176 [.c (.sl (cs.map intC)), .agg p.c, .c (.v (.int .i64 (e)))] [.val (.c (.v (.bool (okP cs d p))))]
  | 0, e, p, he, _, _ => by
    refine Ctr.mk (fn := Tryz.f176) Tryz.call176 Tryz.func176 rfl mixed Tryz.ntmps176 Tryz.results176 (by kernel_rfl) rfl fun hw => ?_
    have h1 : decide (e > 4) = true := by simp; omega
    simp only [go_sem, List.getElem?_toArray, Nat.reduceBEq, Nat.reduceAdd, Nat.reduceSub, Nat.reduceMul, Nat.reduceLT, Nat.reduceLeDiff, Nat.reduceEqDiff, Nat.succ_ne_zero, reduceIte, List.length_map, h1, okP]
  | d + 1, e, p, he, hd, hf => by
    rw [fitPred_eq] at hf
    have hlen := hf.2.1
    rw [okP]
    refine Ctr.mk (fn := Tryz.f176) Tryz.call176 Tryz.func176 rfl mixed Tryz.ntmps176 Tryz.results176 (by kernel_rfl) rfl fun hw => ?_
    have h1 : decide (e > 4) = false := by simp; omega
    simp only [go_sem, List.getElem?_toArray, Nat.reduceBEq, Nat.reduceAdd, Nat.reduceSub, Nat.reduceMul, Nat.reduceLT, Nat.reduceLeDiff, Nat.reduceEqDiff, Nat.succ_ne_zero, reduceIte, List.length_map, h1]
    refine LoopU.mk 1 (A := Nat) (fun k => [(7, .c (.v (.int .i64 (k))))]) (fun _ => [⟨50, 7, [[.v (.int .i64 p.kind), .v (.int .i64 p.col), .v (.int .i64 p.op), .v (.int .i64 p.v.ty), .v (.int .i64 p.v.n), .v (.string p.v.s), .sl (p.l.map DPred.c)]], true, true⟩]) (fun k => k ≤ p.l.length ∧ ((p.l.drop k).all fun q => okP cs d q) = (p.l.all fun q => okP cs d q)) (fun k => p.l.length - k) 0 ⟨⟨rfl, rfl⟩, rfl, Nat.zero_le _, rfl⟩ ?_
    rintro k ⟨hk, hb⟩
    simp only [go_sem, List.getElem?_toArray, Nat.reduceBEq, Nat.reduceAdd, Nat.reduceSub, Nat.reduceMul, Nat.reduceLT, Nat.reduceLeDiff, Nat.reduceEqDiff, Nat.succ_ne_zero, reduceIte, List.length_map]
    refine cndC.mk (fun h2 => ?_) (fun h2 => ?_)
    · have hk' : k < p.l.length := by simpa using h2
      rw [all_drop cs d p.l hk'] at hb
      simp only [go_sem, List.getElem?_toArray, Nat.reduceBEq, Nat.reduceAdd, Nat.reduceSub, Nat.reduceMul, Nat.reduceLT, Nat.reduceLeDiff, Nat.reduceEqDiff, Nat.succ_ne_zero, reduceIte, List.length_map, map_at _ hk', hk', wrap_i64 (n := e + 1) (by omega) (by omega)]
      try refine DrawK.mk ?_
      try simp only [go_sem, List.getElem?_toArray, Nat.reduceBEq, Nat.reduceAdd, Nat.reduceSub, Nat.reduceMul, Nat.reduceLT, Nat.reduceLeDiff, Nat.reduceEqDiff, Nat.succ_ne_zero, reduceIte, List.length_map, map_at _ hk', hk', wrap_i64 (n := e + 1) (by omega) (by omega)]
      first | refine CallF.mk _ (by simpa only [go_sem] using sDeep_spec cs hc d (e + 1) p.l[k] (by omega) (by omega) (hf.2.2 _ (List.getElem_mem hk'))) ?_ | refine CallK.mk _ (by simpa only [go_sem] using sDeep_spec cs hc d (e + 1) p.l[k] (by omega) (by omega) (hf.2.2 _ (List.getElem_mem hk'))) fun _ => ?_
      rcases hv : okP cs d p.l[k] with _ | _
      · rw [hv, Bool.false_and] at hb
        simp only [go_sem, List.getElem?_toArray, Nat.reduceBEq, Nat.reduceAdd, Nat.reduceSub, Nat.reduceMul, Nat.reduceLT, Nat.reduceLeDiff, Nat.reduceEqDiff, Nat.succ_ne_zero, reduceIte, hv]
        rw [← hb, Bool.false_and]
      · rw [hv, Bool.true_and] at hb
        simp only [go_sem, List.getElem?_toArray, Nat.reduceBEq, Nat.reduceAdd, Nat.reduceSub, Nat.reduceMul, Nat.reduceLT, Nat.reduceLeDiff, Nat.reduceEqDiff, Nat.succ_ne_zero, reduceIte, hv, wrap_i64 (n := (k : Int) + 1) (by omega) (by omega)]
        exact ⟨k + 1, ⟨rfl, rfl⟩, rfl, ⟨by omega, hb⟩, by omega⟩
    · have hk' : k = p.l.length := by simp at h2; omega
      rw [hk', List.drop_length, List.all_nil] at hb
      rw [← hb, Bool.true_and]
      clear hb
      have hin : inR p.col 0 ((cs.length : Int) - 1) = true → ∃ m : Nat, p.col = m ∧ m < cs.length := by
        intro hh
        simp [inR] at hh
        exact ⟨p.col.toNat, by omega, by omega⟩
      have hwl : IntKind.i64.wrap ((cs.length : Int) - 1) = (cs.length : Int) - 1 := wrap_i64 (by omega) (by omega)
      rcases k2 : (p.kind == 2) with _ | _
      · rcases k1 : (p.kind == 1) with _ | _
        · rcases k3 : (p.kind == 3) with _ | _
          · rcases k4 : (p.kind == 4) with _ | _
            · rcases k5 : (p.kind == 5) with _ | _
              · have hsh : shapeP cs p = false := by simp [shapeP, k1, k2, k3, k4, k5]
                rw [hsh]
                rcases hA : (p.col == 0) with _ | _
                · simp only [go_sem, List.getElem?_toArray, Nat.reduceBEq, Nat.reduceAdd, Nat.reduceSub, Nat.reduceMul, Nat.reduceLT, Nat.reduceLeDiff, Nat.reduceEqDiff, Nat.succ_ne_zero, reduceIte, List.length_map, hA, k1, k2, k3, k4, k5]
                rcases hB : (p.op == 0) with _ | _
                · simp only [go_sem, List.getElem?_toArray, Nat.reduceBEq, Nat.reduceAdd, Nat.reduceSub, Nat.reduceMul, Nat.reduceLT, Nat.reduceLeDiff, Nat.reduceEqDiff, Nat.succ_ne_zero, reduceIte, List.length_map, hA, hB, k1, k2, k3, k4, k5]
                simp only [go_sem, List.getElem?_toArray, Nat.reduceBEq, Nat.reduceAdd, Nat.reduceSub, Nat.reduceMul, Nat.reduceLT, Nat.reduceLeDiff, Nat.reduceEqDiff, Nat.succ_ne_zero, reduceIte, List.length_map, hA, hB, k1, k2, k3, k4, k5, eqBy, eq1]
              · have hsh : shapeP cs p = (bareP p && ((p.l.length : Int) == 1)) := by simp [shapeP, k1, k2, k3, k4, k5]
                rw [hsh]
                rcases hA : (p.col == 0) with _ | _
                · simp only [go_sem, List.getElem?_toArray, Nat.reduceBEq, Nat.reduceAdd, Nat.reduceSub, Nat.reduceMul, Nat.reduceLT, Nat.reduceLeDiff, Nat.reduceEqDiff, Nat.succ_ne_zero, reduceIte, List.length_map, hA, k1, k2, k3, k4, k5, bareP, Bool.false_and]
                rcases hB : (p.op == 0) with _ | _
                · simp only [go_sem, List.getElem?_toArray, Nat.reduceBEq, Nat.reduceAdd, Nat.reduceSub, Nat.reduceMul, Nat.reduceLT, Nat.reduceLeDiff, Nat.reduceEqDiff, Nat.succ_ne_zero, reduceIte, List.length_map, hA, hB, k1, k2, k3, k4, k5, bareP, Bool.false_and, Bool.and_false]
                rcases hE : ((p.v.ty == 0) && ((p.v.n == 0) && (p.v.s.toList == ByteArray.empty.toList))) with _ | _
                all_goals simp only [go_sem, List.getElem?_toArray, Nat.reduceBEq, Nat.reduceAdd, Nat.reduceSub, Nat.reduceMul, Nat.reduceLT, Nat.reduceLeDiff, Nat.reduceEqDiff, Nat.succ_ne_zero, reduceIte, List.length_map, hA, hB, hE, k1, k2, k3, k4, k5, eqBy, eq1, bareP, Bool.true_and, Bool.false_and]
            · have hsh : shapeP cs p = (bareP p && inR p.l.length 1 4) := by simp [shapeP, k1, k2, k3, k4]
              rw [hsh]
              rcases hA : (p.col == 0) with _ | _
              · simp only [go_sem, List.getElem?_toArray, Nat.reduceBEq, Nat.reduceAdd, Nat.reduceSub, Nat.reduceMul, Nat.reduceLT, Nat.reduceLeDiff, Nat.reduceEqDiff, Nat.succ_ne_zero, reduceIte, List.length_map, hA, k1, k2, k3, k4, bareP, Bool.false_and]
              rcases hB : (p.op == 0) with _ | _
              · simp only [go_sem, List.getElem?_toArray, Nat.reduceBEq, Nat.reduceAdd, Nat.reduceSub, Nat.reduceMul, Nat.reduceLT, Nat.reduceLeDiff, Nat.reduceEqDiff, Nat.succ_ne_zero, reduceIte, List.length_map, hA, hB, k1, k2, k3, k4, bareP, Bool.false_and, Bool.and_false]
              rcases hE : ((p.v.ty == 0) && ((p.v.n == 0) && (p.v.s.toList == ByteArray.empty.toList))) with _ | _
              · simp only [go_sem, List.getElem?_toArray, Nat.reduceBEq, Nat.reduceAdd, Nat.reduceSub, Nat.reduceMul, Nat.reduceLT, Nat.reduceLeDiff, Nat.reduceEqDiff, Nat.succ_ne_zero, reduceIte, List.length_map, hA, hB, hE, k1, k2, k3, k4, eqBy, eq1, bareP, Bool.true_and, Bool.false_and]
              · simp only [go_sem, List.getElem?_toArray, Nat.reduceBEq, Nat.reduceAdd, Nat.reduceSub, Nat.reduceMul, Nat.reduceLT, Nat.reduceLeDiff, Nat.reduceEqDiff, Nat.succ_ne_zero, reduceIte, List.length_map, hA, hB, hE, k1, k2, k3, k4, eqBy, eq1, bareP, Bool.true_and, Bool.false_and]
                refine CallK.mk _ (l1In_spec p.l.length 1 4) fun _ => ?_
                simp only [go_sem, List.getElem?_toArray, Nat.reduceBEq, Nat.reduceAdd, Nat.reduceSub, Nat.reduceMul, Nat.reduceLT, Nat.reduceLeDiff, Nat.reduceEqDiff, Nat.succ_ne_zero, reduceIte, List.length_map, hA, hB, hE, k1, k2, k3, k4, eqBy, eq1, bareP, Bool.true_and, Bool.false_and]
          · have hsh : shapeP cs p = (bareP p && inR p.l.length 1 4) := by simp [shapeP, k1, k2, k3]
            rw [hsh]
            rcases hA : (p.col == 0) with _ | _
            · simp only [go_sem, List.getElem?_toArray, Nat.reduceBEq, Nat.reduceAdd, Nat.reduceSub, Nat.reduceMul, Nat.reduceLT, Nat.reduceLeDiff, Nat.reduceEqDiff, Nat.succ_ne_zero, reduceIte, List.length_map, hA, k1, k2, k3, bareP, Bool.false_and]
            rcases hB : (p.op == 0) with _ | _
            · simp only [go_sem, List.getElem?_toArray, Nat.reduceBEq, Nat.reduceAdd, Nat.reduceSub, Nat.reduceMul, Nat.reduceLT, Nat.reduceLeDiff, Nat.reduceEqDiff, Nat.succ_ne_zero, reduceIte, List.length_map, hA, hB, k1, k2, k3, bareP, Bool.false_and, Bool.and_false]
            rcases hE : ((p.v.ty == 0) && ((p.v.n == 0) && (p.v.s.toList == ByteArray.empty.toList))) with _ | _
            · simp only [go_sem, List.getElem?_toArray, Nat.reduceBEq, Nat.reduceAdd, Nat.reduceSub, Nat.reduceMul, Nat.reduceLT, Nat.reduceLeDiff, Nat.reduceEqDiff, Nat.succ_ne_zero, reduceIte, List.length_map, hA, hB, hE, k1, k2, k3, eqBy, eq1, bareP, Bool.true_and, Bool.false_and]
            · simp only [go_sem, List.getElem?_toArray, Nat.reduceBEq, Nat.reduceAdd, Nat.reduceSub, Nat.reduceMul, Nat.reduceLT, Nat.reduceLeDiff, Nat.reduceEqDiff, Nat.succ_ne_zero, reduceIte, List.length_map, hA, hB, hE, k1, k2, k3, eqBy, eq1, bareP, Bool.true_and, Bool.false_and]
              refine CallK.mk _ (l1In_spec p.l.length 1 4) fun _ => ?_
              simp only [go_sem, List.getElem?_toArray, Nat.reduceBEq, Nat.reduceAdd, Nat.reduceSub, Nat.reduceMul, Nat.reduceLT, Nat.reduceLeDiff, Nat.reduceEqDiff, Nat.succ_ne_zero, reduceIte, List.length_map, hA, hB, hE, k1, k2, k3, eqBy, eq1, bareP, Bool.true_and, Bool.false_and]
        · have hsh : shapeP cs p = (bareP p && ((p.l.length : Int) == 0)) := by simp [shapeP, k1]
          rw [hsh]
          rcases hA : (p.col == 0) with _ | _
          · simp only [go_sem, List.getElem?_toArray, Nat.reduceBEq, Nat.reduceAdd, Nat.reduceSub, Nat.reduceMul, Nat.reduceLT, Nat.reduceLeDiff, Nat.reduceEqDiff, Nat.succ_ne_zero, reduceIte, List.length_map, hA, k1, bareP, Bool.false_and]
          rcases hB : (p.op == 0) with _ | _
          · simp only [go_sem, List.getElem?_toArray, Nat.reduceBEq, Nat.reduceAdd, Nat.reduceSub, Nat.reduceMul, Nat.reduceLT, Nat.reduceLeDiff, Nat.reduceEqDiff, Nat.succ_ne_zero, reduceIte, List.length_map, hA, hB, k1, bareP, Bool.false_and, Bool.and_false]
          rcases hE : ((p.v.ty == 0) && ((p.v.n == 0) && (p.v.s.toList == ByteArray.empty.toList))) with _ | _
          all_goals simp only [go_sem, List.getElem?_toArray, Nat.reduceBEq, Nat.reduceAdd, Nat.reduceSub, Nat.reduceMul, Nat.reduceLT, Nat.reduceLeDiff, Nat.reduceEqDiff, Nat.succ_ne_zero, reduceIte, List.length_map, hA, hB, hE, k1, eqBy, eq1, bareP, Bool.true_and, Bool.false_and]
      · have k1 : (p.kind == 1) = false := by simp at k2 ⊢; omega
        have hsh : shapeP cs p = (cmpP cs p && ((p.l.length : Int) == 0)) := by simp [shapeP, k1, k2]
        rw [hsh]
        rcases hA : (p.col == 0) with _ | _
        · simp only [go_sem, List.getElem?_toArray, Nat.reduceBEq, Nat.reduceAdd, Nat.reduceSub, Nat.reduceMul, Nat.reduceLT, Nat.reduceLeDiff, Nat.reduceEqDiff, Nat.succ_ne_zero, reduceIte, List.length_map, hA, k1, k2, hwl, eqBy, eq1]
          refine DrawK.mk ?_
          simp only [go_sem, List.getElem?_toArray, Nat.reduceBEq, Nat.reduceAdd, Nat.reduceSub, Nat.reduceMul, Nat.reduceLT, Nat.reduceLeDiff, Nat.reduceEqDiff, Nat.succ_ne_zero, reduceIte, List.length_map, hA, k1, k2, hwl]
          refine CallF.mk _ (l1In_spec p.col 0 _) ?_
          rcases c1 : inR p.col 0 ((cs.length : Int) - 1) with _ | _
          · simp only [go_sem, List.getElem?_toArray, Nat.reduceBEq, Nat.reduceAdd, Nat.reduceSub, Nat.reduceMul, Nat.reduceLT, Nat.reduceLeDiff, Nat.reduceEqDiff, Nat.succ_ne_zero, reduceIte, List.length_map, k1, k2, c1, cmpP, Bool.false_and]
          obtain ⟨m, hm, hml⟩ := hin c1
          have hgm : (cs[p.col.toNat]?).getD 0 = cs[m] := by rw [hm]; simp [hml]
          have c1' := c1
          rw [hm] at c1'
          simp only [go_sem, List.getElem?_toArray, Nat.reduceBEq, Nat.reduceAdd, Nat.reduceSub, Nat.reduceMul, Nat.reduceLT, Nat.reduceLeDiff, Nat.reduceEqDiff, Nat.succ_ne_zero, reduceIte, List.length_map, k1, k2, c1]
          refine CallF.mk _ (by simpa only [go_sem] using sValOk_spec p.v) ?_
          rcases c2 : valOk p.v with _ | _
          · simp only [go_sem, List.getElem?_toArray, Nat.reduceBEq, Nat.reduceAdd, Nat.reduceSub, Nat.reduceMul, Nat.reduceLT, Nat.reduceLeDiff, Nat.reduceEqDiff, Nat.succ_ne_zero, reduceIte, List.length_map, k1, k2, c1, c2, cmpP, Bool.false_and, Bool.and_false]
          rcases c3 : (p.v.ty == cs[m]) with _ | _
          · simp only [go_sem, List.getElem?_toArray, Nat.reduceBEq, Nat.reduceAdd, Nat.reduceSub, Nat.reduceMul, Nat.reduceLT, Nat.reduceLeDiff, Nat.reduceEqDiff, Nat.succ_ne_zero, reduceIte, List.length_map, k1, k2, c1, c2, c3, hm, map_at _ hml, hml, cmpP, Bool.false_and, Bool.and_false]
            try simp [cmpP, hgm, c1, c2, c3, hm, hml]
          simp only [go_sem, List.getElem?_toArray, Nat.reduceBEq, Nat.reduceAdd, Nat.reduceSub, Nat.reduceMul, Nat.reduceLT, Nat.reduceLeDiff, Nat.reduceEqDiff, Nat.succ_ne_zero, reduceIte, List.length_map, k1, k2, c1, c2, c3, hm, map_at _ hml, hml]
          refine CallF.mk _ (l1In_spec p.op 1 6) ?_
          rcases c4 : inR p.op 1 6 with _ | _
          · simp only [go_sem, List.getElem?_toArray, Nat.reduceBEq, Nat.reduceAdd, Nat.reduceSub, Nat.reduceMul, Nat.reduceLT, Nat.reduceLeDiff, Nat.reduceEqDiff, Nat.succ_ne_zero, reduceIte, List.length_map, k1, k2, c1, c2, c3, c4, hm, map_at _ hml, hml, cmpP, Bool.false_and, Bool.and_false]
            try simp [cmpP, hgm, c1, c2, c3, c4, hm, hml]
          · simp only [go_sem, List.getElem?_toArray, Nat.reduceBEq, Nat.reduceAdd, Nat.reduceSub, Nat.reduceMul, Nat.reduceLT, Nat.reduceLeDiff, Nat.reduceEqDiff, Nat.succ_ne_zero, reduceIte, List.length_map, k1, k2, c1, c2, c3, c4, hm, map_at _ hml, hml]
            try simp [cmpP, hgm, c1, c1', c2, c3, c4, hm, hml]
        rcases hB : (p.op == 0) with _ | _
        · simp only [go_sem, List.getElem?_toArray, Nat.reduceBEq, Nat.reduceAdd, Nat.reduceSub, Nat.reduceMul, Nat.reduceLT, Nat.reduceLeDiff, Nat.reduceEqDiff, Nat.succ_ne_zero, reduceIte, List.length_map, hA, hB, k1, k2, hwl, eqBy, eq1]
          refine DrawK.mk ?_
          simp only [go_sem, List.getElem?_toArray, Nat.reduceBEq, Nat.reduceAdd, Nat.reduceSub, Nat.reduceMul, Nat.reduceLT, Nat.reduceLeDiff, Nat.reduceEqDiff, Nat.succ_ne_zero, reduceIte, List.length_map, hA, hB, k1, k2, hwl]
          refine CallF.mk _ (l1In_spec p.col 0 _) ?_
          rcases c1 : inR p.col 0 ((cs.length : Int) - 1) with _ | _
          · simp only [go_sem, List.getElem?_toArray, Nat.reduceBEq, Nat.reduceAdd, Nat.reduceSub, Nat.reduceMul, Nat.reduceLT, Nat.reduceLeDiff, Nat.reduceEqDiff, Nat.succ_ne_zero, reduceIte, List.length_map, k1, k2, c1, cmpP, Bool.false_and]
          obtain ⟨m, hm, hml⟩ := hin c1
          have hgm : (cs[p.col.toNat]?).getD 0 = cs[m] := by rw [hm]; simp [hml]
          have c1' := c1
          rw [hm] at c1'
          simp only [go_sem, List.getElem?_toArray, Nat.reduceBEq, Nat.reduceAdd, Nat.reduceSub, Nat.reduceMul, Nat.reduceLT, Nat.reduceLeDiff, Nat.reduceEqDiff, Nat.succ_ne_zero, reduceIte, List.length_map, k1, k2, c1]
          refine CallF.mk _ (by simpa only [go_sem] using sValOk_spec p.v) ?_
          rcases c2 : valOk p.v with _ | _
          · simp only [go_sem, List.getElem?_toArray, Nat.reduceBEq, Nat.reduceAdd, Nat.reduceSub, Nat.reduceMul, Nat.reduceLT, Nat.reduceLeDiff, Nat.reduceEqDiff, Nat.succ_ne_zero, reduceIte, List.length_map, k1, k2, c1, c2, cmpP, Bool.false_and, Bool.and_false]
          rcases c3 : (p.v.ty == cs[m]) with _ | _
          · simp only [go_sem, List.getElem?_toArray, Nat.reduceBEq, Nat.reduceAdd, Nat.reduceSub, Nat.reduceMul, Nat.reduceLT, Nat.reduceLeDiff, Nat.reduceEqDiff, Nat.succ_ne_zero, reduceIte, List.length_map, k1, k2, c1, c2, c3, hm, map_at _ hml, hml, cmpP, Bool.false_and, Bool.and_false]
            try simp [cmpP, hgm, c1, c2, c3, hm, hml]
          simp only [go_sem, List.getElem?_toArray, Nat.reduceBEq, Nat.reduceAdd, Nat.reduceSub, Nat.reduceMul, Nat.reduceLT, Nat.reduceLeDiff, Nat.reduceEqDiff, Nat.succ_ne_zero, reduceIte, List.length_map, k1, k2, c1, c2, c3, hm, map_at _ hml, hml]
          refine CallF.mk _ (l1In_spec p.op 1 6) ?_
          rcases c4 : inR p.op 1 6 with _ | _
          · simp only [go_sem, List.getElem?_toArray, Nat.reduceBEq, Nat.reduceAdd, Nat.reduceSub, Nat.reduceMul, Nat.reduceLT, Nat.reduceLeDiff, Nat.reduceEqDiff, Nat.succ_ne_zero, reduceIte, List.length_map, k1, k2, c1, c2, c3, c4, hm, map_at _ hml, hml, cmpP, Bool.false_and, Bool.and_false]
            try simp [cmpP, hgm, c1, c2, c3, c4, hm, hml]
          · simp only [go_sem, List.getElem?_toArray, Nat.reduceBEq, Nat.reduceAdd, Nat.reduceSub, Nat.reduceMul, Nat.reduceLT, Nat.reduceLeDiff, Nat.reduceEqDiff, Nat.succ_ne_zero, reduceIte, List.length_map, k1, k2, c1, c2, c3, c4, hm, map_at _ hml, hml]
            try simp [cmpP, hgm, c1, c1', c2, c3, c4, hm, hml]
        simp only [go_sem, List.getElem?_toArray, Nat.reduceBEq, Nat.reduceAdd, Nat.reduceSub, Nat.reduceMul, Nat.reduceLT, Nat.reduceLeDiff, Nat.reduceEqDiff, Nat.succ_ne_zero, reduceIte, List.length_map, hA, hB, k1, k2, hwl, eqBy, eq1]
        refine DrawK.mk ?_
        simp only [go_sem, List.getElem?_toArray, Nat.reduceBEq, Nat.reduceAdd, Nat.reduceSub, Nat.reduceMul, Nat.reduceLT, Nat.reduceLeDiff, Nat.reduceEqDiff, Nat.succ_ne_zero, reduceIte, List.length_map, hA, hB, k1, k2, hwl]
        refine CallF.mk _ (l1In_spec p.col 0 _) ?_
        rcases c1 : inR p.col 0 ((cs.length : Int) - 1) with _ | _
        · simp only [go_sem, List.getElem?_toArray, Nat.reduceBEq, Nat.reduceAdd, Nat.reduceSub, Nat.reduceMul, Nat.reduceLT, Nat.reduceLeDiff, Nat.reduceEqDiff, Nat.succ_ne_zero, reduceIte, List.length_map, k1, k2, c1, cmpP, Bool.false_and]
        obtain ⟨m, hm, hml⟩ := hin c1
        have hgm : (cs[p.col.toNat]?).getD 0 = cs[m] := by rw [hm]; simp [hml]
        have c1' := c1
        rw [hm] at c1'
        simp only [go_sem, List.getElem?_toArray, Nat.reduceBEq, Nat.reduceAdd, Nat.reduceSub, Nat.reduceMul, Nat.reduceLT, Nat.reduceLeDiff, Nat.reduceEqDiff, Nat.succ_ne_zero, reduceIte, List.length_map, k1, k2, c1]
        refine CallF.mk _ (by simpa only [go_sem] using sValOk_spec p.v) ?_
        rcases c2 : valOk p.v with _ | _
        · simp only [go_sem, List.getElem?_toArray, Nat.reduceBEq, Nat.reduceAdd, Nat.reduceSub, Nat.reduceMul, Nat.reduceLT, Nat.reduceLeDiff, Nat.reduceEqDiff, Nat.succ_ne_zero, reduceIte, List.length_map, k1, k2, c1, c2, cmpP, Bool.false_and, Bool.and_false]
        rcases c3 : (p.v.ty == cs[m]) with _ | _
        · simp only [go_sem, List.getElem?_toArray, Nat.reduceBEq, Nat.reduceAdd, Nat.reduceSub, Nat.reduceMul, Nat.reduceLT, Nat.reduceLeDiff, Nat.reduceEqDiff, Nat.succ_ne_zero, reduceIte, List.length_map, k1, k2, c1, c2, c3, hm, map_at _ hml, hml, cmpP, Bool.false_and, Bool.and_false]
          try simp [cmpP, hgm, c1, c2, c3, hm, hml]
        simp only [go_sem, List.getElem?_toArray, Nat.reduceBEq, Nat.reduceAdd, Nat.reduceSub, Nat.reduceMul, Nat.reduceLT, Nat.reduceLeDiff, Nat.reduceEqDiff, Nat.succ_ne_zero, reduceIte, List.length_map, k1, k2, c1, c2, c3, hm, map_at _ hml, hml]
        refine CallF.mk _ (l1In_spec p.op 1 6) ?_
        rcases c4 : inR p.op 1 6 with _ | _
        · simp only [go_sem, List.getElem?_toArray, Nat.reduceBEq, Nat.reduceAdd, Nat.reduceSub, Nat.reduceMul, Nat.reduceLT, Nat.reduceLeDiff, Nat.reduceEqDiff, Nat.succ_ne_zero, reduceIte, List.length_map, k1, k2, c1, c2, c3, c4, hm, map_at _ hml, hml, cmpP, Bool.false_and, Bool.and_false]
          try simp [cmpP, hgm, c1, c2, c3, c4, hm, hml]
        · simp only [go_sem, List.getElem?_toArray, Nat.reduceBEq, Nat.reduceAdd, Nat.reduceSub, Nat.reduceMul, Nat.reduceLT, Nat.reduceLeDiff, Nat.reduceEqDiff, Nat.succ_ne_zero, reduceIte, List.length_map, k1, k2, c1, c2, c3, c4, hm, map_at _ hml, hml]
          try simp [cmpP, hgm, c1, c1', c2, c3, c4, hm, hml]

end Go.Proofs.YtepjgnlinjlehaaGreat
