/- The laws' marks of structs: by program (gen_data.py). -/
import Derived.Test.YtepjgnlinjlehaaGreatBb
namespace Go.Proofs.YtepjgnlinjlehaaGreat
set_option linter.unusedSimpArgs false
set_option linter.unusedVariables false
open Go.Vm

set_option maxHeartbeats 2000000
set_option maxRecDepth 10000
def MkTable (d : DTable) (k l : Int) (cl' : List Cl) (rs : List AV) : Prop := ∃ (R0 R1 : List (List Cl)) (k' : Int), cl' = [.ow 3 1 R0, .ow 113 2 R1] ∧ rs = [.c (.v (.int .i64 k'))] ∧ k ≤ k' ∧ k' + 64 * szTable d l ≤ k + 64 * l ∧ cloE R0 = true ∧ cloE R1 = true
theorem markTable_sp (d : DTable) (k : Int) (hk : 0 ≤ k) (l : Int) (h0 : 0 ≤ szTable d l) (hl : l ≤ 1048576) (hb : k + 64 * l ≤ 1099511627776) : MCtr Tryz.prog 14 true d.o [.c (.v (.int .i64 k))] (MkTable d k l) := by
  have d1 := h0
  rw [szTable_eq] at d1
  obtain ⟨a1_0, b1_0, e1_0⟩ := sq_fit d1
  have w1_0 := (szI_fit a1_0 (by omega)).2
  obtain ⟨a1_1, b1_1, e1_1⟩ := sq_fit b1_0
  have w1_1 := (szS_fit d.l (fun x _ => szRow_fit x) a1_1 (by omega)).2
  have eq1 : szTable d l = (szS szRow d.l (szI d.cols.length l)) := (szTable_eq d l).trans ((e1_0).trans (e1_1))
  refine MCtr.mk (fn := Tryz.f14) Tryz.call14 Tryz.func14 rfl mixed Tryz.ntmps14 Tryz.results14 (by kernel_rfl) rfl (.inl rfl) fun us hw0 hw => ?_
  simp only [go_sem, Nat.reduceAdd, Nat.reduceSub, Nat.reduceMul, Nat.reduceLT, Nat.reduceLeDiff, Nat.reduceEqDiff, Nat.succ_ne_zero, reduceIte]
  refine MutK.mk false (zs := [.ref 0]) (markIntS_sp d.cols (k) (by omega) l a1_0 (by omega) (by omega)) rfl ⟨rfl, rfl, rfl, rfl, nr_int _, by simp, trivial⟩ rfl (.inr rfl) fun cl' rs hM => ?_
  obtain ⟨R0, m0, rfl, rfl, g0_1, g0_2, g0_3⟩ := hM
  refine ⟨⟨rfl, ⟨rfl, rfl⟩, trivial⟩, ?_⟩
  simp only [go_sem, Nat.reduceAdd, Nat.reduceSub, Nat.reduceMul, Nat.reduceLT, Nat.reduceLeDiff, Nat.reduceEqDiff, Nat.succ_ne_zero, reduceIte]
  refine MutK.mk false (zs := [.ref 1]) (markRowS_sp d.l (m0) (by omega) (szI d.cols.length l) a1_1 (by omega) (by omega)) rfl ⟨rfl, rfl, rfl, rfl, nr_Row _, by simp, trivial⟩ rfl (.inr rfl) fun cl' rs hM => ?_
  obtain ⟨R1, m1, rfl, rfl, g1_1, g1_2, g1_3⟩ := hM
  refine ⟨⟨rfl, ⟨rfl, rfl⟩, trivial⟩, ?_⟩
  simp only [go_sem, Nat.reduceAdd, Nat.reduceSub, Nat.reduceMul, Nat.reduceLT, Nat.reduceLeDiff, Nat.reduceEqDiff, Nat.succ_ne_zero, reduceIte]
  exact ⟨[.ref 0, .ref 1], [.ow 3 1 R0, .ow 113 2 R1], [.c (.v (.int .i64 m1))], rfl, .inl rfl, ⟨rfl, rfl, rfl, rfl, cloE_nr g0_3, by simp, rfl, rfl, rfl, rfl, cloE_nr g1_3, by simp, trivial⟩, by simp only [cloL, cloC, Bool.and_true, Bool.true_and, g0_3, g1_3], rfl, rfl, R0, R1, m1, rfl, rfl, by omega, by omega, g0_3, g1_3⟩
def MkPred (d : DPred) (k l : Int) (cl' : List Cl) (rs : List AV) : Prop := ∃ (R0 : List (List Cl)) (k' : Int), cl' = [.v (.int .i64 d.kind), .v (.int .i64 d.col), .v (.int .i64 d.op), .v (.int .i64 d.v.ty), .v (.int .i64 d.v.n), .v (.string d.v.s), .ow 50 7 R0] ∧ rs = [.c (.v (.int .i64 k'))] ∧ k ≤ k' ∧ k' + 64 * szPred d l ≤ k + 64 * l ∧ cloE R0 = true
theorem markPred_sp (d : DPred) (k : Int) (hk : 0 ≤ k) (l : Int) (h0 : 0 ≤ szPred d l) (hl : l ≤ 1048576) (hb : k + 64 * l ≤ 1099511627776) : MCtr Tryz.prog 124 true d.o [.c (.v (.int .i64 k))] (MkPred d k l) := by
  have d1 := h0
  rw [szPred_eq] at d1
  obtain ⟨a1_0, b1_0, e1_0⟩ := sq_fit d1
  have w1_0 := (szVal_fit d.v _ a1_0 (by omega)).2
  have d2 := a1_0
  rw [szVal_eq] at d2
  obtain ⟨a2_0, b2_0, e2_0⟩ := sq_fit d2
  have w2_0 := (szI_fit a2_0 (by omega)).2
  have eq2 : szVal d.v l = (szI d.v.s.size l) := (szVal_eq d.v l).trans (e2_0)
  obtain ⟨a1_1, b1_1, e1_1⟩ := sq_fit b1_0
  have w1_1 := (szS_fit d.l (fun x _ => szPred_fit x) a1_1 (by omega)).2
  have eq1 : szPred d l = (szS szPred d.l (szVal d.v l)) := (szPred_eq d l).trans ((e1_0).trans (e1_1))
  refine MCtr.mk (fn := Tryz.f124) Tryz.call124 Tryz.func124 rfl mixed Tryz.ntmps124 Tryz.results124 (by kernel_rfl) rfl (.inl rfl) fun us hw0 hw => ?_
  simp only [go_sem, Nat.reduceAdd, Nat.reduceSub, Nat.reduceMul, Nat.reduceLT, Nat.reduceLeDiff, Nat.reduceEqDiff, Nat.succ_ne_zero, reduceIte]
  refine MutK.mk false (zs := [.ref 0]) (markPredS_sp d.l (k) (by omega) (szVal d.v l) a1_1 (by omega) (by omega)) rfl ⟨rfl, rfl, rfl, rfl, nr_Pred _, by simp, trivial⟩ rfl (.inr rfl) fun cl' rs hM => ?_
  obtain ⟨R0, m0, rfl, rfl, g0_1, g0_2, g0_3⟩ := hM
  refine ⟨⟨rfl, ⟨rfl, rfl⟩, trivial⟩, ?_⟩
  simp only [go_sem, Nat.reduceAdd, Nat.reduceSub, Nat.reduceMul, Nat.reduceLT, Nat.reduceLeDiff, Nat.reduceEqDiff, Nat.succ_ne_zero, reduceIte]
  exact ⟨[.v (.int .i64 d.kind), .v (.int .i64 d.col), .v (.int .i64 d.op), .v (.int .i64 d.v.ty), .v (.int .i64 d.v.n), .v (.string d.v.s), .ref 0], [.v (.int .i64 d.kind), .v (.int .i64 d.col), .v (.int .i64 d.op), .v (.int .i64 d.v.ty), .v (.int .i64 d.v.n), .v (.string d.v.s), .ow 50 7 R0], [.c (.v (.int .i64 m0))], rfl, .inl rfl, ⟨rfl, rfl, rfl, rfl, rfl, rfl, rfl, rfl, rfl, rfl, rfl, rfl, rfl, rfl, rfl, rfl, cloE_nr g0_3, by simp, trivial⟩, by simp only [cloL, cloC, Bool.and_true, Bool.true_and, g0_3], rfl, rfl, R0, m0, rfl, rfl, by omega, by omega, g0_3⟩
def MkQuery (d : DQuery) (k l : Int) (cl' : List Cl) (rs : List AV) : Prop := ∃ (R0 R1 : List (List Cl)) (k' : Int), cl' = [.v (.int .i64 d.kind), .v (.int .i64 d.p.kind), .v (.int .i64 d.p.col), .v (.int .i64 d.p.op), .v (.int .i64 d.p.v.ty), .v (.int .i64 d.p.v.n), .v (.string d.p.v.s), .ow 50 7 R0, .v (.int .i64 d.col), .ow 3 1 R1] ∧ rs = [.c (.v (.int .i64 k'))] ∧ k ≤ k' ∧ k' + 64 * szQuery d l ≤ k + 64 * l ∧ cloE R0 = true ∧ cloE R1 = true
theorem markQuery_sp (d : DQuery) (k : Int) (hk : 0 ≤ k) (l : Int) (h0 : 0 ≤ szQuery d l) (hl : l ≤ 1048576) (hb : k + 64 * l ≤ 1099511627776) : MCtr Tryz.prog 63 true d.o [.c (.v (.int .i64 k))] (MkQuery d k l) := by
  have d1 := h0
  rw [szQuery_eq] at d1
  obtain ⟨a1_0, b1_0, e1_0⟩ := sq_fit d1
  have w1_0 := (szPred_fit d.p _ a1_0 (by omega)).2
  have d2 := a1_0
  rw [szPred_eq] at d2
  obtain ⟨a2_0, b2_0, e2_0⟩ := sq_fit d2
  have w2_0 := (szVal_fit d.p.v _ a2_0 (by omega)).2
  have d3 := a2_0
  rw [szVal_eq] at d3
  obtain ⟨a3_0, b3_0, e3_0⟩ := sq_fit d3
  have w3_0 := (szI_fit a3_0 (by omega)).2
  have eq3 : szVal d.p.v l = (szI d.p.v.s.size l) := (szVal_eq d.p.v l).trans (e3_0)
  obtain ⟨a2_1, b2_1, e2_1⟩ := sq_fit b2_0
  have w2_1 := (szS_fit d.p.l (fun x _ => szPred_fit x) a2_1 (by omega)).2
  have eq2 : szPred d.p l = (szS szPred d.p.l (szVal d.p.v l)) := (szPred_eq d.p l).trans ((e2_0).trans (e2_1))
  obtain ⟨a1_1, b1_1, e1_1⟩ := sq_fit b1_0
  have w1_1 := (szI_fit a1_1 (by omega)).2
  have eq1 : szQuery d l = (szI d.out.length (szPred d.p l)) := (szQuery_eq d l).trans ((e1_0).trans (e1_1))
  refine MCtr.mk (fn := Tryz.f63) Tryz.call63 Tryz.func63 rfl mixed Tryz.ntmps63 Tryz.results63 (by kernel_rfl) rfl (.inl rfl) fun us hw0 hw => ?_
  simp only [go_sem, Nat.reduceAdd, Nat.reduceSub, Nat.reduceMul, Nat.reduceLT, Nat.reduceLeDiff, Nat.reduceEqDiff, Nat.succ_ne_zero, reduceIte]
  refine MutK.mk true (zs := [.v (.int .i64 d.p.kind), .v (.int .i64 d.p.col), .v (.int .i64 d.p.op), .v (.int .i64 d.p.v.ty), .v (.int .i64 d.p.v.n), .v (.string d.p.v.s), .ref 0]) (cl := [.v (.int .i64 d.p.kind), .v (.int .i64 d.p.col), .v (.int .i64 d.p.op), .v (.int .i64 d.p.v.ty), .v (.int .i64 d.p.v.n), .v (.string d.p.v.s), .ow 50 7 (d.p.l.map DPred.o)]) (by simpa only [go_sem] using (markPred_sp d.p (k) (by omega) _ a1_0 (by omega) (by omega))) rfl ⟨rfl, rfl, rfl, rfl, rfl, rfl, rfl, rfl, rfl, rfl, rfl, rfl, rfl, rfl, rfl, rfl, nr_Pred _, by simp, trivial⟩ rfl (.inl rfl) fun cl' rs hM => ?_
  obtain ⟨R0, m0, rfl, rfl, g0_1, g0_2, g0_3⟩ := hM
  refine ⟨⟨rfl, rfl, rfl, rfl, rfl, rfl, rfl, ⟨rfl, rfl⟩, trivial⟩, ?_⟩
  simp only [go_sem, Nat.reduceAdd, Nat.reduceSub, Nat.reduceMul, Nat.reduceLT, Nat.reduceLeDiff, Nat.reduceEqDiff, Nat.succ_ne_zero, reduceIte]
  refine MutK.mk false (zs := [.ref 1]) (markIntS_sp d.out (m0) (by omega) (szPred d.p l) a1_1 (by omega) (by omega)) rfl ⟨rfl, rfl, rfl, rfl, nr_int _, by simp, trivial⟩ rfl (.inr rfl) fun cl' rs hM => ?_
  obtain ⟨R1, m1, rfl, rfl, g1_1, g1_2, g1_3⟩ := hM
  refine ⟨⟨rfl, ⟨rfl, rfl⟩, trivial⟩, ?_⟩
  simp only [go_sem, Nat.reduceAdd, Nat.reduceSub, Nat.reduceMul, Nat.reduceLT, Nat.reduceLeDiff, Nat.reduceEqDiff, Nat.succ_ne_zero, reduceIte]
  exact ⟨[.v (.int .i64 d.kind), .v (.int .i64 d.p.kind), .v (.int .i64 d.p.col), .v (.int .i64 d.p.op), .v (.int .i64 d.p.v.ty), .v (.int .i64 d.p.v.n), .v (.string d.p.v.s), .ref 0, .v (.int .i64 d.col), .ref 1], [.v (.int .i64 d.kind), .v (.int .i64 d.p.kind), .v (.int .i64 d.p.col), .v (.int .i64 d.p.op), .v (.int .i64 d.p.v.ty), .v (.int .i64 d.p.v.n), .v (.string d.p.v.s), .ow 50 7 R0, .v (.int .i64 d.col), .ow 3 1 R1], [.c (.v (.int .i64 m1))], rfl, .inl rfl, ⟨rfl, rfl, rfl, rfl, rfl, rfl, rfl, rfl, rfl, rfl, rfl, rfl, rfl, rfl, rfl, rfl, rfl, rfl, cloE_nr g0_3, by simp, rfl, rfl, rfl, rfl, rfl, rfl, cloE_nr g1_3, by simp, trivial⟩, by simp only [cloL, cloC, Bool.and_true, Bool.true_and, g0_3, g1_3], rfl, rfl, R0, R1, m1, rfl, rfl, by omega, by omega, g0_3, g1_3⟩
def MkResult (d : DResult) (k l : Int) (cl' : List Cl) (rs : List AV) : Prop := ∃ (R0 : List (List Cl)) (k' : Int), cl' = [.ow 113 2 R0, .v (.int .i64 d.n), .v (.bool d.has), .v (.int .i64 d.v.ty), .v (.int .i64 d.v.n), .v (.string d.v.s)] ∧ rs = [.c (.v (.int .i64 k'))] ∧ k ≤ k' ∧ k' + 64 * szResult d l ≤ k + 64 * l ∧ cloE R0 = true
theorem markResult_sp (d : DResult) (k : Int) (hk : 0 ≤ k) (l : Int) (h0 : 0 ≤ szResult d l) (hl : l ≤ 1048576) (hb : k + 64 * l ≤ 1099511627776) : MCtr Tryz.prog 64 true d.o [.c (.v (.int .i64 k))] (MkResult d k l) := by
  have d1 := h0
  rw [szResult_eq] at d1
  obtain ⟨a1_0, b1_0, e1_0⟩ := sq_fit d1
  have w1_0 := (szS_fit d.rows (fun x _ => szRow_fit x) a1_0 (by omega)).2
  obtain ⟨a1_1, b1_1, e1_1⟩ := sq_fit b1_0
  have w1_1 := (szVal_fit d.v _ a1_1 (by omega)).2
  have d2 := a1_1
  rw [szVal_eq] at d2
  obtain ⟨a2_0, b2_0, e2_0⟩ := sq_fit d2
  have w2_0 := (szI_fit a2_0 (by omega)).2
  have eq2 : szVal d.v (szS szRow d.rows l) = (szI d.v.s.size (szS szRow d.rows l)) := (szVal_eq d.v (szS szRow d.rows l)).trans (e2_0)
  have eq1 : szResult d l = (szVal d.v (szS szRow d.rows l)) := (szResult_eq d l).trans ((e1_0).trans (e1_1))
  refine MCtr.mk (fn := Tryz.f64) Tryz.call64 Tryz.func64 rfl mixed Tryz.ntmps64 Tryz.results64 (by kernel_rfl) rfl (.inl rfl) fun us hw0 hw => ?_
  simp only [go_sem, Nat.reduceAdd, Nat.reduceSub, Nat.reduceMul, Nat.reduceLT, Nat.reduceLeDiff, Nat.reduceEqDiff, Nat.succ_ne_zero, reduceIte]
  refine MutK.mk false (zs := [.ref 0]) (markRowS_sp d.rows (k) (by omega) l a1_0 (by omega) (by omega)) rfl ⟨rfl, rfl, rfl, rfl, nr_Row _, by simp, trivial⟩ rfl (.inr rfl) fun cl' rs hM => ?_
  obtain ⟨R0, m0, rfl, rfl, g0_1, g0_2, g0_3⟩ := hM
  refine ⟨⟨rfl, ⟨rfl, rfl⟩, trivial⟩, ?_⟩
  simp only [go_sem, Nat.reduceAdd, Nat.reduceSub, Nat.reduceMul, Nat.reduceLT, Nat.reduceLeDiff, Nat.reduceEqDiff, Nat.succ_ne_zero, reduceIte]
  exact ⟨[.ref 0, .v (.int .i64 d.n), .v (.bool d.has), .v (.int .i64 d.v.ty), .v (.int .i64 d.v.n), .v (.string d.v.s)], [.ow 113 2 R0, .v (.int .i64 d.n), .v (.bool d.has), .v (.int .i64 d.v.ty), .v (.int .i64 d.v.n), .v (.string d.v.s)], [.c (.v (.int .i64 m0))], rfl, .inl rfl, ⟨rfl, rfl, rfl, rfl, cloE_nr g0_3, by simp, rfl, rfl, rfl, rfl, rfl, rfl, rfl, rfl, rfl, rfl, trivial⟩, by simp only [cloL, cloC, Bool.and_true, Bool.true_and, g0_3], rfl, rfl, R0, m0, rfl, rfl, by omega, by omega, g0_3⟩
def MkDeed (d : DDeed) (k l : Int) (cl' : List Cl) (rs : List AV) : Prop := ∃ (R0 R1 R2 R3 : List (List Cl)) (k' : Int), cl' = [.v (.int .i64 d.op), .v (.int .i64 d.task), .ow 47 3 R0, .v (.int .i64 d.id), .v (.int .i64 d.q.kind), .v (.int .i64 d.q.p.kind), .v (.int .i64 d.q.p.col), .v (.int .i64 d.q.p.op), .v (.int .i64 d.q.p.v.ty), .v (.int .i64 d.q.p.v.n), .v (.string d.q.p.v.s), .ow 50 7 R1, .v (.int .i64 d.q.col), .ow 3 1 R2, .ow 113 2 R3, .v (.int .i64 d.res.n), .v (.bool d.res.has), .v (.int .i64 d.res.v.ty), .v (.int .i64 d.res.v.n), .v (.string d.res.v.s), .v (.int .i64 d.code), .v (.int .i64 d.stamp), .v (.int .i64 d.inv), .v (.int .i64 d.lin), .v (.int .i64 d.ret)] ∧ rs = [.c (.v (.int .i64 k'))] ∧ k ≤ k' ∧ k' + 64 * szDeed d l ≤ k + 64 * l ∧ cloE R0 = true ∧ cloE R1 = true ∧ cloE R2 = true ∧ cloE R3 = true
theorem markDeed_sp (d : DDeed) (k : Int) (hk : 0 ≤ k) (l : Int) (h0 : 0 ≤ szDeed d l) (hl : l ≤ 1048576) (hb : k + 64 * l ≤ 1099511627776) : MCtr Tryz.prog 15 true d.o [.c (.v (.int .i64 k))] (MkDeed d k l) := by
  have d1 := h0
  rw [szDeed_eq] at d1
  obtain ⟨a1_0, b1_0, e1_0⟩ := sq_fit d1
  have w1_0 := (szS_fit d.r (fun x _ => szVal_fit x) a1_0 (by omega)).2
  obtain ⟨a1_1, b1_1, e1_1⟩ := sq_fit b1_0
  have w1_1 := (szQuery_fit d.q _ a1_1 (by omega)).2
  have d2 := a1_1
  rw [szQuery_eq] at d2
  obtain ⟨a2_0, b2_0, e2_0⟩ := sq_fit d2
  have w2_0 := (szPred_fit d.q.p _ a2_0 (by omega)).2
  have d3 := a2_0
  rw [szPred_eq] at d3
  obtain ⟨a3_0, b3_0, e3_0⟩ := sq_fit d3
  have w3_0 := (szVal_fit d.q.p.v _ a3_0 (by omega)).2
  have d4 := a3_0
  rw [szVal_eq] at d4
  obtain ⟨a4_0, b4_0, e4_0⟩ := sq_fit d4
  have w4_0 := (szI_fit a4_0 (by omega)).2
  have eq4 : szVal d.q.p.v (szS szVal d.r l) = (szI d.q.p.v.s.size (szS szVal d.r l)) := (szVal_eq d.q.p.v (szS szVal d.r l)).trans (e4_0)
  obtain ⟨a3_1, b3_1, e3_1⟩ := sq_fit b3_0
  have w3_1 := (szS_fit d.q.p.l (fun x _ => szPred_fit x) a3_1 (by omega)).2
  have eq3 : szPred d.q.p (szS szVal d.r l) = (szS szPred d.q.p.l (szVal d.q.p.v (szS szVal d.r l))) := (szPred_eq d.q.p (szS szVal d.r l)).trans ((e3_0).trans (e3_1))
  obtain ⟨a2_1, b2_1, e2_1⟩ := sq_fit b2_0
  have w2_1 := (szI_fit a2_1 (by omega)).2
  have eq2 : szQuery d.q (szS szVal d.r l) = (szI d.q.out.length (szPred d.q.p (szS szVal d.r l))) := (szQuery_eq d.q (szS szVal d.r l)).trans ((e2_0).trans (e2_1))
  obtain ⟨a1_2, b1_2, e1_2⟩ := sq_fit b1_1
  have w1_2 := (szResult_fit d.res _ a1_2 (by omega)).2
  have d5 := a1_2
  rw [szResult_eq] at d5
  obtain ⟨a5_0, b5_0, e5_0⟩ := sq_fit d5
  have w5_0 := (szS_fit d.res.rows (fun x _ => szRow_fit x) a5_0 (by omega)).2
  obtain ⟨a5_1, b5_1, e5_1⟩ := sq_fit b5_0
  have w5_1 := (szVal_fit d.res.v _ a5_1 (by omega)).2
  have d6 := a5_1
  rw [szVal_eq] at d6
  obtain ⟨a6_0, b6_0, e6_0⟩ := sq_fit d6
  have w6_0 := (szI_fit a6_0 (by omega)).2
  have eq6 : szVal d.res.v (szS szRow d.res.rows (szQuery d.q (szS szVal d.r l))) = (szI d.res.v.s.size (szS szRow d.res.rows (szQuery d.q (szS szVal d.r l)))) := (szVal_eq d.res.v (szS szRow d.res.rows (szQuery d.q (szS szVal d.r l)))).trans (e6_0)
  have eq5 : szResult d.res (szQuery d.q (szS szVal d.r l)) = (szVal d.res.v (szS szRow d.res.rows (szQuery d.q (szS szVal d.r l)))) := (szResult_eq d.res (szQuery d.q (szS szVal d.r l))).trans ((e5_0).trans (e5_1))
  have eq1 : szDeed d l = (szResult d.res (szQuery d.q (szS szVal d.r l))) := (szDeed_eq d l).trans ((e1_0).trans ((e1_1).trans (e1_2)))
  refine MCtr.mk (fn := Tryz.f15) Tryz.call15 Tryz.func15 rfl mixed Tryz.ntmps15 Tryz.results15 (by kernel_rfl) rfl (.inl rfl) fun us hw0 hw => ?_
  simp only [go_sem, Nat.reduceAdd, Nat.reduceSub, Nat.reduceMul, Nat.reduceLT, Nat.reduceLeDiff, Nat.reduceEqDiff, Nat.succ_ne_zero, reduceIte]
  refine MutK.mk false (zs := [.ref 0]) (markValS_sp d.r (k) (by omega) l a1_0 (by omega) (by omega)) rfl ⟨rfl, rfl, rfl, rfl, nr_Val _, by simp, trivial⟩ rfl (.inr rfl) fun cl' rs hM => ?_
  obtain ⟨R0, m0, rfl, rfl, g0_1, g0_2, g0_3⟩ := hM
  refine ⟨⟨rfl, ⟨rfl, rfl⟩, trivial⟩, ?_⟩
  simp only [go_sem, Nat.reduceAdd, Nat.reduceSub, Nat.reduceMul, Nat.reduceLT, Nat.reduceLeDiff, Nat.reduceEqDiff, Nat.succ_ne_zero, reduceIte]
  refine MutK.mk true (zs := [.v (.int .i64 d.q.kind), .v (.int .i64 d.q.p.kind), .v (.int .i64 d.q.p.col), .v (.int .i64 d.q.p.op), .v (.int .i64 d.q.p.v.ty), .v (.int .i64 d.q.p.v.n), .v (.string d.q.p.v.s), .ref 1, .v (.int .i64 d.q.col), .ref 2]) (cl := [.v (.int .i64 d.q.kind), .v (.int .i64 d.q.p.kind), .v (.int .i64 d.q.p.col), .v (.int .i64 d.q.p.op), .v (.int .i64 d.q.p.v.ty), .v (.int .i64 d.q.p.v.n), .v (.string d.q.p.v.s), .ow 50 7 (d.q.p.l.map DPred.o), .v (.int .i64 d.q.col), .ow 3 1 (d.q.out.map intC)]) (by simpa only [go_sem] using (markQuery_sp d.q (m0) (by omega) _ a1_1 (by omega) (by omega))) rfl ⟨rfl, rfl, rfl, rfl, rfl, rfl, rfl, rfl, rfl, rfl, rfl, rfl, rfl, rfl, rfl, rfl, rfl, rfl, nr_Pred _, by simp, rfl, rfl, rfl, rfl, rfl, rfl, nr_int _, by simp, trivial⟩ rfl (.inl rfl) fun cl' rs hM => ?_
  obtain ⟨R1, R2, m2, rfl, rfl, g2_1, g2_2, g1_3, g2_3⟩ := hM
  refine ⟨⟨rfl, rfl, rfl, rfl, rfl, rfl, rfl, rfl, ⟨rfl, rfl⟩, rfl, ⟨rfl, rfl⟩, trivial⟩, ?_⟩
  simp only [go_sem, Nat.reduceAdd, Nat.reduceSub, Nat.reduceMul, Nat.reduceLT, Nat.reduceLeDiff, Nat.reduceEqDiff, Nat.succ_ne_zero, reduceIte]
  refine MutK.mk true (zs := [.ref 3, .v (.int .i64 d.res.n), .v (.bool d.res.has), .v (.int .i64 d.res.v.ty), .v (.int .i64 d.res.v.n), .v (.string d.res.v.s)]) (cl := [.ow 113 2 (d.res.rows.map DRow.o), .v (.int .i64 d.res.n), .v (.bool d.res.has), .v (.int .i64 d.res.v.ty), .v (.int .i64 d.res.v.n), .v (.string d.res.v.s)]) (by simpa only [go_sem] using (markResult_sp d.res (m2) (by omega) _ a1_2 (by omega) (by omega))) rfl ⟨rfl, rfl, rfl, rfl, nr_Row _, by simp, rfl, rfl, rfl, rfl, rfl, rfl, rfl, rfl, rfl, rfl, trivial⟩ rfl (.inl rfl) fun cl' rs hM => ?_
  obtain ⟨R3, m3, rfl, rfl, g3_1, g3_2, g3_3⟩ := hM
  refine ⟨⟨rfl, ⟨rfl, rfl⟩, rfl, rfl, rfl, rfl, rfl, trivial⟩, ?_⟩
  simp only [go_sem, Nat.reduceAdd, Nat.reduceSub, Nat.reduceMul, Nat.reduceLT, Nat.reduceLeDiff, Nat.reduceEqDiff, Nat.succ_ne_zero, reduceIte]
  exact ⟨[.v (.int .i64 d.op), .v (.int .i64 d.task), .ref 0, .v (.int .i64 d.id), .v (.int .i64 d.q.kind), .v (.int .i64 d.q.p.kind), .v (.int .i64 d.q.p.col), .v (.int .i64 d.q.p.op), .v (.int .i64 d.q.p.v.ty), .v (.int .i64 d.q.p.v.n), .v (.string d.q.p.v.s), .ref 1, .v (.int .i64 d.q.col), .ref 2, .ref 3, .v (.int .i64 d.res.n), .v (.bool d.res.has), .v (.int .i64 d.res.v.ty), .v (.int .i64 d.res.v.n), .v (.string d.res.v.s), .v (.int .i64 d.code), .v (.int .i64 d.stamp), .v (.int .i64 d.inv), .v (.int .i64 d.lin), .v (.int .i64 d.ret)], [.v (.int .i64 d.op), .v (.int .i64 d.task), .ow 47 3 R0, .v (.int .i64 d.id), .v (.int .i64 d.q.kind), .v (.int .i64 d.q.p.kind), .v (.int .i64 d.q.p.col), .v (.int .i64 d.q.p.op), .v (.int .i64 d.q.p.v.ty), .v (.int .i64 d.q.p.v.n), .v (.string d.q.p.v.s), .ow 50 7 R1, .v (.int .i64 d.q.col), .ow 3 1 R2, .ow 113 2 R3, .v (.int .i64 d.res.n), .v (.bool d.res.has), .v (.int .i64 d.res.v.ty), .v (.int .i64 d.res.v.n), .v (.string d.res.v.s), .v (.int .i64 d.code), .v (.int .i64 d.stamp), .v (.int .i64 d.inv), .v (.int .i64 d.lin), .v (.int .i64 d.ret)], [.c (.v (.int .i64 m3))], rfl, .inl rfl, ⟨rfl, rfl, rfl, rfl, rfl, rfl, rfl, rfl, cloE_nr g0_3, by simp, rfl, rfl, rfl, rfl, rfl, rfl, rfl, rfl, rfl, rfl, rfl, rfl, rfl, rfl, rfl, rfl, rfl, rfl, rfl, rfl, cloE_nr g1_3, by simp, rfl, rfl, rfl, rfl, rfl, rfl, cloE_nr g2_3, by simp, rfl, rfl, rfl, rfl, cloE_nr g3_3, by simp, rfl, rfl, rfl, rfl, rfl, rfl, rfl, rfl, rfl, rfl, rfl, rfl, rfl, rfl, rfl, rfl, rfl, rfl, rfl, rfl, trivial⟩, by simp only [cloL, cloC, Bool.and_true, Bool.true_and, g0_3, g1_3, g2_3, g3_3], rfl, rfl, R0, R1, R2, R3, m3, rfl, rfl, by omega, by omega, g0_3, g1_3, g2_3, g3_3⟩

end Go.Proofs.YtepjgnlinjlehaaGreat
