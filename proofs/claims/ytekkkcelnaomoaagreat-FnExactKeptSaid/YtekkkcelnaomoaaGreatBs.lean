/- The laws' marks of structs: by program (gen_data.py). -/
import Derived.Test.YtekkkcelnaomoaaGreatBb
namespace Go.Proofs.YtekkkcelnaomoaaGreat
set_option linter.unusedSimpArgs false
set_option linter.unusedVariables false
open Go.Vm

set_option maxHeartbeats 2000000
set_option maxRecDepth 10000
def MkDir (d : DDir) (k l : Int) (cl' : List Cl) (rs : List AV) : Prop := ∃ (R0 : List (List Cl)) (k' : Int), cl' = [.v (.int .i64 d.ver), .ow 163 5 R0] ∧ rs = [.c (.v (.int .i64 k'))] ∧ k ≤ k' ∧ k' + 64 * szDir d l ≤ k + 64 * l ∧ cloE R0 = true
theorem markDir_sp (d : DDir) (k : Int) (hk : 0 ≤ k) (l : Int) (h0 : 0 ≤ szDir d l) (hl : l ≤ 1048576) (hb : k + 64 * l ≤ 1099511627776) : MCtr Tryz.prog 46 true d.o [.c (.v (.int .i64 k))] (MkDir d k l) := by
  have d1 := h0
  rw [szDir_eq] at d1
  obtain ⟨a1_0, b1_0, e1_0⟩ := sq_fit d1
  have w1_0 := (szI_fit a1_0 (by omega)).2
  have eq1 : szDir d l = (szI d.l.length l) := (szDir_eq d l).trans (e1_0)
  refine MCtr.mk (fn := Tryz.f46) Tryz.call46 Tryz.func46 rfl mixed Tryz.ntmps46 Tryz.results46 (by kernel_rfl) rfl (.inl rfl) fun us hw0 hw => ?_
  simp only [go_sem, Nat.reduceAdd, Nat.reduceSub, Nat.reduceMul, Nat.reduceLT, Nat.reduceLeDiff, Nat.reduceEqDiff, Nat.succ_ne_zero, reduceIte]
  refine MutK.mk false (zs := [.ref 0]) (markRefS_sp d.l (k) (by omega) l a1_0 (by omega) (by omega)) rfl ⟨rfl, rfl, rfl, rfl, nr_Ref _, by simp, trivial⟩ rfl (.inr rfl) fun cl' rs hM => ?_
  obtain ⟨R0, m0, rfl, rfl, g0_1, g0_2, g0_3⟩ := hM
  refine ⟨⟨rfl, ⟨rfl, rfl⟩, trivial⟩, ?_⟩
  simp only [go_sem, Nat.reduceAdd, Nat.reduceSub, Nat.reduceMul, Nat.reduceLT, Nat.reduceLeDiff, Nat.reduceEqDiff, Nat.succ_ne_zero, reduceIte]
  exact ⟨[.v (.int .i64 d.ver), .ref 0], [.v (.int .i64 d.ver), .ow 163 5 R0], [.c (.v (.int .i64 m0))], rfl, .inl rfl, ⟨rfl, rfl, rfl, rfl, rfl, rfl, cloE_nr g0_3, by simp, trivial⟩, by simp only [cloL, cloC, Bool.and_true, Bool.true_and, g0_3], rfl, rfl, R0, m0, rfl, rfl, by omega, by omega, g0_3⟩
def MkConf (d : DConf) (k l : Int) (cl' : List Cl) (rs : List AV) : Prop := ∃ (R0 : List (List Cl)) (k' : Int), cl' = [.ow 3 1 R0, .v (.int .i64 d.slots), .v (.int .i64 d.bufs)] ∧ rs = [.c (.v (.int .i64 k'))] ∧ k ≤ k' ∧ k' + 64 * szConf d l ≤ k + 64 * l ∧ cloE R0 = true
theorem markConf_sp (d : DConf) (k : Int) (hk : 0 ≤ k) (l : Int) (h0 : 0 ≤ szConf d l) (hl : l ≤ 1048576) (hb : k + 64 * l ≤ 1099511627776) : MCtr Tryz.prog 45 true d.o [.c (.v (.int .i64 k))] (MkConf d k l) := by
  have d1 := h0
  rw [szConf_eq] at d1
  obtain ⟨a1_0, b1_0, e1_0⟩ := sq_fit d1
  have w1_0 := (szI_fit a1_0 (by omega)).2
  have eq1 : szConf d l = (szI d.cols.length l) := (szConf_eq d l).trans (e1_0)
  refine MCtr.mk (fn := Tryz.f45) Tryz.call45 Tryz.func45 rfl mixed Tryz.ntmps45 Tryz.results45 (by kernel_rfl) rfl (.inl rfl) fun us hw0 hw => ?_
  simp only [go_sem, Nat.reduceAdd, Nat.reduceSub, Nat.reduceMul, Nat.reduceLT, Nat.reduceLeDiff, Nat.reduceEqDiff, Nat.succ_ne_zero, reduceIte]
  refine MutK.mk false (zs := [.ref 0]) (markIntS_sp d.cols (k) (by omega) l a1_0 (by omega) (by omega)) rfl ⟨rfl, rfl, rfl, rfl, nr_int _, by simp, trivial⟩ rfl (.inr rfl) fun cl' rs hM => ?_
  obtain ⟨R0, m0, rfl, rfl, g0_1, g0_2, g0_3⟩ := hM
  refine ⟨⟨rfl, ⟨rfl, rfl⟩, trivial⟩, ?_⟩
  simp only [go_sem, Nat.reduceAdd, Nat.reduceSub, Nat.reduceMul, Nat.reduceLT, Nat.reduceLeDiff, Nat.reduceEqDiff, Nat.succ_ne_zero, reduceIte]
  exact ⟨[.ref 0, .v (.int .i64 d.slots), .v (.int .i64 d.bufs)], [.ow 3 1 R0, .v (.int .i64 d.slots), .v (.int .i64 d.bufs)], [.c (.v (.int .i64 m0))], rfl, .inl rfl, ⟨rfl, rfl, rfl, rfl, cloE_nr g0_3, by simp, rfl, rfl, rfl, rfl, trivial⟩, by simp only [cloL, cloC, Bool.and_true, Bool.true_and, g0_3], rfl, rfl, R0, m0, rfl, rfl, by omega, by omega, g0_3⟩
def MkWorld (d : DWorld) (k l : Int) (cl' : List Cl) (rs : List AV) : Prop := ∃ (R0 R1 R2 R3 R4 R5 R6 R7 : List (List Cl)) (k' : Int), cl' = [.ow 3 1 R0, .v (.int .i64 d.c0.slots), .v (.int .i64 d.c0.bufs), .v (.int .i64 d.time), .v (.int .i64 d.t), .v (.int .i64 d.e), .v (.int .i64 d.d.ver), .ow 163 5 R1, .ow 125 5 R2, .ow 3 1 R3, .ow 128 3 R4, .ow 3 1 R5, .ow 138 25 R6, .ow 143 25 R7] ∧ rs = [.c (.v (.int .i64 k'))] ∧ k ≤ k' ∧ k' + 64 * szWorld d l ≤ k + 64 * l ∧ cloE R0 = true ∧ cloE R1 = true ∧ cloE R2 = true ∧ cloE R3 = true ∧ cloE R4 = true ∧ cloE R5 = true ∧ cloE R6 = true ∧ cloE R7 = true
theorem markWorld_sp (d : DWorld) (k : Int) (hk : 0 ≤ k) (l : Int) (h0 : 0 ≤ szWorld d l) (hl : l ≤ 1048576) (hb : k + 64 * l ≤ 1099511627776) : MCtr Tryz.prog 12 true d.o [.c (.v (.int .i64 k))] (MkWorld d k l) := by
  have d1 := h0
  rw [szWorld_eq] at d1
  obtain ⟨a1_0, b1_0, e1_0⟩ := sq_fit d1
  have w1_0 := (szConf_fit d.c0 _ a1_0 (by omega)).2
  have d2 := a1_0
  rw [szConf_eq] at d2
  obtain ⟨a2_0, b2_0, e2_0⟩ := sq_fit d2
  have w2_0 := (szI_fit a2_0 (by omega)).2
  have eq2 : szConf d.c0 l = (szI d.c0.cols.length l) := (szConf_eq d.c0 l).trans (e2_0)
  obtain ⟨a1_1, b1_1, e1_1⟩ := sq_fit b1_0
  have w1_1 := (szDir_fit d.d _ a1_1 (by omega)).2
  have d3 := a1_1
  rw [szDir_eq] at d3
  obtain ⟨a3_0, b3_0, e3_0⟩ := sq_fit d3
  have w3_0 := (szI_fit a3_0 (by omega)).2
  have eq3 : szDir d.d (szConf d.c0 l) = (szI d.d.l.length (szConf d.c0 l)) := (szDir_eq d.d (szConf d.c0 l)).trans (e3_0)
  obtain ⟨a1_2, b1_2, e1_2⟩ := sq_fit b1_1
  have w1_2 := (szS_fit d.b (fun x _ => szBuf_fit x) a1_2 (by omega)).2
  obtain ⟨a1_3, b1_3, e1_3⟩ := sq_fit b1_2
  have w1_3 := (szI_fit a1_3 (by omega)).2
  obtain ⟨a1_4, b1_4, e1_4⟩ := sq_fit b1_3
  have w1_4 := (szI_fit a1_4 (by omega)).2
  obtain ⟨a1_5, b1_5, e1_5⟩ := sq_fit b1_4
  have w1_5 := (szI_fit a1_5 (by omega)).2
  obtain ⟨a1_6, b1_6, e1_6⟩ := sq_fit b1_5
  have w1_6 := (szS_fit d.tasks (fun x _ => szTask_fit x) a1_6 (by omega)).2
  obtain ⟨a1_7, b1_7, e1_7⟩ := sq_fit b1_6
  have w1_7 := (szS_fit d.deeds (fun x _ => szDeed_fit x) a1_7 (by omega)).2
  have eq1 : szWorld d l = (szS szDeed d.deeds (szS szTask d.tasks (szI d.p.length (szI d.x.length (szI d.m.length (szS szBuf d.b (szDir d.d (szConf d.c0 l)))))))) := (szWorld_eq d l).trans ((e1_0).trans ((e1_1).trans ((e1_2).trans ((e1_3).trans ((e1_4).trans ((e1_5).trans ((e1_6).trans (e1_7))))))))
  refine MCtr.mk (fn := Tryz.f12) Tryz.call12 Tryz.func12 rfl mixed Tryz.ntmps12 Tryz.results12 (by kernel_rfl) rfl (.inl rfl) fun us hw0 hw => ?_
  simp only [go_sem, Nat.reduceAdd, Nat.reduceSub, Nat.reduceMul, Nat.reduceLT, Nat.reduceLeDiff, Nat.reduceEqDiff, Nat.succ_ne_zero, reduceIte]
  refine MutK.mk true (zs := [.ref 0, .v (.int .i64 d.c0.slots), .v (.int .i64 d.c0.bufs)]) (cl := [.ow 3 1 (d.c0.cols.map intC), .v (.int .i64 d.c0.slots), .v (.int .i64 d.c0.bufs)]) (by simpa only [go_sem] using (markConf_sp d.c0 (k) (by omega) l a1_0 (by omega) (by omega))) rfl ⟨rfl, rfl, rfl, rfl, nr_int _, by simp, rfl, rfl, rfl, rfl, trivial⟩ rfl (.inl rfl) fun cl' rs hM => ?_
  obtain ⟨R0, m0, rfl, rfl, g0_1, g0_2, g0_3⟩ := hM
  refine ⟨⟨rfl, ⟨rfl, rfl⟩, rfl, rfl, trivial⟩, ?_⟩
  simp only [go_sem, Nat.reduceAdd, Nat.reduceSub, Nat.reduceMul, Nat.reduceLT, Nat.reduceLeDiff, Nat.reduceEqDiff, Nat.succ_ne_zero, reduceIte]
  refine MutK.mk true (zs := [.v (.int .i64 d.d.ver), .ref 1]) (cl := [.v (.int .i64 d.d.ver), .ow 163 5 (d.d.l.map DRef.c)]) (by simpa only [go_sem] using (markDir_sp d.d (m0) (by omega) (szConf d.c0 l) a1_1 (by omega) (by omega))) rfl ⟨rfl, rfl, rfl, rfl, rfl, rfl, nr_Ref _, by simp, trivial⟩ rfl (.inl rfl) fun cl' rs hM => ?_
  obtain ⟨R1, m1, rfl, rfl, g1_1, g1_2, g1_3⟩ := hM
  refine ⟨⟨rfl, rfl, ⟨rfl, rfl⟩, trivial⟩, ?_⟩
  simp only [go_sem, Nat.reduceAdd, Nat.reduceSub, Nat.reduceMul, Nat.reduceLT, Nat.reduceLeDiff, Nat.reduceEqDiff, Nat.succ_ne_zero, reduceIte]
  refine MutK.mk false (zs := [.ref 2]) (markBufS_sp d.b (m1) (by omega) (szDir d.d (szConf d.c0 l)) a1_2 (by omega) (by omega)) rfl ⟨rfl, rfl, rfl, rfl, nr_Buf _, by simp, trivial⟩ rfl (.inr rfl) fun cl' rs hM => ?_
  obtain ⟨R2, m2, rfl, rfl, g2_1, g2_2, g2_3⟩ := hM
  refine ⟨⟨rfl, ⟨rfl, rfl⟩, trivial⟩, ?_⟩
  simp only [go_sem, Nat.reduceAdd, Nat.reduceSub, Nat.reduceMul, Nat.reduceLT, Nat.reduceLeDiff, Nat.reduceEqDiff, Nat.succ_ne_zero, reduceIte]
  refine MutK.mk false (zs := [.ref 3]) (markIntS_sp d.m (m2) (by omega) (szS szBuf d.b (szDir d.d (szConf d.c0 l))) a1_3 (by omega) (by omega)) rfl ⟨rfl, rfl, rfl, rfl, nr_int _, by simp, trivial⟩ rfl (.inr rfl) fun cl' rs hM => ?_
  obtain ⟨R3, m3, rfl, rfl, g3_1, g3_2, g3_3⟩ := hM
  refine ⟨⟨rfl, ⟨rfl, rfl⟩, trivial⟩, ?_⟩
  simp only [go_sem, Nat.reduceAdd, Nat.reduceSub, Nat.reduceMul, Nat.reduceLT, Nat.reduceLeDiff, Nat.reduceEqDiff, Nat.succ_ne_zero, reduceIte]
  refine MutK.mk false (zs := [.ref 4]) (markDeadS_sp d.x (m3) (by omega) (szI d.m.length (szS szBuf d.b (szDir d.d (szConf d.c0 l)))) a1_4 (by omega) (by omega)) rfl ⟨rfl, rfl, rfl, rfl, nr_Dead _, by simp, trivial⟩ rfl (.inr rfl) fun cl' rs hM => ?_
  obtain ⟨R4, m4, rfl, rfl, g4_1, g4_2, g4_3⟩ := hM
  refine ⟨⟨rfl, ⟨rfl, rfl⟩, trivial⟩, ?_⟩
  simp only [go_sem, Nat.reduceAdd, Nat.reduceSub, Nat.reduceMul, Nat.reduceLT, Nat.reduceLeDiff, Nat.reduceEqDiff, Nat.succ_ne_zero, reduceIte]
  refine MutK.mk false (zs := [.ref 5]) (markIntS_sp d.p (m4) (by omega) (szI d.x.length (szI d.m.length (szS szBuf d.b (szDir d.d (szConf d.c0 l))))) a1_5 (by omega) (by omega)) rfl ⟨rfl, rfl, rfl, rfl, nr_int _, by simp, trivial⟩ rfl (.inr rfl) fun cl' rs hM => ?_
  obtain ⟨R5, m5, rfl, rfl, g5_1, g5_2, g5_3⟩ := hM
  refine ⟨⟨rfl, ⟨rfl, rfl⟩, trivial⟩, ?_⟩
  simp only [go_sem, Nat.reduceAdd, Nat.reduceSub, Nat.reduceMul, Nat.reduceLT, Nat.reduceLeDiff, Nat.reduceEqDiff, Nat.succ_ne_zero, reduceIte]
  refine MutK.mk false (zs := [.ref 6]) (markTaskS_sp d.tasks (m5) (by omega) (szI d.p.length (szI d.x.length (szI d.m.length (szS szBuf d.b (szDir d.d (szConf d.c0 l)))))) a1_6 (by omega) (by omega)) rfl ⟨rfl, rfl, rfl, rfl, nr_Task _, by simp, trivial⟩ rfl (.inr rfl) fun cl' rs hM => ?_
  obtain ⟨R6, m6, rfl, rfl, g6_1, g6_2, g6_3⟩ := hM
  refine ⟨⟨rfl, ⟨rfl, rfl⟩, trivial⟩, ?_⟩
  simp only [go_sem, Nat.reduceAdd, Nat.reduceSub, Nat.reduceMul, Nat.reduceLT, Nat.reduceLeDiff, Nat.reduceEqDiff, Nat.succ_ne_zero, reduceIte]
  refine MutK.mk false (zs := [.ref 7]) (markDeedS_sp d.deeds (m6) (by omega) (szS szTask d.tasks (szI d.p.length (szI d.x.length (szI d.m.length (szS szBuf d.b (szDir d.d (szConf d.c0 l))))))) a1_7 (by omega) (by omega)) rfl ⟨rfl, rfl, rfl, rfl, nr_Deed _, by simp, trivial⟩ rfl (.inr rfl) fun cl' rs hM => ?_
  obtain ⟨R7, m7, rfl, rfl, g7_1, g7_2, g7_3⟩ := hM
  refine ⟨⟨rfl, ⟨rfl, rfl⟩, trivial⟩, ?_⟩
  simp only [go_sem, Nat.reduceAdd, Nat.reduceSub, Nat.reduceMul, Nat.reduceLT, Nat.reduceLeDiff, Nat.reduceEqDiff, Nat.succ_ne_zero, reduceIte]
  exact ⟨[.ref 0, .v (.int .i64 d.c0.slots), .v (.int .i64 d.c0.bufs), .v (.int .i64 d.time), .v (.int .i64 d.t), .v (.int .i64 d.e), .v (.int .i64 d.d.ver), .ref 1, .ref 2, .ref 3, .ref 4, .ref 5, .ref 6, .ref 7], [.ow 3 1 R0, .v (.int .i64 d.c0.slots), .v (.int .i64 d.c0.bufs), .v (.int .i64 d.time), .v (.int .i64 d.t), .v (.int .i64 d.e), .v (.int .i64 d.d.ver), .ow 163 5 R1, .ow 125 5 R2, .ow 3 1 R3, .ow 128 3 R4, .ow 3 1 R5, .ow 138 25 R6, .ow 143 25 R7], [.c (.v (.int .i64 m7))], rfl, .inl rfl, ⟨rfl, rfl, rfl, rfl, cloE_nr g0_3, by simp, rfl, rfl, rfl, rfl, rfl, rfl, rfl, rfl, rfl, rfl, rfl, rfl, rfl, rfl, rfl, rfl, cloE_nr g1_3, by simp, rfl, rfl, rfl, rfl, cloE_nr g2_3, by simp, rfl, rfl, rfl, rfl, cloE_nr g3_3, by simp, rfl, rfl, rfl, rfl, cloE_nr g4_3, by simp, rfl, rfl, rfl, rfl, cloE_nr g5_3, by simp, rfl, rfl, rfl, rfl, cloE_nr g6_3, by simp, rfl, rfl, rfl, rfl, cloE_nr g7_3, by simp, trivial⟩, by simp only [cloL, cloC, Bool.and_true, Bool.true_and, g0_3, g1_3, g2_3, g3_3, g4_3, g5_3, g6_3, g7_3], rfl, rfl, R0, R1, R2, R3, R4, R5, R6, R7, m7, rfl, rfl, by omega, by omega, g0_3, g1_3, g2_3, g3_3, g4_3, g5_3, g6_3, g7_3⟩

end Go.Proofs.YtekkkcelnaomoaaGreat
