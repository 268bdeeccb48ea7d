/- The laws' marks: by program (gen_data.py). -/
import Derived.Test.YtepjgnlinjlehaaGreatBa
namespace Go.Proofs.YtepjgnlinjlehaaGreat
set_option linter.unusedSimpArgs false
set_option linter.unusedVariables false
open Go.Vm

set_option maxHeartbeats 2000000
set_option maxRecDepth 10000

theorem clo_int (l : List Int) : cloE (l.map intC) = true := cloE_map fun _ => rfl
theorem clo_byte (l : List Int) : cloE (l.map byteC) = true := cloE_map fun _ => rfl
theorem clo_Val (l : List DVal) : cloE (l.map DVal.c) = true := cloE_map fun _ => rfl
theorem clo_DRow (d : DRow) : cloL d.o = true := by
  rw [DRow.o_eq]
  simp [cloL, cloC, clo_Val]
theorem clo_Row (l : List DRow) : cloE (l.map DRow.o) = true := cloE_map clo_DRow
theorem clo_DTable (d : DTable) : cloL d.o = true := by
  rw [DTable.o_eq]
  simp [cloL, cloC, clo_Row, clo_int]
theorem clo_Table (l : List DTable) : cloE (l.map DTable.o) = true := cloE_map clo_DTable
theorem clo_DPred_fuel : ∀ (n : Nat) (d : DPred), SizeOf.sizeOf d ≤ n → cloL d.o = true
  | 0, d, h => by cases d; simp at h
  | n + 1, d, h => by
    have hm : cloE (d.l.map DPred.o) = true := cloE_of fun y hy => by
      obtain ⟨x, hx, rfl⟩ := List.mem_map.1 hy
      refine clo_DPred_fuel n x ?_
      have h1 : SizeOf.sizeOf x < SizeOf.sizeOf d.l := List.sizeOf_lt_of_mem hx
      have h2 : SizeOf.sizeOf d.l < SizeOf.sizeOf d := by cases d; simp [DPred.l]; omega
      omega
    rw [DPred.o_eq]
    simp [cloL, cloC, hm, DVal.c_eq]
theorem clo_DPred (d : DPred) : cloL d.o = true := clo_DPred_fuel _ d (Nat.le_refl _)
theorem clo_Pred (l : List DPred) : cloE (l.map DPred.o) = true := cloE_map clo_DPred
theorem clo_DQuery (d : DQuery) : cloL d.o = true := by
  rw [DQuery.o_eq]
  simp [cloL, cloC, DPred.o_eq, DVal.c_eq, clo_Pred, clo_int]
theorem clo_Query (l : List DQuery) : cloE (l.map DQuery.o) = true := cloE_map clo_DQuery
theorem clo_DResult (d : DResult) : cloL d.o = true := by
  rw [DResult.o_eq]
  simp [cloL, cloC, DVal.c_eq, clo_Row]
theorem clo_Result (l : List DResult) : cloE (l.map DResult.o) = true := cloE_map clo_DResult
theorem clo_DDeed (d : DDeed) : cloL d.o = true := by
  rw [DDeed.o_eq]
  simp [cloL, cloC, DPred.o_eq, DQuery.o_eq, DResult.o_eq, DVal.c_eq, clo_Pred, clo_Row, clo_Val, clo_int]
theorem clo_Deed (l : List DDeed) : cloE (l.map DDeed.o) = true := cloE_map clo_DDeed
theorem markByteS_sp (xs : List Int) (k : Int) (hk : 0 ≤ k) (l : Int) (h0 : 0 ≤ szI xs.length l) (hl : l ≤ 1048576) (hb : k + 64 * l ≤ 1099511627776) : MCtr Tryz.prog 144 false [.ow 5 1 (xs.map byteC)] [.c (.v (.int .i64 k))] (MkS 5 1 k l (szI xs.length l)) := by
  have hsz := szS_id xs l h0
  rw [← hsz] at h0 ⊢
  have hxl := (szI_fit (sq_fit h0).1 hl).1
  refine MCtr.mk (fn := Tryz.f144) Tryz.call144 Tryz.func144 rfl mixed Tryz.ntmps144 Tryz.results144 (by kernel_rfl) rfl (.inr rfl) fun us hw0 hw => ?_
  simp only [go_sem, Nat.reduceAdd, Nat.reduceSub, Nat.reduceMul, Nat.reduceLT, Nat.reduceLeDiff, Nat.reduceEqDiff, Nat.succ_ne_zero, reduceIte]
  refine LoopK.mk 1 [0, 1, 5] (A := Nat × List (List Cl) × Int × Int) (fun x => ⟨20, [(0, .pin (.c (.ref 0)) (mkV false us)), (1, .c (.v (.int .i64 x.2.2.1))), (5, .c (.v (.int .i64 x.1)))], [⟨5, 1, x.2.1, true, true⟩]⟩)
    (MkP byteC (fun _ l => l) xs k l (szS (fun _ l => l) xs l)) (fun x => xs.length - x.1) (0, xs.map byteC, k, l - xs.length) ⟨⟨rfl, clo_all1 (cloE_map fun d => rfl)⟩, rfl, MkP.start (fun d => rfl) h0⟩ ?_
  rintro ⟨i, R, k1, l1⟩ hP
  have hn := hP.2.1
  dsimp only at hn
  simp only [go_sem, Nat.reduceAdd, Nat.reduceSub, Nat.reduceMul, Nat.reduceLT, Nat.reduceLeDiff, Nat.reduceEqDiff, Nat.succ_ne_zero, reduceIte, hn]
  refine cndC.mk (fun h => ?_) (fun h => ?_)
  · have hi : i < xs.length := by simpa using h
    obtain ⟨q1, q2, q3, q4, q5, q6⟩ := hP.room hi h0
    try dsimp only at q1
    have hset := set_self (R := R) (i := i) q3
    rw [byteC_eq] at q2
    simp only [go_sem, Nat.reduceAdd, Nat.reduceSub, Nat.reduceMul, Nat.reduceLT, Nat.reduceLeDiff, Nat.reduceEqDiff, Nat.succ_ne_zero, reduceIte, q2, q3, hset, List.set_set, List.length_set, wrap_i64 (n := k1 + 1) (by omega) (by omega), wrap_i64 (n := (i : Int) + 1) (by omega) (by omega)]
    refine ⟨(i + 1, R.set i ?row, k1 + 1, l1), ⟨rfl, ?tr⟩, ?eq, ?P, ?mu⟩
    case eq => exact rfl
    case mu => simp only; omega
    case P => exact hP.step hi h0 rfl (by omega) (by omega) (Int.le_refl _)
    case tr => exact clo_all1 (clo_set hP.2.2.2.1 rfl)
  · have hi : i = xs.length := by have := hP.1; simp at h; dsimp only at this; omega
    obtain ⟨y1, y2⟩ := hP.done 5 1 hi
    simp only [go_sem, Nat.reduceAdd, Nat.reduceSub, Nat.reduceMul, Nat.reduceLT, Nat.reduceLeDiff, Nat.reduceEqDiff, Nat.succ_ne_zero, reduceIte]
    exact ⟨[.ref 0], [.ow 5 1 R], [.c (.v (.int .i64 k1))], rfl, .inr rfl, ⟨rfl, rfl, rfl, rfl, cloE_nr y1, by simp, trivial⟩, by simp only [cloL, cloC, y1, Bool.and_true], rfl, rfl, y2⟩
theorem markValS_sp (xs : List DVal) (k : Int) (hk : 0 ≤ k) (l : Int) (h0 : 0 ≤ (szS szVal xs l)) (hl : l ≤ 1048576) (hb : k + 64 * l ≤ 1099511627776) : MCtr Tryz.prog 62 false [.ow 47 3 (xs.map DVal.c)] [.c (.v (.int .i64 k))] (MkS 47 3 k l (szS szVal xs l)) := by
  have hxl := (szI_fit (sq_fit h0).1 hl).1
  refine MCtr.mk (fn := Tryz.f62) Tryz.call62 Tryz.func62 rfl mixed Tryz.ntmps62 Tryz.results62 (by kernel_rfl) rfl (.inr rfl) fun us hw0 hw => ?_
  simp only [go_sem, Nat.reduceAdd, Nat.reduceSub, Nat.reduceMul, Nat.reduceLT, Nat.reduceLeDiff, Nat.reduceEqDiff, Nat.succ_ne_zero, reduceIte]
  refine LoopK.mk 1 [0, 1, 5] (A := Nat × List (List Cl) × Int × Int) (fun x => ⟨35, [(0, .pin (.c (.ref 0)) (mkV false us)), (1, .c (.v (.int .i64 x.2.2.1))), (5, .c (.v (.int .i64 x.1)))], [⟨47, 3, x.2.1, true, true⟩]⟩)
    (MkP DVal.c szVal xs k l (szS szVal xs l)) (fun x => xs.length - x.1) (0, xs.map DVal.c, k, l - xs.length) ⟨⟨rfl, clo_all1 (cloE_map fun d => by rfl)⟩, rfl, MkP.start (fun d => rfl) h0⟩ ?_
  rintro ⟨i, R, k1, l1⟩ hP
  have hn := hP.2.1
  dsimp only at hn
  simp only [go_sem, Nat.reduceAdd, Nat.reduceSub, Nat.reduceMul, Nat.reduceLT, Nat.reduceLeDiff, Nat.reduceEqDiff, Nat.succ_ne_zero, reduceIte, hn]
  refine cndC.mk (fun h => ?_) (fun h => ?_)
  · have hi : i < xs.length := by simpa using h
    obtain ⟨q1, q2, q3, q4, q5, q6⟩ := hP.room hi h0
    have q7 := (szVal_fit xs[i] l1 q1 (by omega)).2
    have d1 := q1
    rw [szVal_eq] at d1
    obtain ⟨a1_0, b1_0, e1_0⟩ := sq_fit d1
    have w1_0 := (szI_fit a1_0 (by omega)).2
    have eq1 : szVal xs[i] l1 = (szI xs[i].s.size l1) := (szVal_eq xs[i] l1).trans (e1_0)
    have hset := set_self (R := R) (i := i) q3
    rw [DVal.c_eq] at q2
    have h30 : ((3 : Int) = 0) = False := by simp
    simp only [go_sem, Nat.reduceAdd, Nat.reduceSub, Nat.reduceMul, Nat.reduceLT, Nat.reduceLeDiff, Nat.reduceEqDiff, Nat.succ_ne_zero, reduceIte, q2, q3, hset, List.set_set, List.length_set, h30, wrap_i64 (n := k1 + 1) (by omega) (by omega), wrap_i64 (n := k1 + 1 + 1) (by omega) (by omega), wrap_i64 (n := (i : Int) + 1) (by omega) (by omega)]
    refine CallK.mk _ (markText_spec (k1 + 1 + 1) (by omega) (by omega)) fun _ => ?_
    simp only [go_sem, Nat.reduceAdd, Nat.reduceSub, Nat.reduceMul, Nat.reduceLT, Nat.reduceLeDiff, Nat.reduceEqDiff, Nat.succ_ne_zero, reduceIte, q2, q3, hset, List.set_set, List.length_set, h30, wrap_i64 (n := k1 + 1) (by omega) (by omega), wrap_i64 (n := k1 + 1 + 1) (by omega) (by omega), wrap_i64 (n := k1 + 1 + 1 + 1) (by omega) (by omega), wrap_i64 (n := (i : Int) + 1) (by omega) (by omega)]
    refine ⟨(i + 1, R.set i [.v (.int .i64 (k1)), .v (.int .i64 (k1 + 1)), .v (.string (markTx (k1 + 1 + 1)))], k1 + 1 + 1 + 1, szVal xs[i] l1), ⟨rfl, ?tr⟩, ?eq, ?P, ?mu⟩
    case eq => exact rfl
    case mu => simp only; omega
    case P => exact hP.step hi h0 (by simp only [cloL, cloC, Bool.and_true, Bool.true_and]) (by omega) (by omega) q7
    case tr => exact clo_all1 (clo_set hP.2.2.2.1 (by simp only [cloL, cloC, Bool.and_true, Bool.true_and]))
  · have hi : i = xs.length := by have := hP.1; simp at h; dsimp only at this; omega
    obtain ⟨y1, y2⟩ := hP.done 47 3 hi
    simp only [go_sem, Nat.reduceAdd, Nat.reduceSub, Nat.reduceMul, Nat.reduceLT, Nat.reduceLeDiff, Nat.reduceEqDiff, Nat.succ_ne_zero, reduceIte]
    exact ⟨[.ref 0], [.ow 47 3 R], [.c (.v (.int .i64 k1))], rfl, .inr rfl, ⟨rfl, rfl, rfl, rfl, cloE_nr y1, by simp, trivial⟩, by simp only [cloL, cloC, y1, Bool.and_true], rfl, rfl, y2⟩
theorem markRowS_sp (xs : List DRow) (k : Int) (hk : 0 ≤ k) (l : Int) (h0 : 0 ≤ (szS szRow xs l)) (hl : l ≤ 1048576) (hb : k + 64 * l ≤ 1099511627776) : MCtr Tryz.prog 61 false [.ow 113 2 (xs.map DRow.o)] [.c (.v (.int .i64 k))] (MkS 113 2 k l (szS szRow xs l)) := by
  have hxl := (szI_fit (sq_fit h0).1 hl).1
  refine MCtr.mk (fn := Tryz.f61) Tryz.call61 Tryz.func61 rfl mixed Tryz.ntmps61 Tryz.results61 (by kernel_rfl) rfl (.inr rfl) fun us hw0 hw => ?_
  simp only [go_sem, Nat.reduceAdd, Nat.reduceSub, Nat.reduceMul, Nat.reduceLT, Nat.reduceLeDiff, Nat.reduceEqDiff, Nat.succ_ne_zero, reduceIte]
  refine LoopA.mk 1 0 [0, 1, 5] (A := Nat × List (List Cl) × Int × Int) (fun x => ⟨27, [(0, .pin (.c (.ref 0)) (mkV false us)), (1, .c (.v (.int .i64 x.2.2.1))), (5, .c (.v (.int .i64 x.1)))], [⟨113, 2, x.2.1, true, true⟩]⟩)
    (MkP DRow.o szRow xs k l (szS szRow xs l)) (fun x => xs.length - x.1) (0, xs.map DRow.o, k, l - xs.length) ⟨⟨rfl, clo_all1 (cloE_map fun d => by exact clo_DRow d)⟩, rfl, MkP.start (fun d => clo_DRow d) h0⟩ ?_
  rintro ⟨i, R, k1, l1⟩ hP
  have hn := hP.2.1
  dsimp only at hn
  simp only [go_sem, Nat.reduceAdd, Nat.reduceSub, Nat.reduceMul, Nat.reduceLT, Nat.reduceLeDiff, Nat.reduceEqDiff, Nat.succ_ne_zero, reduceIte, hn]
  refine cndC.mk (fun h => ?_) (fun h => ?_)
  · have hi : i < xs.length := by simpa using h
    obtain ⟨q1, q2, q3, q4, q5, q6⟩ := hP.room hi h0
    have q7 := (szRow_fit xs[i] l1 q1 (by omega)).2
    have d1 := q1
    rw [szRow_eq] at d1
    obtain ⟨a1_0, b1_0, e1_0⟩ := sq_fit d1
    have w1_0 := (szS_fit xs[i].l (fun x _ => szVal_fit x) a1_0 (by omega)).2
    have eq1 : szRow xs[i] l1 = (szS szVal xs[i].l l1) := (szRow_eq xs[i] l1).trans (e1_0)
    have hset := set_self (R := R) (i := i) q3
    rw [DRow.o_eq] at q2
    have h30 : ((3 : Int) = 0) = False := by simp
    simp only [go_sem, Nat.reduceAdd, Nat.reduceSub, Nat.reduceMul, Nat.reduceLT, Nat.reduceLeDiff, Nat.reduceEqDiff, Nat.succ_ne_zero, reduceIte, q2, q3, hset, List.set_set, List.length_set, h30, wrap_i64 (n := k1 + 1) (by omega) (by omega), wrap_i64 (n := (i : Int) + 1) (by omega) (by omega)]
    refine MutK.mk false (zs := [.ref 1]) (markValS_sp xs[i].l (k1 + 1) (by omega) l1 a1_0 (by omega) (by omega)) rfl ⟨rfl, rfl, rfl, rfl, nr_Val _, by simp, trivial⟩ rfl (.inr rfl) fun cl' rs hM => ?_
    obtain ⟨R1, m1, rfl, rfl, g1_1, g1_2, g1_3⟩ := hM
    refine ⟨⟨rfl, ⟨rfl, rfl⟩, trivial⟩, ?_⟩
    simp only [go_sem, Nat.reduceAdd, Nat.reduceSub, Nat.reduceMul, Nat.reduceLT, Nat.reduceLeDiff, Nat.reduceEqDiff, Nat.succ_ne_zero, reduceIte, q2, q3, hset, List.set_set, List.length_set, h30, wrap_i64 (n := k1 + 1) (by omega) (by omega), wrap_i64 (n := (i : Int) + 1) (by omega) (by omega)]
    refine ⟨(i + 1, R.set i [.v (.int .i64 (k1)), .ow 47 3 R1], m1, szRow xs[i] l1), .inr ⟨i, R, ?rowr, [.v (.int .i64 (k1)), .ow 47 3 R1], ?ob, ⟨Nat.zero_lt_one, ?e1, ?e2, q3, ?e3⟩, ?own, ⟨rfl, ?tr⟩, ?eq⟩, ?P, ?mu⟩
    case e1 => exact rfl
    case e2 => exact rfl
    case e3 => exact rfl
    case own => exact ⟨rfl, rfl, rfl, rfl, rfl, rfl, cloE_nr g1_3, by simp, fun l hl => by omega⟩
    case eq => exact rfl
    case mu => simp only; omega
    case P => exact hP.step hi h0 (by simp only [cloL, cloC, Bool.and_true, Bool.true_and, g1_3]) (by omega) (by omega) q7
    case tr => exact clo_all1 (clo_set hP.2.2.2.1 (by simp only [cloL, cloC, Bool.and_true, Bool.true_and, g1_3]))
  · have hi : i = xs.length := by have := hP.1; simp at h; dsimp only at this; omega
    obtain ⟨y1, y2⟩ := hP.done 113 2 hi
    simp only [go_sem, Nat.reduceAdd, Nat.reduceSub, Nat.reduceMul, Nat.reduceLT, Nat.reduceLeDiff, Nat.reduceEqDiff, Nat.succ_ne_zero, reduceIte]
    exact ⟨[.ref 0], [.ow 113 2 R], [.c (.v (.int .i64 k1))], rfl, .inr rfl, ⟨rfl, rfl, rfl, rfl, cloE_nr y1, by simp, trivial⟩, by simp only [cloL, cloC, y1, Bool.and_true], rfl, rfl, y2⟩
theorem markPredS_of (xs : List DPred) (hx : ∀ x ∈ xs, ∀ k l, 0 ≤ k → 0 ≤ szS szPred x.l l → l ≤ 1048576 → k + 64 * l ≤ 1099511627776 → MCtr Tryz.prog 68 false [.ow 50 7 (x.l.map DPred.o)] [.c (.v (.int .i64 k))] (MkS 50 7 k l (szS szPred x.l l))) (k : Int) (hk : 0 ≤ k) (l : Int) (h0 : 0 ≤ (szS szPred xs l)) (hl : l ≤ 1048576) (hb : k + 64 * l ≤ 1099511627776) : MCtr Tryz.prog 68 false [.ow 50 7 (xs.map DPred.o)] [.c (.v (.int .i64 k))] (MkS 50 7 k l (szS szPred xs l)) := by
  have hxl := (szI_fit (sq_fit h0).1 hl).1
  refine MCtr.mk (fn := Tryz.f68) Tryz.call68 Tryz.func68 rfl mixed Tryz.ntmps68 Tryz.results68 (by kernel_rfl) rfl (.inr rfl) fun us hw0 hw => ?_
  simp only [go_sem, Nat.reduceAdd, Nat.reduceSub, Nat.reduceMul, Nat.reduceLT, Nat.reduceLeDiff, Nat.reduceEqDiff, Nat.succ_ne_zero, reduceIte]
  refine LoopA.mk 1 0 [0, 1, 5] (A := Nat × List (List Cl) × Int × Int) (fun x => ⟨66, [(0, .pin (.c (.ref 0)) (mkV false us)), (1, .c (.v (.int .i64 x.2.2.1))), (5, .c (.v (.int .i64 x.1)))], [⟨50, 7, x.2.1, true, true⟩]⟩)
    (MkP DPred.o szPred xs k l (szS szPred xs l)) (fun x => xs.length - x.1) (0, xs.map DPred.o, k, l - xs.length) ⟨⟨rfl, clo_all1 (cloE_map fun d => by exact clo_DPred d)⟩, rfl, MkP.start (fun d => clo_DPred d) h0⟩ ?_
  rintro ⟨i, R, k1, l1⟩ hP
  have hn := hP.2.1
  dsimp only at hn
  simp only [go_sem, Nat.reduceAdd, Nat.reduceSub, Nat.reduceMul, Nat.reduceLT, Nat.reduceLeDiff, Nat.reduceEqDiff, Nat.succ_ne_zero, reduceIte, hn]
  refine cndC.mk (fun h => ?_) (fun h => ?_)
  · have hi : i < xs.length := by simpa using h
    obtain ⟨q1, q2, q3, q4, q5, q6⟩ := hP.room hi h0
    have q7 := (szPred_fit xs[i] l1 q1 (by omega)).2
    have d1 := q1
    rw [szPred_eq] at d1
    obtain ⟨a1_0, b1_0, e1_0⟩ := sq_fit d1
    have w1_0 := (szVal_fit xs[i].v _ a1_0 (by omega)).2
    have d2 := a1_0
    rw [szVal_eq] at d2
    obtain ⟨a2_0, b2_0, e2_0⟩ := sq_fit d2
    have w2_0 := (szI_fit a2_0 (by omega)).2
    have eq2 : szVal xs[i].v l1 = (szI xs[i].v.s.size l1) := (szVal_eq xs[i].v l1).trans (e2_0)
    obtain ⟨a1_1, b1_1, e1_1⟩ := sq_fit b1_0
    have w1_1 := (szS_fit xs[i].l (fun x _ => szPred_fit x) a1_1 (by omega)).2
    have eq1 : szPred xs[i] l1 = (szS szPred xs[i].l (szVal xs[i].v l1)) := (szPred_eq xs[i] l1).trans ((e1_0).trans (e1_1))
    have hset := set_self (R := R) (i := i) q3
    rw [DPred.o_eq] at q2
    simp only [DVal.c_eq, List.cons_append, List.nil_append] at q2
    have h30 : ((3 : Int) = 0) = False := by simp
    simp only [go_sem, Nat.reduceAdd, Nat.reduceSub, Nat.reduceMul, Nat.reduceLT, Nat.reduceLeDiff, Nat.reduceEqDiff, Nat.succ_ne_zero, reduceIte, q2, q3, hset, List.set_set, List.length_set, h30, wrap_i64 (n := k1 + 1) (by omega) (by omega), wrap_i64 (n := k1 + 1 + 1) (by omega) (by omega), wrap_i64 (n := k1 + 1 + 1 + 1) (by omega) (by omega), wrap_i64 (n := k1 + 1 + 1 + 1 + 1) (by omega) (by omega), wrap_i64 (n := k1 + 1 + 1 + 1 + 1 + 1) (by omega) (by omega), wrap_i64 (n := (i : Int) + 1) (by omega) (by omega)]
    refine CallK.mk _ (markText_spec (k1 + 1 + 1 + 1 + 1 + 1) (by omega) (by omega)) fun _ => ?_
    simp only [go_sem, Nat.reduceAdd, Nat.reduceSub, Nat.reduceMul, Nat.reduceLT, Nat.reduceLeDiff, Nat.reduceEqDiff, Nat.succ_ne_zero, reduceIte, q2, q3, hset, List.set_set, List.length_set, h30, wrap_i64 (n := k1 + 1) (by omega) (by omega), wrap_i64 (n := k1 + 1 + 1) (by omega) (by omega), wrap_i64 (n := k1 + 1 + 1 + 1) (by omega) (by omega), wrap_i64 (n := k1 + 1 + 1 + 1 + 1) (by omega) (by omega), wrap_i64 (n := k1 + 1 + 1 + 1 + 1 + 1) (by omega) (by omega), wrap_i64 (n := k1 + 1 + 1 + 1 + 1 + 1 + 1) (by omega) (by omega), wrap_i64 (n := (i : Int) + 1) (by omega) (by omega)]
    refine MutK.mk false (zs := [.ref 1]) (hx xs[i] (List.getElem_mem hi) (k1 + 1 + 1 + 1 + 1 + 1 + 1) (szVal xs[i].v l1) (by omega) a1_1 (by omega) (by omega)) rfl ⟨rfl, rfl, rfl, rfl, nr_Pred _, by simp, trivial⟩ rfl (.inr rfl) fun cl' rs hM => ?_
    obtain ⟨R1, m1, rfl, rfl, g1_1, g1_2, g1_3⟩ := hM
    refine ⟨⟨rfl, ⟨rfl, rfl⟩, trivial⟩, ?_⟩
    simp only [go_sem, Nat.reduceAdd, Nat.reduceSub, Nat.reduceMul, Nat.reduceLT, Nat.reduceLeDiff, Nat.reduceEqDiff, Nat.succ_ne_zero, reduceIte, q2, q3, hset, List.set_set, List.length_set, h30, wrap_i64 (n := k1 + 1) (by omega) (by omega), wrap_i64 (n := k1 + 1 + 1) (by omega) (by omega), wrap_i64 (n := k1 + 1 + 1 + 1) (by omega) (by omega), wrap_i64 (n := k1 + 1 + 1 + 1 + 1) (by omega) (by omega), wrap_i64 (n := k1 + 1 + 1 + 1 + 1 + 1) (by omega) (by omega), wrap_i64 (n := k1 + 1 + 1 + 1 + 1 + 1 + 1) (by omega) (by omega), wrap_i64 (n := (i : Int) + 1) (by omega) (by omega)]
    refine ⟨(i + 1, R.set i [.v (.int .i64 (k1)), .v (.int .i64 (k1 + 1)), .v (.int .i64 (k1 + 1 + 1)), .v (.int .i64 (k1 + 1 + 1 + 1)), .v (.int .i64 (k1 + 1 + 1 + 1 + 1)), .v (.string (markTx (k1 + 1 + 1 + 1 + 1 + 1))), .ow 50 7 R1], m1, szPred xs[i] l1), .inr ⟨i, R, ?rowr, [.v (.int .i64 (k1)), .v (.int .i64 (k1 + 1)), .v (.int .i64 (k1 + 1 + 1)), .v (.int .i64 (k1 + 1 + 1 + 1)), .v (.int .i64 (k1 + 1 + 1 + 1 + 1)), .v (.string (markTx (k1 + 1 + 1 + 1 + 1 + 1))), .ow 50 7 R1], ?ob, ⟨Nat.zero_lt_one, ?e1, ?e2, q3, ?e3⟩, ?own, ⟨rfl, ?tr⟩, ?eq⟩, ?P, ?mu⟩
    case e1 => exact rfl
    case e2 => exact rfl
    case e3 => exact rfl
    case own => exact ⟨rfl, rfl, rfl, rfl, rfl, rfl, rfl, rfl, rfl, rfl, rfl, rfl, rfl, rfl, rfl, rfl, cloE_nr g1_3, by simp, fun l hl => by omega⟩
    case eq => exact rfl
    case mu => simp only; omega
    case P => exact hP.step hi h0 (by simp only [cloL, cloC, Bool.and_true, Bool.true_and, g1_3]) (by omega) (by omega) q7
    case tr => exact clo_all1 (clo_set hP.2.2.2.1 (by simp only [cloL, cloC, Bool.and_true, Bool.true_and, g1_3]))
  · have hi : i = xs.length := by have := hP.1; simp at h; dsimp only at this; omega
    obtain ⟨y1, y2⟩ := hP.done 50 7 hi
    simp only [go_sem, Nat.reduceAdd, Nat.reduceSub, Nat.reduceMul, Nat.reduceLT, Nat.reduceLeDiff, Nat.reduceEqDiff, Nat.succ_ne_zero, reduceIte]
    exact ⟨[.ref 0], [.ow 50 7 R], [.c (.v (.int .i64 k1))], rfl, .inr rfl, ⟨rfl, rfl, rfl, rfl, cloE_nr y1, by simp, trivial⟩, by simp only [cloL, cloC, y1, Bool.and_true], rfl, rfl, y2⟩
theorem markPredS_fuel : ∀ (n : Nat) (xs : List DPred), (∀ x ∈ xs, SizeOf.sizeOf x ≤ n) → ∀ (k l : Int), 0 ≤ k → 0 ≤ szS szPred xs l → l ≤ 1048576 → k + 64 * l ≤ 1099511627776 → MCtr Tryz.prog 68 false [.ow 50 7 (xs.map DPred.o)] [.c (.v (.int .i64 k))] (MkS 50 7 k l (szS szPred xs l))
  | 0, xs, h, k, l, h1, h2, h3, h4 => markPredS_of xs (fun x hx => by have := h x hx; cases x; simp at this) k h1 l h2 h3 h4
  | n + 1, xs, h, k, l, h1, h2, h3, h4 => markPredS_of xs (fun x hx k l g1 g2 g3 g4 => markPredS_fuel n x.l (fun y hy => by
      have h1 : SizeOf.sizeOf y < SizeOf.sizeOf x.l := List.sizeOf_lt_of_mem hy
      have h2 : SizeOf.sizeOf x.l < SizeOf.sizeOf x := by cases x; simp [DPred.l]; omega
      have := h x hx
      omega) k l g1 g2 g3 g4) k h1 l h2 h3 h4
theorem markPredS_sp (xs : List DPred) (k : Int) (hk : 0 ≤ k) (l : Int) (h0 : 0 ≤ (szS szPred xs l)) (hl : l ≤ 1048576) (hb : k + 64 * l ≤ 1099511627776) : MCtr Tryz.prog 68 false [.ow 50 7 (xs.map DPred.o)] [.c (.v (.int .i64 k))] (MkS 50 7 k l (szS szPred xs l)) := markPredS_fuel (SizeOf.sizeOf xs) xs (fun x hx => Nat.le_of_lt (List.sizeOf_lt_of_mem hx)) k l hk h0 hl hb
theorem markDeedS_sp (xs : List DDeed) (k : Int) (hk : 0 ≤ k) (l : Int) (h0 : 0 ≤ (szS szDeed xs l)) (hl : l ≤ 1048576) (hb : k + 64 * l ≤ 1099511627776) : MCtr Tryz.prog 22 false [.ow 56 25 (xs.map DDeed.o)] [.c (.v (.int .i64 k))] (MkS 56 25 k l (szS szDeed xs l)) := by
  have hxl := (szI_fit (sq_fit h0).1 hl).1
  refine MCtr.mk (fn := Tryz.f22) Tryz.call22 Tryz.func22 rfl mixed Tryz.ntmps22 Tryz.results22 (by kernel_rfl) rfl (.inr rfl) fun us hw0 hw => ?_
  simp only [go_sem, Nat.reduceAdd, Nat.reduceSub, Nat.reduceMul, Nat.reduceLT, Nat.reduceLeDiff, Nat.reduceEqDiff, Nat.succ_ne_zero, reduceIte]
  refine LoopA.mk 1 0 [0, 1, 5] (A := Nat × List (List Cl) × Int × Int) (fun x => ⟨221, [(0, .pin (.c (.ref 0)) (mkV false us)), (1, .c (.v (.int .i64 x.2.2.1))), (5, .c (.v (.int .i64 x.1)))], [⟨56, 25, x.2.1, true, true⟩]⟩)
    (MkP DDeed.o szDeed xs k l (szS szDeed xs l)) (fun x => xs.length - x.1) (0, xs.map DDeed.o, k, l - xs.length) ⟨⟨rfl, clo_all1 (cloE_map fun d => by exact clo_DDeed d)⟩, rfl, MkP.start (fun d => clo_DDeed d) h0⟩ ?_
  rintro ⟨i, R, k1, l1⟩ hP
  have hn := hP.2.1
  dsimp only at hn
  simp only [go_sem, Nat.reduceAdd, Nat.reduceSub, Nat.reduceMul, Nat.reduceLT, Nat.reduceLeDiff, Nat.reduceEqDiff, Nat.succ_ne_zero, reduceIte, hn]
  refine cndC.mk (fun h => ?_) (fun h => ?_)
  · have hi : i < xs.length := by simpa using h
    obtain ⟨q1, q2, q3, q4, q5, q6⟩ := hP.room hi h0
    have q7 := (szDeed_fit xs[i] l1 q1 (by omega)).2
    have d1 := q1
    rw [szDeed_eq] at d1
    obtain ⟨a1_0, b1_0, e1_0⟩ := sq_fit d1
    have w1_0 := (szS_fit xs[i].r (fun x _ => szVal_fit x) a1_0 (by omega)).2
    obtain ⟨a1_1, b1_1, e1_1⟩ := sq_fit b1_0
    have w1_1 := (szQuery_fit xs[i].q _ a1_1 (by omega)).2
    have d2 := a1_1
    rw [szQuery_eq] at d2
    obtain ⟨a2_0, b2_0, e2_0⟩ := sq_fit d2
    have w2_0 := (szPred_fit xs[i].q.p _ a2_0 (by omega)).2
    have d3 := a2_0
    rw [szPred_eq] at d3
    obtain ⟨a3_0, b3_0, e3_0⟩ := sq_fit d3
    have w3_0 := (szVal_fit xs[i].q.p.v _ a3_0 (by omega)).2
    have d4 := a3_0
    rw [szVal_eq] at d4
    obtain ⟨a4_0, b4_0, e4_0⟩ := sq_fit d4
    have w4_0 := (szI_fit a4_0 (by omega)).2
    have eq4 : szVal xs[i].q.p.v (szS szVal xs[i].r l1) = (szI xs[i].q.p.v.s.size (szS szVal xs[i].r l1)) := (szVal_eq xs[i].q.p.v (szS szVal xs[i].r l1)).trans (e4_0)
    obtain ⟨a3_1, b3_1, e3_1⟩ := sq_fit b3_0
    have w3_1 := (szS_fit xs[i].q.p.l (fun x _ => szPred_fit x) a3_1 (by omega)).2
    have eq3 : szPred xs[i].q.p (szS szVal xs[i].r l1) = (szS szPred xs[i].q.p.l (szVal xs[i].q.p.v (szS szVal xs[i].r l1))) := (szPred_eq xs[i].q.p (szS szVal xs[i].r l1)).trans ((e3_0).trans (e3_1))
    obtain ⟨a2_1, b2_1, e2_1⟩ := sq_fit b2_0
    have w2_1 := (szI_fit a2_1 (by omega)).2
    have eq2 : szQuery xs[i].q (szS szVal xs[i].r l1) = (szI xs[i].q.out.length (szPred xs[i].q.p (szS szVal xs[i].r l1))) := (szQuery_eq xs[i].q (szS szVal xs[i].r l1)).trans ((e2_0).trans (e2_1))
    obtain ⟨a1_2, b1_2, e1_2⟩ := sq_fit b1_1
    have w1_2 := (szResult_fit xs[i].res _ a1_2 (by omega)).2
    have d5 := a1_2
    rw [szResult_eq] at d5
    obtain ⟨a5_0, b5_0, e5_0⟩ := sq_fit d5
    have w5_0 := (szS_fit xs[i].res.rows (fun x _ => szRow_fit x) a5_0 (by omega)).2
    obtain ⟨a5_1, b5_1, e5_1⟩ := sq_fit b5_0
    have w5_1 := (szVal_fit xs[i].res.v _ a5_1 (by omega)).2
    have d6 := a5_1
    rw [szVal_eq] at d6
    obtain ⟨a6_0, b6_0, e6_0⟩ := sq_fit d6
    have w6_0 := (szI_fit a6_0 (by omega)).2
    have eq6 : szVal xs[i].res.v (szS szRow xs[i].res.rows (szQuery xs[i].q (szS szVal xs[i].r l1))) = (szI xs[i].res.v.s.size (szS szRow xs[i].res.rows (szQuery xs[i].q (szS szVal xs[i].r l1)))) := (szVal_eq xs[i].res.v (szS szRow xs[i].res.rows (szQuery xs[i].q (szS szVal xs[i].r l1)))).trans (e6_0)
    have eq5 : szResult xs[i].res (szQuery xs[i].q (szS szVal xs[i].r l1)) = (szVal xs[i].res.v (szS szRow xs[i].res.rows (szQuery xs[i].q (szS szVal xs[i].r l1)))) := (szResult_eq xs[i].res (szQuery xs[i].q (szS szVal xs[i].r l1))).trans ((e5_0).trans (e5_1))
    have eq1 : szDeed xs[i] l1 = (szResult xs[i].res (szQuery xs[i].q (szS szVal xs[i].r l1))) := (szDeed_eq xs[i] l1).trans ((e1_0).trans ((e1_1).trans (e1_2)))
    have hset := set_self (R := R) (i := i) q3
    rw [DDeed.o_eq] at q2
    simp only [DPred.o_eq, DQuery.o_eq, DResult.o_eq, DVal.c_eq, List.cons_append, List.nil_append] at q2
    have h30 : ((3 : Int) = 0) = False := by simp
    simp only [go_sem, Nat.reduceAdd, Nat.reduceSub, Nat.reduceMul, Nat.reduceLT, Nat.reduceLeDiff, Nat.reduceEqDiff, Nat.succ_ne_zero, reduceIte, q2, q3, hset, List.set_set, List.length_set, h30, wrap_i64 (n := k1 + 1) (by omega) (by omega), wrap_i64 (n := k1 + 1 + 1) (by omega) (by omega), wrap_i64 (n := (i : Int) + 1) (by omega) (by omega)]
    refine MutK.mk false (zs := [.ref 1]) (markValS_sp xs[i].r (k1 + 1 + 1) (by omega) l1 a1_0 (by omega) (by omega)) rfl ⟨rfl, rfl, rfl, rfl, nr_Val _, by simp, trivial⟩ rfl (.inr rfl) fun cl' rs hM => ?_
    obtain ⟨R1, m1, rfl, rfl, g1_1, g1_2, g1_3⟩ := hM
    refine ⟨⟨rfl, ⟨rfl, rfl⟩, trivial⟩, ?_⟩
    simp only [go_sem, Nat.reduceAdd, Nat.reduceSub, Nat.reduceMul, Nat.reduceLT, Nat.reduceLeDiff, Nat.reduceEqDiff, Nat.succ_ne_zero, reduceIte, q2, q3, hset, List.set_set, List.length_set, h30, wrap_i64 (n := k1 + 1) (by omega) (by omega), wrap_i64 (n := k1 + 1 + 1) (by omega) (by omega), wrap_i64 (n := m1 + 1) (by omega) (by omega), wrap_i64 (n := m1 + 1 + 1) (by omega) (by omega), wrap_i64 (n := m1 + 1 + 1 + 1) (by omega) (by omega), wrap_i64 (n := m1 + 1 + 1 + 1 + 1) (by omega) (by omega), wrap_i64 (n := m1 + 1 + 1 + 1 + 1 + 1) (by omega) (by omega), wrap_i64 (n := m1 + 1 + 1 + 1 + 1 + 1 + 1) (by omega) (by omega), wrap_i64 (n := m1 + 1 + 1 + 1 + 1 + 1 + 1 + 1) (by omega) (by omega), wrap_i64 (n := (i : Int) + 1) (by omega) (by omega)]
    refine CallK.mk _ (markText_spec (m1 + 1 + 1 + 1 + 1 + 1 + 1 + 1) (by omega) (by omega)) fun _ => ?_
    simp only [go_sem, Nat.reduceAdd, Nat.reduceSub, Nat.reduceMul, Nat.reduceLT, Nat.reduceLeDiff, Nat.reduceEqDiff, Nat.succ_ne_zero, reduceIte, q2, q3, hset, List.set_set, List.length_set, h30, wrap_i64 (n := k1 + 1) (by omega) (by omega), wrap_i64 (n := k1 + 1 + 1) (by omega) (by omega), wrap_i64 (n := m1 + 1) (by omega) (by omega), wrap_i64 (n := m1 + 1 + 1) (by omega) (by omega), wrap_i64 (n := m1 + 1 + 1 + 1) (by omega) (by omega), wrap_i64 (n := m1 + 1 + 1 + 1 + 1) (by omega) (by omega), wrap_i64 (n := m1 + 1 + 1 + 1 + 1 + 1) (by omega) (by omega), wrap_i64 (n := m1 + 1 + 1 + 1 + 1 + 1 + 1) (by omega) (by omega), wrap_i64 (n := m1 + 1 + 1 + 1 + 1 + 1 + 1 + 1) (by omega) (by omega), wrap_i64 (n := m1 + 1 + 1 + 1 + 1 + 1 + 1 + 1 + 1) (by omega) (by omega), wrap_i64 (n := (i : Int) + 1) (by omega) (by omega)]
    refine MutK.mk false (zs := [.ref 2]) (markPredS_sp xs[i].q.p.l (m1 + 1 + 1 + 1 + 1 + 1 + 1 + 1 + 1) (by omega) (szVal xs[i].q.p.v (szS szVal xs[i].r l1)) a3_1 (by omega) (by omega)) rfl ⟨rfl, rfl, rfl, rfl, nr_Pred _, by simp, trivial⟩ rfl (.inr rfl) fun cl' rs hM => ?_
    obtain ⟨R2, m2, rfl, rfl, g2_1, g2_2, g2_3⟩ := hM
    refine ⟨⟨rfl, ⟨rfl, rfl⟩, trivial⟩, ?_⟩
    simp only [go_sem, Nat.reduceAdd, Nat.reduceSub, Nat.reduceMul, Nat.reduceLT, Nat.reduceLeDiff, Nat.reduceEqDiff, Nat.succ_ne_zero, reduceIte, q2, q3, hset, List.set_set, List.length_set, h30, wrap_i64 (n := k1 + 1) (by omega) (by omega), wrap_i64 (n := k1 + 1 + 1) (by omega) (by omega), wrap_i64 (n := m1 + 1) (by omega) (by omega), wrap_i64 (n := m1 + 1 + 1) (by omega) (by omega), wrap_i64 (n := m1 + 1 + 1 + 1) (by omega) (by omega), wrap_i64 (n := m1 + 1 + 1 + 1 + 1) (by omega) (by omega), wrap_i64 (n := m1 + 1 + 1 + 1 + 1 + 1) (by omega) (by omega), wrap_i64 (n := m1 + 1 + 1 + 1 + 1 + 1 + 1) (by omega) (by omega), wrap_i64 (n := m1 + 1 + 1 + 1 + 1 + 1 + 1 + 1) (by omega) (by omega), wrap_i64 (n := m1 + 1 + 1 + 1 + 1 + 1 + 1 + 1 + 1) (by omega) (by omega), wrap_i64 (n := m2 + 1) (by omega) (by omega), wrap_i64 (n := (i : Int) + 1) (by omega) (by omega)]
    refine MutK.mk false (zs := [.ref 3]) (markIntS_sp xs[i].q.out (m2 + 1) (by omega) (szPred xs[i].q.p (szS szVal xs[i].r l1)) a2_1 (by omega) (by omega)) rfl ⟨rfl, rfl, rfl, rfl, nr_int _, by simp, trivial⟩ rfl (.inr rfl) fun cl' rs hM => ?_
    obtain ⟨R3, m3, rfl, rfl, g3_1, g3_2, g3_3⟩ := hM
    refine ⟨⟨rfl, ⟨rfl, rfl⟩, trivial⟩, ?_⟩
    simp only [go_sem, Nat.reduceAdd, Nat.reduceSub, Nat.reduceMul, Nat.reduceLT, Nat.reduceLeDiff, Nat.reduceEqDiff, Nat.succ_ne_zero, reduceIte, q2, q3, hset, List.set_set, List.length_set, h30, wrap_i64 (n := k1 + 1) (by omega) (by omega), wrap_i64 (n := k1 + 1 + 1) (by omega) (by omega), wrap_i64 (n := m1 + 1) (by omega) (by omega), wrap_i64 (n := m1 + 1 + 1) (by omega) (by omega), wrap_i64 (n := m1 + 1 + 1 + 1) (by omega) (by omega), wrap_i64 (n := m1 + 1 + 1 + 1 + 1) (by omega) (by omega), wrap_i64 (n := m1 + 1 + 1 + 1 + 1 + 1) (by omega) (by omega), wrap_i64 (n := m1 + 1 + 1 + 1 + 1 + 1 + 1) (by omega) (by omega), wrap_i64 (n := m1 + 1 + 1 + 1 + 1 + 1 + 1 + 1) (by omega) (by omega), wrap_i64 (n := m1 + 1 + 1 + 1 + 1 + 1 + 1 + 1 + 1) (by omega) (by omega), wrap_i64 (n := m2 + 1) (by omega) (by omega), wrap_i64 (n := (i : Int) + 1) (by omega) (by omega)]
    refine MutK.mk false (zs := [.ref 4]) (markRowS_sp xs[i].res.rows (m3) (by omega) (szQuery xs[i].q (szS szVal xs[i].r l1)) a5_0 (by omega) (by omega)) rfl ⟨rfl, rfl, rfl, rfl, nr_Row _, by simp, trivial⟩ rfl (.inr rfl) fun cl' rs hM => ?_
    obtain ⟨R4, m4, rfl, rfl, g4_1, g4_2, g4_3⟩ := hM
    refine ⟨⟨rfl, ⟨rfl, rfl⟩, trivial⟩, ?_⟩
    simp only [go_sem, Nat.reduceAdd, Nat.reduceSub, Nat.reduceMul, Nat.reduceLT, Nat.reduceLeDiff, Nat.reduceEqDiff, Nat.succ_ne_zero, reduceIte, q2, q3, hset, List.set_set, List.length_set, h30, wrap_i64 (n := k1 + 1) (by omega) (by omega), wrap_i64 (n := k1 + 1 + 1) (by omega) (by omega), wrap_i64 (n := m1 + 1) (by omega) (by omega), wrap_i64 (n := m1 + 1 + 1) (by omega) (by omega), wrap_i64 (n := m1 + 1 + 1 + 1) (by omega) (by omega), wrap_i64 (n := m1 + 1 + 1 + 1 + 1) (by omega) (by omega), wrap_i64 (n := m1 + 1 + 1 + 1 + 1 + 1) (by omega) (by omega), wrap_i64 (n := m1 + 1 + 1 + 1 + 1 + 1 + 1) (by omega) (by omega), wrap_i64 (n := m1 + 1 + 1 + 1 + 1 + 1 + 1 + 1) (by omega) (by omega), wrap_i64 (n := m1 + 1 + 1 + 1 + 1 + 1 + 1 + 1 + 1) (by omega) (by omega), wrap_i64 (n := m2 + 1) (by omega) (by omega), wrap_i64 (n := m4 + 1) (by omega) (by omega), wrap_i64 (n := m4 + 1 + 1) (by omega) (by omega), wrap_i64 (n := m4 + 1 + 1 + 1) (by omega) (by omega), wrap_i64 (n := m4 + 1 + 1 + 1 + 1) (by omega) (by omega), wrap_i64 (n := (i : Int) + 1) (by omega) (by omega)]
    refine CallK.mk _ (markText_spec (m4 + 1 + 1 + 1 + 1) (by omega) (by omega)) fun _ => ?_
    simp only [go_sem, Nat.reduceAdd, Nat.reduceSub, Nat.reduceMul, Nat.reduceLT, Nat.reduceLeDiff, Nat.reduceEqDiff, Nat.succ_ne_zero, reduceIte, q2, q3, hset, List.set_set, List.length_set, h30, wrap_i64 (n := k1 + 1) (by omega) (by omega), wrap_i64 (n := k1 + 1 + 1) (by omega) (by omega), wrap_i64 (n := m1 + 1) (by omega) (by omega), wrap_i64 (n := m1 + 1 + 1) (by omega) (by omega), wrap_i64 (n := m1 + 1 + 1 + 1) (by omega) (by omega), wrap_i64 (n := m1 + 1 + 1 + 1 + 1) (by omega) (by omega), wrap_i64 (n := m1 + 1 + 1 + 1 + 1 + 1) (by omega) (by omega), wrap_i64 (n := m1 + 1 + 1 + 1 + 1 + 1 + 1) (by omega) (by omega), wrap_i64 (n := m1 + 1 + 1 + 1 + 1 + 1 + 1 + 1) (by omega) (by omega), wrap_i64 (n := m1 + 1 + 1 + 1 + 1 + 1 + 1 + 1 + 1) (by omega) (by omega), wrap_i64 (n := m2 + 1) (by omega) (by omega), wrap_i64 (n := m4 + 1) (by omega) (by omega), wrap_i64 (n := m4 + 1 + 1) (by omega) (by omega), wrap_i64 (n := m4 + 1 + 1 + 1) (by omega) (by omega), wrap_i64 (n := m4 + 1 + 1 + 1 + 1) (by omega) (by omega), wrap_i64 (n := m4 + 1 + 1 + 1 + 1 + 1) (by omega) (by omega), wrap_i64 (n := m4 + 1 + 1 + 1 + 1 + 1 + 1) (by omega) (by omega), wrap_i64 (n := m4 + 1 + 1 + 1 + 1 + 1 + 1 + 1) (by omega) (by omega), wrap_i64 (n := m4 + 1 + 1 + 1 + 1 + 1 + 1 + 1 + 1) (by omega) (by omega), wrap_i64 (n := m4 + 1 + 1 + 1 + 1 + 1 + 1 + 1 + 1 + 1) (by omega) (by omega), wrap_i64 (n := m4 + 1 + 1 + 1 + 1 + 1 + 1 + 1 + 1 + 1 + 1) (by omega) (by omega), wrap_i64 (n := (i : Int) + 1) (by omega) (by omega)]
    refine ⟨(i + 1, R.set i [.v (.int .i64 (k1)), .v (.int .i64 (k1 + 1)), .ow 47 3 R1, .v (.int .i64 (m1)), .v (.int .i64 (m1 + 1)), .v (.int .i64 (m1 + 1 + 1)), .v (.int .i64 (m1 + 1 + 1 + 1)), .v (.int .i64 (m1 + 1 + 1 + 1 + 1)), .v (.int .i64 (m1 + 1 + 1 + 1 + 1 + 1)), .v (.int .i64 (m1 + 1 + 1 + 1 + 1 + 1 + 1)), .v (.string (markTx (m1 + 1 + 1 + 1 + 1 + 1 + 1 + 1))), .ow 50 7 R2, .v (.int .i64 (m2)), .ow 3 1 R3, .ow 113 2 R4, .v (.int .i64 (m4)), .v (.bool (IntKind.i64.wrap ((m4 + 1).tmod 3) == 0)), .v (.int .i64 (m4 + 1 + 1)), .v (.int .i64 (m4 + 1 + 1 + 1)), .v (.string (markTx (m4 + 1 + 1 + 1 + 1))), .v (.int .i64 (m4 + 1 + 1 + 1 + 1 + 1)), .v (.int .i64 (m4 + 1 + 1 + 1 + 1 + 1 + 1)), .v (.int .i64 (m4 + 1 + 1 + 1 + 1 + 1 + 1 + 1)), .v (.int .i64 (m4 + 1 + 1 + 1 + 1 + 1 + 1 + 1 + 1)), .v (.int .i64 (m4 + 1 + 1 + 1 + 1 + 1 + 1 + 1 + 1 + 1))], m4 + 1 + 1 + 1 + 1 + 1 + 1 + 1 + 1 + 1 + 1, szDeed xs[i] l1), .inr ⟨i, R, ?rowr, [.v (.int .i64 (k1)), .v (.int .i64 (k1 + 1)), .ow 47 3 R1, .v (.int .i64 (m1)), .v (.int .i64 (m1 + 1)), .v (.int .i64 (m1 + 1 + 1)), .v (.int .i64 (m1 + 1 + 1 + 1)), .v (.int .i64 (m1 + 1 + 1 + 1 + 1)), .v (.int .i64 (m1 + 1 + 1 + 1 + 1 + 1)), .v (.int .i64 (m1 + 1 + 1 + 1 + 1 + 1 + 1)), .v (.string (markTx (m1 + 1 + 1 + 1 + 1 + 1 + 1 + 1))), .ow 50 7 R2, .v (.int .i64 (m2)), .ow 3 1 R3, .ow 113 2 R4, .v (.int .i64 (m4)), .v (.bool (IntKind.i64.wrap ((m4 + 1).tmod 3) == 0)), .v (.int .i64 (m4 + 1 + 1)), .v (.int .i64 (m4 + 1 + 1 + 1)), .v (.string (markTx (m4 + 1 + 1 + 1 + 1))), .v (.int .i64 (m4 + 1 + 1 + 1 + 1 + 1)), .v (.int .i64 (m4 + 1 + 1 + 1 + 1 + 1 + 1)), .v (.int .i64 (m4 + 1 + 1 + 1 + 1 + 1 + 1 + 1)), .v (.int .i64 (m4 + 1 + 1 + 1 + 1 + 1 + 1 + 1 + 1)), .v (.int .i64 (m4 + 1 + 1 + 1 + 1 + 1 + 1 + 1 + 1 + 1))], ?ob, ⟨Nat.zero_lt_one, ?e1, ?e2, q3, ?e3⟩, ?own, ⟨rfl, ?tr⟩, ?eq⟩, ?P, ?mu⟩
    case e1 => exact rfl
    case e2 => exact rfl
    case e3 => exact rfl
    case own => exact ⟨rfl, rfl, rfl, rfl, rfl, rfl, rfl, rfl, cloE_nr g1_3, by simp, rfl, rfl, rfl, rfl, rfl, rfl, rfl, rfl, rfl, rfl, rfl, rfl, rfl, rfl, rfl, rfl, rfl, rfl, rfl, rfl, cloE_nr g2_3, by simp, rfl, rfl, rfl, rfl, rfl, rfl, cloE_nr g3_3, by simp, rfl, rfl, rfl, rfl, cloE_nr g4_3, by simp, rfl, rfl, rfl, rfl, rfl, rfl, rfl, rfl, rfl, rfl, rfl, rfl, rfl, rfl, rfl, rfl, rfl, rfl, rfl, rfl, fun l hl => by omega⟩
    case eq => exact rfl
    case mu => simp only; omega
    case P => exact hP.step hi h0 (by simp only [cloL, cloC, Bool.and_true, Bool.true_and, g1_3, g2_3, g3_3, g4_3]) (by omega) (by omega) q7
    case tr => exact clo_all1 (clo_set hP.2.2.2.1 (by simp only [cloL, cloC, Bool.and_true, Bool.true_and, g1_3, g2_3, g3_3, g4_3]))
  · have hi : i = xs.length := by have := hP.1; simp at h; dsimp only at this; omega
    obtain ⟨y1, y2⟩ := hP.done 56 25 hi
    simp only [go_sem, Nat.reduceAdd, Nat.reduceSub, Nat.reduceMul, Nat.reduceLT, Nat.reduceLeDiff, Nat.reduceEqDiff, Nat.succ_ne_zero, reduceIte]
    exact ⟨[.ref 0], [.ow 56 25 R], [.c (.v (.int .i64 k1))], rfl, .inr rfl, ⟨rfl, rfl, rfl, rfl, cloE_nr y1, by simp, trivial⟩, by simp only [cloL, cloC, y1, Bool.and_true], rfl, rfl, y2⟩

end Go.Proofs.YtepjgnlinjlehaaGreat
