/- The law's walk: Apply. -/
import Derived.Test.YtepjgnlinjlehaaGreatBe
import Derived.Test.YtepjgnlinjlehaaGreatAo
namespace Go.Proofs.YtepjgnlinjlehaaGreat
set_option linter.unusedSimpArgs false
set_option linter.unusedVariables false
open Go.Vm
set_option maxHeartbeats 2000000
set_option maxRecDepth 10000

theorem markI_len (k : Int) (n : Nat) : (markI k n).length = n := by simp [markI]
theorem markI_at (k : Int) (n i : Nat) (h : i < n) : (markI k n)[i]? = some (k + (i : Int)) := by simp [markI, h]
/-- Marked ints, held. -/
theorem heldIntS_spec (k : Int) (n : Nat) (hk : 0 ≤ k) (hb : k + n ≤ 1099511627776) : Ctr Tryz.prog 65 [.c (.sl ((markI k n).map intC)), .c (.v (.int .i64 (k)))] [.val (.c (.v (.int .i64 (k + n))))] := by
  refine Ctr.mk (fn := Tryz.f65) Tryz.call65 Tryz.func65 rfl mixed Tryz.ntmps65 Tryz.results65 (by kernel_rfl) rfl fun hw => ?_
  simp only [go_sem, List.getElem?_toArray, Nat.reduceBEq, Nat.reduceAdd, Nat.reduceSub, Nat.reduceMul, Nat.reduceLT, Nat.reduceLeDiff, Nat.reduceEqDiff, Nat.succ_ne_zero, reduceIte]
  refine LoopK.mk 0 [0, 1, 5] (A := Nat) (fun i => ⟨21, [(0, .c (.sl ((markI k n).map intC))), (1, .c (.v (.int .i64 (k + i)))), (5, .c (.v (.int .i64 (i))))], []⟩) (fun i => i ≤ n) (fun i => n - i) 0 ⟨⟨rfl, rfl⟩, by simp [trim, eget], Nat.zero_le _⟩ ?_
  intro i hi
  simp only [go_sem, List.getElem?_toArray, Nat.reduceBEq, Nat.reduceAdd, Nat.reduceSub, Nat.reduceMul, Nat.reduceLT, Nat.reduceLeDiff, Nat.reduceEqDiff, Nat.succ_ne_zero, reduceIte, List.length_map, markI_len]
  refine cndC.mk (fun h => ?_) (fun h => ?_)
  · have hi' : i < n := by simpa using h
    have e1 : ((markI k n).map intC)[i]? = some [.v (.int .i64 (k + i))] := by rw [List.getElem?_map, markI_at k n i hi']; rfl
    have e2 : (!(k + (i : Int) == k + (i : Int))) = false := by simp
    simp only [go_sem, List.getElem?_toArray, Nat.reduceBEq, Nat.reduceAdd, Nat.reduceSub, Nat.reduceMul, Nat.reduceLT, Nat.reduceLeDiff, Nat.reduceEqDiff, Nat.succ_ne_zero, reduceIte, List.length_map, e1, bne_self_eq_false, wrap_i64 (n := (k + (i : Int)) + 1) (by omega) (by omega), wrap_i64 (n := (i : Int) + 1) (by omega) (by omega)]
    exact ⟨i + 1, ⟨rfl, rfl⟩, by simp [trim, eget]; omega, by omega, by omega⟩
  · have hi' : i = n := by simp at h; omega
    subst hi'
    simp only [go_sem, List.getElem?_toArray, Nat.reduceBEq, Nat.reduceAdd, Nat.reduceSub, Nat.reduceMul, Nat.reduceLT, Nat.reduceLeDiff, Nat.reduceEqDiff, Nat.succ_ne_zero, reduceIte]

def mkTab (k : Int) (t : DTable) : DTable := ⟨markI k t.cols.length, mkL mkRow ckRow (k + t.cols.length) t.l⟩
def ckTab (k : Int) (t : DTable) : Int := ckL ckRow (k + t.cols.length) t.l
theorem ckVal_bd (k : Int) (x : DVal) : ckVal k x ≤ k + 3 := by unfold ckVal; omega
theorem ckTab_bd (t : DTable) (ht : fitTable t) : 0 ≤ ckTab 1 t ∧ ckTab 1 t ≤ 4000000000000000000 := by
  rw [fitTable_eq] at ht
  have h := ckL_bound (c := ckRow) 3145729 (by omega) t.l (fun x hxx k => by
    have h1 := ckL_bound (c := ckVal) 3 (by omega) x.l (fun y _ k => ckVal_bd k y) (k + 1)
    have h2 := ht.2.2 x hxx
    rw [fitRow_eq] at h2
    have h3 := h2.1
    unfold ckRow
    omega) (1 + t.cols.length)
  have h0 := ckL_le ckRow_le t.l (1 + t.cols.length)
  have h1 := ht.1
  have h2 := ht.2.1
  unfold ckTab
  constructor
  · omega
  · omega
theorem markTable_ex (t : DTable) (ht : fitTable t) : MCtr Tryz.prog 14 true t.o [.c (.v (.int .i64 (1)))] (fun cl' rs => cl' = (mkTab 1 t).o ∧ rs = [.c (.v (.int .i64 (ckTab 1 t)))]) := by
  have hbd := ckTab_bd t ht
  rw [fitTable_eq] at ht
  have h1 := ht.1
  have hrl : ∀ x ∈ t.l, x.l.length ≤ 1048576 := fun x hx => by have := ht.2.2 x hx; rw [fitRow_eq] at this; exact this.1
  refine MCtr.mk (fn := Tryz.f14) Tryz.call14 Tryz.func14 rfl mixed Tryz.ntmps14 Tryz.results14 (by kernel_rfl) rfl (.inl rfl) fun us hw0 hw => ?_
  simp only [go_sem, List.getElem?_toArray, Nat.reduceBEq, Nat.reduceAdd, Nat.reduceSub, Nat.reduceMul, Nat.reduceLT, Nat.reduceLeDiff, Nat.reduceEqDiff, Nat.succ_ne_zero, reduceIte]
  refine MutK.mk false (zs := [.ref 0]) (markIntS_spec t.cols 1 (by omega) (by omega)) rfl ⟨rfl, rfl, rfl, rfl, nr_int _, by simp, trivial⟩ rfl (.inr rfl) fun cl' rs hM => ?_
  obtain ⟨rfl, rfl⟩ := hM
  refine ⟨⟨rfl, ⟨rfl, rfl⟩, trivial⟩, ?_⟩
  simp only [go_sem, List.getElem?_toArray, Nat.reduceBEq, Nat.reduceAdd, Nat.reduceSub, Nat.reduceMul, Nat.reduceLT, Nat.reduceLeDiff, Nat.reduceEqDiff, Nat.succ_ne_zero, reduceIte]
  refine MutK.mk false (zs := [.ref 1]) (markRowS_ex t.l (1 + t.cols.length) (by omega) ht.2.1 hrl hbd.2) rfl ⟨rfl, rfl, rfl, rfl, nr_Row _, by simp, trivial⟩ rfl (.inr rfl) fun cl' rs hM => ?_
  obtain ⟨rfl, rfl⟩ := hM
  refine ⟨⟨rfl, ⟨rfl, rfl⟩, trivial⟩, ?_⟩
  simp only [go_sem, List.getElem?_toArray, Nat.reduceBEq, Nat.reduceAdd, Nat.reduceSub, Nat.reduceMul, Nat.reduceLT, Nat.reduceLeDiff, Nat.reduceEqDiff, Nat.succ_ne_zero, reduceIte]
  exact ⟨[.ref 0, .ref 1], (mkTab 1 t).o, [.c (.v (.int .i64 (ckTab 1 t)))], rfl, .inl rfl, ⟨rfl, rfl, rfl, rfl, nr_int _, by simp, rfl, rfl, rfl, rfl, nr_Row _, by simp, trivial⟩, clo_DTable _, rfl, rfl, rfl, rfl⟩
theorem heldTable_spec (t : DTable) (ht : fitTable t) : Ctr Tryz.prog 16 [.agg (mkTab 1 t).c, .c (.v (.int .i64 (1)))] [.val (.c (.v (.int .i64 (ckTab 1 t))))] := by
  have hbd := ckTab_bd t ht
  rw [fitTable_eq] at ht
  have h1 := ht.1
  have hrl : ∀ x ∈ t.l, x.l.length ≤ 1048576 := fun x hx => by have := ht.2.2 x hx; rw [fitRow_eq] at this; exact this.1
  have e1 : decide ((1 : Int) + t.cols.length < 0) = false := by simp; omega
  have e2 : decide (ckL ckRow (1 + t.cols.length) t.l < 0) = false := by have := hbd.1; unfold ckTab at this; simp; omega
  refine Ctr.mk (fn := Tryz.f16) Tryz.call16 Tryz.func16 rfl mixed Tryz.ntmps16 Tryz.results16 (by kernel_rfl) rfl fun hw => ?_
  simp only [go_sem, List.getElem?_toArray, Nat.reduceBEq, Nat.reduceAdd, Nat.reduceSub, Nat.reduceMul, Nat.reduceLT, Nat.reduceLeDiff, Nat.reduceEqDiff, Nat.succ_ne_zero, reduceIte, mkTab]
  refine CallK.mk _ (heldIntS_spec 1 t.cols.length (by omega) (by omega)) fun _ => ?_
  simp only [go_sem, List.getElem?_toArray, Nat.reduceBEq, Nat.reduceAdd, Nat.reduceSub, Nat.reduceMul, Nat.reduceLT, Nat.reduceLeDiff, Nat.reduceEqDiff, Nat.succ_ne_zero, reduceIte, e1]
  refine CallK.mk _ (heldRowS_spec t.l (1 + t.cols.length) (by omega) ht.2.1 hrl hbd.2) fun _ => ?_
  simp only [go_sem, List.getElem?_toArray, Nat.reduceBEq, Nat.reduceAdd, Nat.reduceSub, Nat.reduceMul, Nat.reduceLT, Nat.reduceLeDiff, Nat.reduceEqDiff, Nat.succ_ne_zero, reduceIte, e1, e2, ckTab]
theorem applyT_fit {t : DTable} {d : DDeed} (ht : fitTable t) (hd : fitDeed d) (hroom : tableOk t = true → t.l.length + 1 ≤ 1048576) : fitTable (applyT t d) := by
  unfold applyT applyR
  split
  · rename_i hdone
    have h1 : tableOk t = true := by simp only [doneB, Bool.and_eq_true] at hdone; exact hdone.1
    repeat' split
    · exact fit_putT ht hd (hroom h1)
    · exact ht
    · exact fit_dropT ht
    · exact ht
    · exact ht
    · exact ht
    · exact ht
  · exact ht
theorem sz_room {t : DTable} (h : 0 ≤ szTable t 1048576) (h1 : tableOk t = true) : t.l.length + 1 ≤ 1048576 := by
  rw [szTable_eq] at h
  obtain ⟨a0, b0, e0⟩ := sq_fit h
  obtain ⟨a1, b1, e1⟩ := sq_fit b0
  have hc : 1 ≤ t.cols.length := by
    simp only [tableOk, Bool.and_eq_true] at h1
    have := h1.1
    simp only [colsOk, Bool.and_eq_true] at this
    have := this.2
    simp [inR] at this
    omega
  have e2 : szI t.cols.length 1048576 = 1048576 - t.cols.length := szI_pos (by intro h2; rw [szI_neg h2] at a0; omega)
  unfold szS at a1
  obtain ⟨a2, _, _⟩ := sq_fit a1
  have : ¬ szI t.cols.length 1048576 - t.l.length < 0 := by intro h2; rw [szI_neg h2] at a2; omega
  rw [e2] at this
  omega
theorem lawApply_spec (t : DTable) (d : DDeed) : Ctr Tryz.prog 3 [.agg t.c, .agg d.c] [.val (.c (.v (.bool (true))))] := by
  refine Ctr.mk (fn := Tryz.f3) Tryz.call3 Tryz.func3 rfl mixed Tryz.ntmps3 Tryz.results3 (by kernel_rfl) rfl fun hw => ?_
  simp only [go_sem, List.getElem?_toArray, Nat.reduceBEq, Nat.reduceAdd, Nat.reduceSub, Nat.reduceMul, Nat.reduceLT, Nat.reduceLeDiff, Nat.reduceEqDiff, Nat.succ_ne_zero, reduceIte]
  refine CallK.mk _ (by simpa only [go_sem] using szTable_spec t 1048576 (by omega)) fun _ => ?_
  simp only [go_sem, List.getElem?_toArray, Nat.reduceBEq, Nat.reduceAdd, Nat.reduceSub, Nat.reduceMul, Nat.reduceLT, Nat.reduceLeDiff, Nat.reduceEqDiff, Nat.succ_ne_zero, reduceIte]
  refine cndC.mk (fun h => ?_) (fun h => ?_)
  · simp only [go_sem, List.getElem?_toArray, Nat.reduceBEq, Nat.reduceAdd, Nat.reduceSub, Nat.reduceMul, Nat.reduceLT, Nat.reduceLeDiff, Nat.reduceEqDiff, Nat.succ_ne_zero, reduceIte]
  have h00 : 0 ≤ szTable t 1048576 := by simp at h; omega
  obtain ⟨hf, hle⟩ := szTable_fit t 1048576 h00 (by omega)
  simp only [go_sem, List.getElem?_toArray, Nat.reduceBEq, Nat.reduceAdd, Nat.reduceSub, Nat.reduceMul, Nat.reduceLT, Nat.reduceLeDiff, Nat.reduceEqDiff, Nat.succ_ne_zero, reduceIte]
  refine CallK.mk _ (by simpa only [go_sem] using szDeed_spec d (szTable t 1048576) (by omega)) fun _ => ?_
  simp only [go_sem, List.getElem?_toArray, Nat.reduceBEq, Nat.reduceAdd, Nat.reduceSub, Nat.reduceMul, Nat.reduceLT, Nat.reduceLeDiff, Nat.reduceEqDiff, Nat.succ_ne_zero, reduceIte]
  refine cndC.mk (fun h => ?_) (fun h => ?_)
  · simp only [go_sem, List.getElem?_toArray, Nat.reduceBEq, Nat.reduceAdd, Nat.reduceSub, Nat.reduceMul, Nat.reduceLT, Nat.reduceLeDiff, Nat.reduceEqDiff, Nat.succ_ne_zero, reduceIte]
  have h01 : 0 ≤ szDeed d (szTable t 1048576) := by simp at h; omega
  obtain ⟨hfd, hle2⟩ := szDeed_fit d (szTable t 1048576) h01 (by omega)
  have hroom := sz_room h00
  have hfa := applyT_fit hf hfd hroom
  have hck := ckTab_bd (applyT t d) hfa
  simp only [go_sem, List.getElem?_toArray, Nat.reduceBEq, Nat.reduceAdd, Nat.reduceSub, Nat.reduceMul, Nat.reduceLT, Nat.reduceLeDiff, Nat.reduceEqDiff, Nat.succ_ne_zero, reduceIte]
  refine DrawK.mkA 8 4 (by kernel_rfl) ?_
  simp only [go_sem, List.getElem?_toArray, Nat.reduceBEq, Nat.reduceAdd, Nat.reduceSub, Nat.reduceMul, Nat.reduceLT, Nat.reduceLeDiff, Nat.reduceEqDiff, Nat.succ_ne_zero, reduceIte]
  refine CallE.mk _ (by simpa only [go_sem] using toTable_spec t hf) ?_
  simp only [go_sem, List.getElem?_toArray, Nat.reduceBEq, Nat.reduceAdd, Nat.reduceSub, Nat.reduceMul, Nat.reduceLT, Nat.reduceLeDiff, Nat.reduceEqDiff, Nat.succ_ne_zero, reduceIte]
  refine CallE.mk _ (by simpa only [go_sem] using toDeed_spec d hfd) ?_
  simp only [go_sem, List.getElem?_toArray, Nat.reduceBEq, Nat.reduceAdd, Nat.reduceSub, Nat.reduceMul, Nat.reduceLT, Nat.reduceLeDiff, Nat.reduceEqDiff, Nat.succ_ne_zero, reduceIte]
  refine CallE.mk _ (by simpa only [go_sem] using sApply_spec t d hf hfd hroom) ?_
  simp only [go_sem, List.getElem?_toArray, Nat.reduceBEq, Nat.reduceAdd, Nat.reduceSub, Nat.reduceMul, Nat.reduceLT, Nat.reduceLeDiff, Nat.reduceEqDiff, Nat.succ_ne_zero, reduceIte]
  refine CallK.mk _ (by simpa only [go_sem] using toTable_ow t hf) fun _ => ?_
  simp only [go_sem, List.getElem?_toArray, Nat.reduceBEq, Nat.reduceAdd, Nat.reduceSub, Nat.reduceMul, Nat.reduceLT, Nat.reduceLeDiff, Nat.reduceEqDiff, Nat.succ_ne_zero, reduceIte]
  refine CallK.mk _ (by simpa only [go_sem] using toDeed_ow d hfd) fun _ => ?_
  simp only [go_sem, List.getElem?_toArray, Nat.reduceBEq, Nat.reduceAdd, Nat.reduceSub, Nat.reduceMul, Nat.reduceLT, Nat.reduceLeDiff, Nat.reduceEqDiff, Nat.succ_ne_zero, reduceIte]
  refine BorK.mk (args := [.agg t.c, .agg d.c]) [.agg (applyT t d).o, .val (.c (.v (.bool ((applyR t d).isSome))))] (by simp only [erE_Pred, erE_Row, er_int, er_Val, go_sem]) (by simp only [List.all_cons, cloR, clo_DTable, List.all_nil, Bool.and_true]) (iApply_spec t d hf hfd hroom) fun _ => ?_
  simp only [go_sem, List.getElem?_toArray, Nat.reduceBEq, Nat.reduceAdd, Nat.reduceSub, Nat.reduceMul, Nat.reduceLT, Nat.reduceLeDiff, Nat.reduceEqDiff, Nat.succ_ne_zero, reduceIte]
  refine BorK.mk (args := [.agg (applyT t d).c, .agg (applyT t d).c]) _ (by simp only [erE_Pred, erE_Row, er_int, er_Val, go_sem]) rfl (eqTable_spec _) fun _ => ?_
  have e0 : ∀ b : Bool, (!(b == b)) = false := fun b => by cases b <;> rfl
  simp only [go_sem, List.getElem?_toArray, Nat.reduceBEq, Nat.reduceAdd, Nat.reduceSub, Nat.reduceMul, Nat.reduceLT, Nat.reduceLeDiff, Nat.reduceEqDiff, Nat.succ_ne_zero, reduceIte, e0]
  refine DrawK.mk ?_
  simp only [go_sem, List.getElem?_toArray, Nat.reduceBEq, Nat.reduceAdd, Nat.reduceSub, Nat.reduceMul, Nat.reduceLT, Nat.reduceLeDiff, Nat.reduceEqDiff, Nat.succ_ne_zero, reduceIte]
  refine CallF.mk _ (by simpa only [go_sem] using toTable_spec t hf) ?_
  simp only [go_sem, List.getElem?_toArray, Nat.reduceBEq, Nat.reduceAdd, Nat.reduceSub, Nat.reduceMul, Nat.reduceLT, Nat.reduceLeDiff, Nat.reduceEqDiff, Nat.succ_ne_zero, reduceIte]
  refine BorF.mk (args := [.agg t.c, .agg t.c]) _ (by simp only [erE_Pred, erE_Row, er_int, er_Val, go_sem]) rfl (eqTable_spec t) ?_
  simp only [go_sem, List.getElem?_toArray, Nat.reduceBEq, Nat.reduceAdd, Nat.reduceSub, Nat.reduceMul, Nat.reduceLT, Nat.reduceLeDiff, Nat.reduceEqDiff, Nat.succ_ne_zero, reduceIte]
  refine DrawK.mk ?_
  simp only [go_sem, List.getElem?_toArray, Nat.reduceBEq, Nat.reduceAdd, Nat.reduceSub, Nat.reduceMul, Nat.reduceLT, Nat.reduceLeDiff, Nat.reduceEqDiff, Nat.succ_ne_zero, reduceIte]
  refine CallF.mk _ (by simpa only [go_sem] using toDeed_spec d hfd) ?_
  simp only [go_sem, List.getElem?_toArray, Nat.reduceBEq, Nat.reduceAdd, Nat.reduceSub, Nat.reduceMul, Nat.reduceLT, Nat.reduceLeDiff, Nat.reduceEqDiff, Nat.succ_ne_zero, reduceIte]
  refine BorF.mk (args := [.agg d.c, .agg d.c]) _ (by simp only [erE_Pred, erE_Row, er_int, er_Val, go_sem]) rfl (eqDeed_spec d) ?_
  simp only [go_sem, List.getElem?_toArray, Nat.reduceBEq, Nat.reduceAdd, Nat.reduceSub, Nat.reduceMul, Nat.reduceLT, Nat.reduceLeDiff, Nat.reduceEqDiff, Nat.succ_ne_zero, reduceIte]
  refine MutK.mk true (zs := [.ref 3, .ref 4]) (cl := [.ow 3 1 (t.cols.map intC), .ow 113 2 (t.l.map DRow.o)])
    (by simpa only [go_sem] using markTable_sp t 1 (by omega) 1048576 h00 (by omega) (by omega)) rfl
    ⟨rfl, rfl, rfl, rfl, nr_int _, by simp, rfl, rfl, rfl, rfl, nr_Row _, by simp, trivial⟩ rfl (.inl rfl) fun cl' rs hM => ?_
  obtain ⟨R0, R1, m, rfl, rfl, g1, g2, _⟩ := hM
  refine ⟨⟨rfl, ⟨rfl, rfl⟩, ⟨rfl, rfl⟩, trivial⟩, ?_⟩
  simp only [go_sem, List.getElem?_toArray, Nat.reduceBEq, Nat.reduceAdd, Nat.reduceSub, Nat.reduceMul, Nat.reduceLT, Nat.reduceLeDiff, Nat.reduceEqDiff, Nat.succ_ne_zero, reduceIte]
  refine MutK.mk true (zs := [.v (.int .i64 d.op), .v (.int .i64 d.task), .ref 6, .v (.int .i64 d.id), .v (.int .i64 d.q.kind), .v (.int .i64 d.q.p.kind), .v (.int .i64 d.q.p.col), .v (.int .i64 d.q.p.op), .v (.int .i64 d.q.p.v.ty), .v (.int .i64 d.q.p.v.n), .v (.string d.q.p.v.s), .ref 7, .v (.int .i64 d.q.col), .ref 8, .ref 9, .v (.int .i64 d.res.n), .v (.bool d.res.has), .v (.int .i64 d.res.v.ty), .v (.int .i64 d.res.v.n), .v (.string d.res.v.s), .v (.int .i64 d.code), .v (.int .i64 d.stamp), .v (.int .i64 d.inv), .v (.int .i64 d.lin), .v (.int .i64 d.ret)])
    (cl := [.v (.int .i64 d.op), .v (.int .i64 d.task), .ow 47 3 (d.r.map DVal.c), .v (.int .i64 d.id), .v (.int .i64 d.q.kind), .v (.int .i64 d.q.p.kind), .v (.int .i64 d.q.p.col), .v (.int .i64 d.q.p.op), .v (.int .i64 d.q.p.v.ty), .v (.int .i64 d.q.p.v.n), .v (.string d.q.p.v.s), .ow 50 7 (d.q.p.l.map DPred.o), .v (.int .i64 d.q.col), .ow 3 1 (d.q.out.map intC), .ow 113 2 (d.res.rows.map DRow.o), .v (.int .i64 d.res.n), .v (.bool d.res.has), .v (.int .i64 d.res.v.ty), .v (.int .i64 d.res.v.n), .v (.string d.res.v.s), .v (.int .i64 d.code), .v (.int .i64 d.stamp), .v (.int .i64 d.inv), .v (.int .i64 d.lin), .v (.int .i64 d.ret)])
    (by simpa only [go_sem] using markDeed_sp d m (by omega) (szTable t 1048576) h01 (by omega) (by omega)) rfl
    ⟨rfl, rfl, rfl, rfl, rfl, rfl, rfl, rfl, nr_Val _, by simp, rfl, rfl, rfl, rfl, rfl, rfl, rfl, rfl, rfl, rfl, rfl, rfl, rfl, rfl, rfl, rfl, rfl, rfl, rfl, rfl, nr_Pred _, by simp, rfl, rfl, rfl, rfl, rfl, rfl, nr_int _, by simp, rfl, rfl, rfl, rfl, nr_Row _, by simp, rfl, rfl, rfl, rfl, rfl, rfl, rfl, rfl, rfl, rfl, rfl, rfl, rfl, rfl, rfl, rfl, rfl, rfl, rfl, rfl, trivial⟩ rfl (.inl rfl) fun cl' rs hM => ?_
  obtain ⟨R2, R3, R4, R5, m2, rfl, rfl, g3, g4, _⟩ := hM
  refine ⟨⟨rfl, rfl, rfl, ⟨rfl, rfl⟩, rfl, rfl, rfl, rfl, rfl, rfl, rfl, rfl, ⟨rfl, rfl⟩, rfl, ⟨rfl, rfl⟩, ⟨rfl, rfl⟩, rfl, rfl, rfl, rfl, rfl, rfl, rfl, rfl, rfl, rfl, trivial⟩, ?_⟩
  have hm0 : decide (m2 < 0) = false := by simp; omega
  have hn0 : decide (ckTab 1 (applyT t d) < 0) = false := by have := hck.1; simp; omega
  simp only [go_sem, List.getElem?_toArray, Nat.reduceBEq, Nat.reduceAdd, Nat.reduceSub, Nat.reduceMul, Nat.reduceLT, Nat.reduceLeDiff, Nat.reduceEqDiff, Nat.succ_ne_zero, reduceIte, hm0]
  refine BorK.mk (args := [.agg (applyT t d).c, .agg (applyT t d).c]) _ (by simp only [erE_Pred, erE_Row, er_int, er_Val, go_sem]) rfl (eqTable_spec _) fun _ => ?_
  simp only [go_sem, List.getElem?_toArray, Nat.reduceBEq, Nat.reduceAdd, Nat.reduceSub, Nat.reduceMul, Nat.reduceLT, Nat.reduceLeDiff, Nat.reduceEqDiff, Nat.succ_ne_zero, reduceIte, hm0, e0]
  refine MutK.mk true (zs := [.ref 11, .ref 12]) (cl := [.ow 3 1 ((applyT t d).cols.map intC), .ow 113 2 ((applyT t d).l.map DRow.o)])
    (by simpa only [go_sem] using markTable_ex (applyT t d) hfa) rfl
    ⟨rfl, rfl, rfl, rfl, nr_int _, by simp, rfl, rfl, rfl, rfl, nr_Row _, by simp, trivial⟩ rfl (.inl rfl) fun cl' rs hM => ?_
  obtain ⟨rfl, rfl⟩ := hM
  refine ⟨⟨rfl, ⟨rfl, rfl⟩, ⟨rfl, rfl⟩, trivial⟩, ?_⟩
  simp only [go_sem, List.getElem?_toArray, Nat.reduceBEq, Nat.reduceAdd, Nat.reduceSub, Nat.reduceMul, Nat.reduceLT, Nat.reduceLeDiff, Nat.reduceEqDiff, Nat.succ_ne_zero, reduceIte]
  refine BorK.mk (args := [.agg (mkTab 1 (applyT t d)).c, .c (.v (.int .i64 (1)))]) _ (by simp only [erE_Pred, erE_Row, er_int, er_Val, go_sem]) rfl (heldTable_spec (applyT t d) hfa) fun _ => ?_
  simp only [go_sem, List.getElem?_toArray, Nat.reduceBEq, Nat.reduceAdd, Nat.reduceSub, Nat.reduceMul, Nat.reduceLT, Nat.reduceLeDiff, Nat.reduceEqDiff, Nat.succ_ne_zero, reduceIte, hn0, bne_self_eq_false]
  first | refine DrawK.mkA 8 4 (by kernel_rfl) ?_ | skip
  try simp only [go_sem, List.getElem?_toArray, Nat.reduceBEq, Nat.reduceAdd, Nat.reduceSub, Nat.reduceMul, Nat.reduceLT, Nat.reduceLeDiff, Nat.reduceEqDiff, Nat.succ_ne_zero, reduceIte]
  refine CallE.mk _ (by simpa only [go_sem] using toTable_spec t hf) ?_
  simp only [go_sem, List.getElem?_toArray, Nat.reduceBEq, Nat.reduceAdd, Nat.reduceSub, Nat.reduceMul, Nat.reduceLT, Nat.reduceLeDiff, Nat.reduceEqDiff, Nat.succ_ne_zero, reduceIte]
  refine CallE.mk _ (by simpa only [go_sem] using toDeed_spec d hfd) ?_
  simp only [go_sem, List.getElem?_toArray, Nat.reduceBEq, Nat.reduceAdd, Nat.reduceSub, Nat.reduceMul, Nat.reduceLT, Nat.reduceLeDiff, Nat.reduceEqDiff, Nat.succ_ne_zero, reduceIte]
  refine CallE.mk _ (by simpa only [go_sem] using iApply_spec t d hf hfd hroom) ?_
  simp only [go_sem, List.getElem?_toArray, Nat.reduceBEq, Nat.reduceAdd, Nat.reduceSub, Nat.reduceMul, Nat.reduceLT, Nat.reduceLeDiff, Nat.reduceEqDiff, Nat.succ_ne_zero, reduceIte, nr_int, nr_Row]
  refine BorK.mk (args := [.agg (applyT t d).c, .agg (applyT t d).c]) _ (by simp only [erE_Pred, erE_Row, er_int, er_Val, go_sem]) rfl (eqTable_spec _) fun _ => ?_
  simp only [go_sem, List.getElem?_toArray, Nat.reduceBEq, Nat.reduceAdd, Nat.reduceSub, Nat.reduceMul, Nat.reduceLT, Nat.reduceLeDiff, Nat.reduceEqDiff, Nat.succ_ne_zero, reduceIte, e0]
  refine BorK.mk (args := [.agg (mkTab 1 (applyT t d)).c, .c (.v (.int .i64 (1)))]) _ (by simp only [erE_Pred, erE_Row, er_int, er_Val, go_sem]) rfl (heldTable_spec (applyT t d) hfa) fun _ => ?_
  simp only [go_sem, List.getElem?_toArray, Nat.reduceBEq, Nat.reduceAdd, Nat.reduceSub, Nat.reduceMul, Nat.reduceLT, Nat.reduceLeDiff, Nat.reduceEqDiff, Nat.succ_ne_zero, reduceIte, hn0, bne_self_eq_false]

end Go.Proofs.YtepjgnlinjlehaaGreat
