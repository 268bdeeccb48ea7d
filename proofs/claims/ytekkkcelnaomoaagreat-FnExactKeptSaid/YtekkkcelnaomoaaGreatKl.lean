/- The law's walk: Kept. -/
import Derived.Test.YtekkkcelnaomoaaGreatBe
import Derived.Test.YtekkkcelnaomoaaGreatKb
namespace Go.Proofs.YtekkkcelnaomoaaGreat
set_option linter.unusedSimpArgs false
set_option linter.unusedVariables false
open Go.Vm
set_option maxHeartbeats 2000000
set_option maxRecDepth 10000

theorem ckVal_bd (k : Int) (x : DVal) : ckVal k x ≤ k + 3 := by unfold ckVal; omega
theorem ckRows_bd (xs : List DRow) (hl : xs.length ≤ 1048576) (hx : ∀ x ∈ xs, x.l.length ≤ 1048576) : ckL ckRow 1 xs ≤ 4000000000000000000 := by
  have h := ckL_bound (c := ckRow) 3145729 (by omega) xs (fun x hxx k => by
    have h1 := ckL_bound (c := ckVal) 3 (by omega) x.l (fun y _ k => ckVal_bd k y) (k + 1)
    have h2 := hx x hxx
    unfold ckRow
    omega) 1
  omega
theorem lawKept_spec (w : DWorld) (l : List DRow) (ts : Int) : Ctr Tryz.prog 3 [.agg w.c, .c (.sl (l.map DRow.c)), .c (.v (.int .i64 ts))] [.val (.c (.v (.bool true)))] := by
  refine Ctr.mk (fn := Tryz.f3) Tryz.call3 Tryz.func3 rfl mixed Tryz.ntmps3 Tryz.results3 (by kernel_rfl) rfl fun hw => ?_
  simp only [go_sem, List.getElem?_toArray, Nat.reduceBEq, Nat.reduceAdd, Nat.reduceSub, Nat.reduceMul, Nat.reduceLT, Nat.reduceLeDiff, Nat.reduceEqDiff, Nat.succ_ne_zero, reduceIte]
  refine CallK.mk _ (by simpa only [go_sem] using szWorld_spec w 1048576 (by omega)) fun _ => ?_
  simp only [go_sem, List.getElem?_toArray, Nat.reduceBEq, Nat.reduceAdd, Nat.reduceSub, Nat.reduceMul, Nat.reduceLT, Nat.reduceLeDiff, Nat.reduceEqDiff, Nat.succ_ne_zero, reduceIte]
  refine cndC.mk (fun h => ?_) (fun h => ?_)
  · simp only [go_sem, List.getElem?_toArray, Nat.reduceBEq, Nat.reduceAdd, Nat.reduceSub, Nat.reduceMul, Nat.reduceLT, Nat.reduceLeDiff, Nat.reduceEqDiff, Nat.succ_ne_zero, reduceIte]
  · have h00 : 0 ≤ szWorld w 1048576 := by simp at h; omega
    obtain ⟨hf, hle⟩ := szWorld_fit w 1048576 h00 (by omega)
    have hm : w.m.length ≤ 1048576 := by rw [fitWorld_eq] at hf; exact hf.2.2.2.1
    simp only [go_sem, List.getElem?_toArray, Nat.reduceBEq, Nat.reduceAdd, Nat.reduceSub, Nat.reduceMul, Nat.reduceLT, Nat.reduceLeDiff, Nat.reduceEqDiff, Nat.succ_ne_zero, reduceIte]
    refine CallK.mk _ (by simpa only [go_sem] using szRowS_spec l (szWorld w 1048576) (by omega)) fun _ => ?_
    simp only [go_sem, List.getElem?_toArray, Nat.reduceBEq, Nat.reduceAdd, Nat.reduceSub, Nat.reduceMul, Nat.reduceLT, Nat.reduceLeDiff, Nat.reduceEqDiff, Nat.succ_ne_zero, reduceIte]
    refine cndC.mk (fun h => ?_) (fun h => ?_)
    · simp only [go_sem, List.getElem?_toArray, Nat.reduceBEq, Nat.reduceAdd, Nat.reduceSub, Nat.reduceMul, Nat.reduceLT, Nat.reduceLeDiff, Nat.reduceEqDiff, Nat.succ_ne_zero, reduceIte]
    · have h01 : 0 ≤ szS szRow l (szWorld w 1048576) := by simp at h; omega
      have hfl := (szS_fit l (fun x _ => szRow_fit x) h01 (by omega)).1
      have hkl : (kept w l ts).length ≤ 1048576 := Nat.le_trans (List.length_filter_le _ _) hfl.1
      have hkx : ∀ x ∈ kept w l ts, x.l.length ≤ 1048576 := fun x hx => by
        have := hfl.2 x (List.mem_filter.1 hx).1
        rw [fitRow_eq] at this
        exact this.1
      have hck := ckRows_bd _ hkl hkx
      have hck0 := ckL_le ckRow_le (kept w l ts) 1
      simp only [go_sem, List.getElem?_toArray, Nat.reduceBEq, Nat.reduceAdd, Nat.reduceSub, Nat.reduceMul, Nat.reduceLT, Nat.reduceLeDiff, Nat.reduceEqDiff, Nat.succ_ne_zero, reduceIte]
      refine CallK.mk _ (by simpa only [go_sem] using toWorld_spec w hf) fun _ => ?_
      simp only [go_sem, List.getElem?_toArray, Nat.reduceBEq, Nat.reduceAdd, Nat.reduceSub, Nat.reduceMul, Nat.reduceLT, Nat.reduceLeDiff, Nat.reduceEqDiff, Nat.succ_ne_zero, reduceIte]
      refine CallK.mk _ (by simpa only [go_sem] using toRowS_spec l hfl) fun _ => ?_
      simp only [go_sem, List.getElem?_toArray, Nat.reduceBEq, Nat.reduceAdd, Nat.reduceSub, Nat.reduceMul, Nat.reduceLT, Nat.reduceLeDiff, Nat.reduceEqDiff, Nat.succ_ne_zero, reduceIte]
      refine CallK.mk _ (by simpa only [go_sem] using sKept_spec w l ts hm hfl) fun _ => ?_
      simp only [go_sem, List.getElem?_toArray, Nat.reduceBEq, Nat.reduceAdd, Nat.reduceSub, Nat.reduceMul, Nat.reduceLT, Nat.reduceLeDiff, Nat.reduceEqDiff, Nat.succ_ne_zero, reduceIte]
      refine CallK.mk _ (by simpa only [go_sem] using toWorld_ow w hf) fun _ => ?_
      simp only [go_sem, List.getElem?_toArray, Nat.reduceBEq, Nat.reduceAdd, Nat.reduceSub, Nat.reduceMul, Nat.reduceLT, Nat.reduceLeDiff, Nat.reduceEqDiff, Nat.succ_ne_zero, reduceIte]
      refine CallK.mk _ (by simpa only [go_sem] using toRowS_ows l hfl) fun _ => ?_
      simp only [go_sem, List.getElem?_toArray, Nat.reduceBEq, Nat.reduceAdd, Nat.reduceSub, Nat.reduceMul, Nat.reduceLT, Nat.reduceLeDiff, Nat.reduceEqDiff, Nat.succ_ne_zero, reduceIte]
      refine BorK.mk (args := [.agg w.c, .c (.sl (l.map DRow.c)), .c (.v (.int .i64 ts))]) [.own 70 2 ((kept w l ts).map DRow.o) true] (by simp only [erE_Buf, erE_Deed, erE_Task, erE_Row, er_Dead, er_Ref, er_int, er_Val]; rfl) (by simp only [List.all_cons, cloR, clo_Row, List.all_nil, Bool.and_true]) (iKept_spec w l ts hm hfl) fun _ => ?_
      simp only [go_sem, List.getElem?_toArray, Nat.reduceBEq, Nat.reduceAdd, Nat.reduceSub, Nat.reduceMul, Nat.reduceLT, Nat.reduceLeDiff, Nat.reduceEqDiff, Nat.succ_ne_zero, reduceIte]
      refine BorK.mk (args := [.c (.sl ((kept w l ts).map DRow.c)), .c (.sl ((kept w l ts).map DRow.c))]) _ (by simp only [erE_Buf, erE_Deed, erE_Task, erE_Row, er_Dead, er_Ref, er_int, er_Val]) rfl (eqRowS_spec _) fun _ => ?_
      simp only [go_sem, List.getElem?_toArray, Nat.reduceBEq, Nat.reduceAdd, Nat.reduceSub, Nat.reduceMul, Nat.reduceLT, Nat.reduceLeDiff, Nat.reduceEqDiff, Nat.succ_ne_zero, reduceIte]
      refine DrawK.mk ?_
      simp only [go_sem, List.getElem?_toArray, Nat.reduceBEq, Nat.reduceAdd, Nat.reduceSub, Nat.reduceMul, Nat.reduceLT, Nat.reduceLeDiff, Nat.reduceEqDiff, Nat.succ_ne_zero, reduceIte]
      refine CallF.mk _ (by simpa only [go_sem] using toWorld_spec w hf) ?_
      simp only [go_sem, List.getElem?_toArray, Nat.reduceBEq, Nat.reduceAdd, Nat.reduceSub, Nat.reduceMul, Nat.reduceLT, Nat.reduceLeDiff, Nat.reduceEqDiff, Nat.succ_ne_zero, reduceIte]
      refine BorF.mk (args := [.agg w.c, .agg w.c]) _ (by simp only [erE_Buf, erE_Deed, erE_Task, erE_Row, er_Dead, er_Ref, er_int, er_Val, go_sem]) rfl (eqWorld_spec w) ?_
      simp only [go_sem, List.getElem?_toArray, Nat.reduceBEq, Nat.reduceAdd, Nat.reduceSub, Nat.reduceMul, Nat.reduceLT, Nat.reduceLeDiff, Nat.reduceEqDiff, Nat.succ_ne_zero, reduceIte]
      refine CallK.mk _ (by simpa only [go_sem] using toRowS_spec l hfl) fun _ => ?_
      simp only [go_sem, List.getElem?_toArray, Nat.reduceBEq, Nat.reduceAdd, Nat.reduceSub, Nat.reduceMul, Nat.reduceLT, Nat.reduceLeDiff, Nat.reduceEqDiff, Nat.succ_ne_zero, reduceIte]
      refine BorK.mk (args := [.c (.sl (l.map DRow.c)), .c (.sl (l.map DRow.c))]) _ (by simp only [erE_Buf, erE_Deed, erE_Task, erE_Row, er_Dead, er_Ref, er_int, er_Val, go_sem]) rfl (eqRowS_spec _) fun _ => ?_
      simp only [go_sem, List.getElem?_toArray, Nat.reduceBEq, Nat.reduceAdd, Nat.reduceSub, Nat.reduceMul, Nat.reduceLT, Nat.reduceLeDiff, Nat.reduceEqDiff, Nat.succ_ne_zero, reduceIte]
      refine MutK.mk true (zs := [.ref 2, .v (.int .i64 w.c0.slots), .v (.int .i64 w.c0.bufs), .v (.int .i64 w.time), .v (.int .i64 w.t), .v (.int .i64 w.e), .v (.int .i64 w.d.ver), .ref 3, .ref 4, .ref 5, .ref 6, .ref 7, .ref 8, .ref 9])
        (cl := [.ow 3 1 (w.c0.cols.map intC), .v (.int .i64 w.c0.slots), .v (.int .i64 w.c0.bufs), .v (.int .i64 w.time), .v (.int .i64 w.t), .v (.int .i64 w.e), .v (.int .i64 w.d.ver), .ow 163 5 (w.d.l.map DRef.c), .ow 125 5 (w.b.map DBuf.o), .ow 3 1 (w.m.map intC), .ow 128 3 (w.x.map DDead.c), .ow 3 1 (w.p.map intC), .ow 138 25 (w.tasks.map DTask.o), .ow 143 25 (w.deeds.map DDeed.o)])
        (by simpa only [go_sem] using markWorld_sp w 1 (by omega) 1048576 h00 (by omega) (by omega)) rfl
        ⟨rfl, rfl, rfl, rfl, nr_int _, by simp, rfl, rfl, rfl, rfl, rfl, rfl, rfl, rfl, rfl, rfl, rfl, rfl, rfl, rfl, rfl, rfl, nr_Ref _, by simp, rfl, rfl, rfl, rfl, nr_Buf _, by simp, rfl, rfl, rfl, rfl, nr_int _, by simp, rfl, rfl, rfl, rfl, nr_Dead _, by simp, rfl, rfl, rfl, rfl, nr_int _, by simp, rfl, rfl, rfl, rfl, nr_Task _, by simp, rfl, rfl, rfl, rfl, nr_Deed _, by simp, trivial⟩ rfl (.inl rfl) fun cl' rs hM => ?_
      obtain ⟨R0, R1, R2, R3, R4, R5, R6, R7, m, rfl, rfl, g1, g2, _⟩ := hM
      refine ⟨⟨rfl, ⟨rfl, rfl⟩, rfl, rfl, rfl, rfl, rfl, rfl, ⟨rfl, rfl⟩, ⟨rfl, rfl⟩, ⟨rfl, rfl⟩, ⟨rfl, rfl⟩, ⟨rfl, rfl⟩, ⟨rfl, rfl⟩, ⟨rfl, rfl⟩, trivial⟩, ?_⟩
      simp only [go_sem, List.getElem?_toArray, Nat.reduceBEq, Nat.reduceAdd, Nat.reduceSub, Nat.reduceMul, Nat.reduceLT, Nat.reduceLeDiff, Nat.reduceEqDiff, Nat.succ_ne_zero, reduceIte]
      refine MutK.mk false (zs := [.ref 11]) (cl := [.ow 70 2 (l.map DRow.o)]) (markRowS_sp l m (by omega) (szWorld w 1048576) h01 (by omega) (by omega)) rfl ⟨rfl, rfl, rfl, rfl, nr_Row _, by simp, trivial⟩ rfl (.inr rfl) fun cl' rs hM => ?_
      obtain ⟨R8, m2, rfl, rfl, g3, g4, g5⟩ := hM
      refine ⟨⟨rfl, ⟨rfl, rfl⟩, trivial⟩, ?_⟩
      have hm0 : decide (m2 < 0) = false := by simp; omega
      have hn0 : decide (ckL ckRow 1 (kept w l ts) < 0) = false := by simp; omega
      simp only [go_sem, List.getElem?_toArray, Nat.reduceBEq, Nat.reduceAdd, Nat.reduceSub, Nat.reduceMul, Nat.reduceLT, Nat.reduceLeDiff, Nat.reduceEqDiff, Nat.succ_ne_zero, reduceIte, hm0]
      refine BorK.mk (args := [.c (.sl ((kept w l ts).map DRow.c)), .c (.sl ((kept w l ts).map DRow.c))]) _ (by simp only [erE_Buf, erE_Deed, erE_Task, erE_Row, er_Dead, er_Ref, er_int, er_Val, go_sem]) rfl (eqRowS_spec _) fun _ => ?_
      simp only [go_sem, List.getElem?_toArray, Nat.reduceBEq, Nat.reduceAdd, Nat.reduceSub, Nat.reduceMul, Nat.reduceLT, Nat.reduceLeDiff, Nat.reduceEqDiff, Nat.succ_ne_zero, reduceIte, hm0]
      refine MutK.mk false (zs := [.ref 12]) (cl := [.ow 70 2 ((kept w l ts).map DRow.o)]) (markRowS_ex (kept w l ts) 1 (by omega) hkl hkx hck) rfl ⟨rfl, rfl, rfl, rfl, nr_Row _, by simp, trivial⟩ rfl (.inr rfl) fun cl' rs hM => ?_
      obtain ⟨rfl, rfl⟩ := hM
      refine ⟨⟨rfl, ⟨rfl, rfl⟩, trivial⟩, ?_⟩
      simp only [go_sem, List.getElem?_toArray, Nat.reduceBEq, Nat.reduceAdd, Nat.reduceSub, Nat.reduceMul, Nat.reduceLT, Nat.reduceLeDiff, Nat.reduceEqDiff, Nat.succ_ne_zero, reduceIte]
      refine BorK.mk (args := [.c (.sl ((mkL mkRow ckRow 1 (kept w l ts)).map DRow.c)), .c (.v (.int .i64 1))]) _ (by simp only [erE_Buf, erE_Deed, erE_Task, erE_Row, er_Dead, er_Ref, er_int, er_Val, go_sem]) rfl (heldRowS_spec (kept w l ts) 1 (by omega) hkl hkx hck) fun _ => ?_
      simp only [go_sem, List.getElem?_toArray, Nat.reduceBEq, Nat.reduceAdd, Nat.reduceSub, Nat.reduceMul, Nat.reduceLT, Nat.reduceLeDiff, Nat.reduceEqDiff, Nat.succ_ne_zero, reduceIte, hn0, bne_self_eq_false]
      refine CallK.mk _ (by simpa only [go_sem] using toWorld_spec w hf) fun _ => ?_
      simp only [go_sem, List.getElem?_toArray, Nat.reduceBEq, Nat.reduceAdd, Nat.reduceSub, Nat.reduceMul, Nat.reduceLT, Nat.reduceLeDiff, Nat.reduceEqDiff, Nat.succ_ne_zero, reduceIte]
      refine CallK.mk _ (by simpa only [go_sem] using toRowS_spec l hfl) fun _ => ?_
      simp only [go_sem, List.getElem?_toArray, Nat.reduceBEq, Nat.reduceAdd, Nat.reduceSub, Nat.reduceMul, Nat.reduceLT, Nat.reduceLeDiff, Nat.reduceEqDiff, Nat.succ_ne_zero, reduceIte]
      refine CallK.mk _ (by simpa only [go_sem] using iKept_spec w l ts hm hfl) fun _ => ?_
      simp only [go_sem, List.getElem?_toArray, Nat.reduceBEq, Nat.reduceAdd, Nat.reduceSub, Nat.reduceMul, Nat.reduceLT, Nat.reduceLeDiff, Nat.reduceEqDiff, Nat.succ_ne_zero, reduceIte]
      refine BorK.mk (args := [.c (.sl ((kept w l ts).map DRow.c)), .c (.sl ((kept w l ts).map DRow.c))]) _ (by simp only [erE_Buf, erE_Deed, erE_Task, erE_Row, er_Dead, er_Ref, er_int, er_Val, go_sem]) rfl (eqRowS_spec _) fun _ => ?_
      simp only [go_sem, List.getElem?_toArray, Nat.reduceBEq, Nat.reduceAdd, Nat.reduceSub, Nat.reduceMul, Nat.reduceLT, Nat.reduceLeDiff, Nat.reduceEqDiff, Nat.succ_ne_zero, reduceIte]
      refine BorK.mk (args := [.c (.sl ((mkL mkRow ckRow 1 (kept w l ts)).map DRow.c)), .c (.v (.int .i64 1))]) _ (by simp only [erE_Buf, erE_Deed, erE_Task, erE_Row, er_Dead, er_Ref, er_int, er_Val, go_sem]) rfl (heldRowS_spec (kept w l ts) 1 (by omega) hkl hkx hck) fun _ => ?_
      simp only [go_sem, List.getElem?_toArray, Nat.reduceBEq, Nat.reduceAdd, Nat.reduceSub, Nat.reduceMul, Nat.reduceLT, Nat.reduceLeDiff, Nat.reduceEqDiff, Nat.succ_ne_zero, reduceIte, hn0, bne_self_eq_false]

end Go.Proofs.YtekkkcelnaomoaaGreat
