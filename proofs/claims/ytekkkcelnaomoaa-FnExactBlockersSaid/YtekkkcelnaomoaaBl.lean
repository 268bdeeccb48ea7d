/- Walks and laws of this seat, over the value machine. -/
import Derived.Test.YtekkkcelnaomoaaBc
namespace Go.Proofs.Ytekkkcelnaomoaa
set_option linter.unusedSimpArgs false
set_option linter.unusedVariables false
open Go.Vm
set_option maxHeartbeats 1000000
set_option maxRecDepth 10000

theorem lawBlockers_spec (w : DWorld) : Ctr Try.prog 3 [.agg w.c] [.val (.c (.v (.bool true)))] := by
  refine Ctr.mk (fn := Try.f3) Try.call3 Try.func3 rfl mixed Try.ntmps3 Try.results3 (by kernel_rfl) rfl fun hw => ?_
  simp only [go_sem, List.getElem?_toArray, Nat.reduceAdd, Nat.reduceSub, Nat.reduceMul, Nat.reduceLT, Nat.reduceLeDiff, Nat.reduceEqDiff, Nat.succ_ne_zero, reduceIte]
  refine CallK.mk _ (by simpa only [go_sem] using szWorld_spec w 1048576 (by omega)) fun _ => ?_
  simp only [go_sem, List.getElem?_toArray, Nat.reduceAdd, Nat.reduceSub, Nat.reduceMul, Nat.reduceLT, Nat.reduceLeDiff, Nat.reduceEqDiff, Nat.succ_ne_zero, reduceIte]
  refine cndC.mk (fun h => ?_) (fun h => ?_)
  · simp only [go_sem, List.getElem?_toArray, Nat.reduceAdd, Nat.reduceSub, Nat.reduceMul, Nat.reduceLT, Nat.reduceLeDiff, Nat.reduceEqDiff, Nat.succ_ne_zero, reduceIte]
  · have h00 : 0 ≤ szWorld w 1048576 := by simp at h; omega
    have hf := (szWorld_fit w 1048576 h00 (by omega)).1
    have hp : w.p.length ≤ 1048576 := by rw [fitWorld_eq] at hf; exact hf.2.2.2.2.2.1
    have hbl := blk_len w.e 0 w.p
    simp only [go_sem, List.getElem?_toArray, Nat.reduceAdd, Nat.reduceSub, Nat.reduceMul, Nat.reduceLT, Nat.reduceLeDiff, Nat.reduceEqDiff, Nat.succ_ne_zero, reduceIte]
    refine CallK.mk _ (by simpa only [go_sem] using toWorld_spec w hf) fun _ => ?_
    simp only [go_sem, List.getElem?_toArray, Nat.reduceAdd, Nat.reduceSub, Nat.reduceMul, Nat.reduceLT, Nat.reduceLeDiff, Nat.reduceEqDiff, Nat.succ_ne_zero, reduceIte]
    refine CallK.mk _ (by simpa only [go_sem] using sBlockers_spec w hp) fun _ => ?_
    simp only [go_sem, List.getElem?_toArray, Nat.reduceAdd, Nat.reduceSub, Nat.reduceMul, Nat.reduceLT, Nat.reduceLeDiff, Nat.reduceEqDiff, Nat.succ_ne_zero, reduceIte]
    refine CallK.mk _ (by simpa only [go_sem] using toWorld_ow w hf) fun _ => ?_
    simp only [go_sem, List.getElem?_toArray, Nat.reduceAdd, Nat.reduceSub, Nat.reduceMul, Nat.reduceLT, Nat.reduceLeDiff, Nat.reduceEqDiff, Nat.succ_ne_zero, reduceIte]
    refine BorK.mk (args := [.agg w.c]) [.own 3 1 ((blk w.e 0 w.p).map intC) true] (by simp only [erE_Buf, erE_Deed, erE_Task, er_Dead, er_Ref, er_int]; rfl) (by simp only [List.all_cons, cloR, clo_int, List.all_nil, Bool.and_true]) (iBlockers_spec w hp) fun _ => ?_
    simp only [go_sem, List.getElem?_toArray, Nat.reduceAdd, Nat.reduceSub, Nat.reduceMul, Nat.reduceLT, Nat.reduceLeDiff, Nat.reduceEqDiff, Nat.succ_ne_zero, reduceIte]
    refine BorK.mk (args := [.c (.sl ((blk w.e 0 w.p).map intC)), .c (.sl ((blk w.e 0 w.p).map intC))]) _ (by simp only [er_int]) rfl (eqIntS_spec _) fun _ => ?_
    simp only [go_sem, List.getElem?_toArray, Nat.reduceAdd, Nat.reduceSub, Nat.reduceMul, Nat.reduceLT, Nat.reduceLeDiff, Nat.reduceEqDiff, Nat.succ_ne_zero, reduceIte]
    refine DrawK.mk ?_
    simp only [go_sem, List.getElem?_toArray, Nat.reduceAdd, Nat.reduceSub, Nat.reduceMul, Nat.reduceLT, Nat.reduceLeDiff, Nat.reduceEqDiff, Nat.succ_ne_zero, reduceIte]
    refine CallF.mk _ (by simpa only [go_sem] using toWorld_spec w hf) ?_
    simp only [go_sem, List.getElem?_toArray, Nat.reduceAdd, Nat.reduceSub, Nat.reduceMul, Nat.reduceLT, Nat.reduceLeDiff, Nat.reduceEqDiff, Nat.succ_ne_zero, reduceIte]
    refine BorF.mk (args := [.agg w.c, .agg w.c]) _ (by simp only [erE_Buf, erE_Deed, erE_Task, er_Dead, er_Ref, er_int, go_sem]) rfl (eqWorld_spec w) ?_
    simp only [go_sem, List.getElem?_toArray, Nat.reduceAdd, Nat.reduceSub, Nat.reduceMul, Nat.reduceLT, Nat.reduceLeDiff, Nat.reduceEqDiff, Nat.succ_ne_zero, reduceIte]
    refine MutK.mk true (zs := [.ref 2, .v (.int .i64 w.c0.slots), .v (.int .i64 w.c0.bufs), .v (.int .i64 w.time), .v (.int .i64 w.t), .v (.int .i64 w.e), .v (.int .i64 w.d.ver), .ref 3, .ref 4, .ref 5, .ref 6, .ref 7, .ref 8, .ref 9])
      (cl := [.ow 3 1 (w.c0.cols.map intC), .v (.int .i64 w.c0.slots), .v (.int .i64 w.c0.bufs), .v (.int .i64 w.time), .v (.int .i64 w.t), .v (.int .i64 w.e), .v (.int .i64 w.d.ver), .ow 147 5 (w.d.l.map DRef.c), .ow 107 5 (w.b.map DBuf.o), .ow 3 1 (w.m.map intC), .ow 110 3 (w.x.map DDead.c), .ow 3 1 (w.p.map intC), .ow 122 25 (w.tasks.map DTask.o), .ow 127 25 (w.deeds.map DDeed.o)])
      (by simpa only [go_sem] using markWorld_sp w 1 (by omega) 1048576 h00 (by omega) (by omega)) rfl
      ⟨rfl, rfl, rfl, rfl, nr_int _, by simp, rfl, rfl, rfl, rfl, rfl, rfl, rfl, rfl, rfl, rfl, rfl, rfl, rfl, rfl, rfl, rfl, nr_Ref _, by simp, rfl, rfl, rfl, rfl, nr_Buf _, by simp, rfl, rfl, rfl, rfl, nr_int _, by simp, rfl, rfl, rfl, rfl, nr_Dead _, by simp, rfl, rfl, rfl, rfl, nr_int _, by simp, rfl, rfl, rfl, rfl, nr_Task _, by simp, rfl, rfl, rfl, rfl, nr_Deed _, by simp, trivial⟩ rfl (.inl rfl) fun cl' rs hM => ?_
    obtain ⟨R0, R1, R2, R3, R4, R5, R6, R7, m, rfl, rfl, g1, g2, _⟩ := hM
    refine ⟨⟨rfl, ⟨rfl, rfl⟩, rfl, rfl, rfl, rfl, rfl, rfl, ⟨rfl, rfl⟩, ⟨rfl, rfl⟩, ⟨rfl, rfl⟩, ⟨rfl, rfl⟩, ⟨rfl, rfl⟩, ⟨rfl, rfl⟩, ⟨rfl, rfl⟩, trivial⟩, ?_⟩
    have hm0 : decide (m < 0) = false := by simp; omega
    have hn0 : decide (1 + ((blk w.e 0 w.p).length : Int) < 0) = false := by simp; omega
    simp only [go_sem, List.getElem?_toArray, Nat.reduceAdd, Nat.reduceSub, Nat.reduceMul, Nat.reduceLT, Nat.reduceLeDiff, Nat.reduceEqDiff, Nat.succ_ne_zero, reduceIte, hm0]
    refine BorK.mk (args := [.c (.sl ((blk w.e 0 w.p).map intC)), .c (.sl ((blk w.e 0 w.p).map intC))]) _ (by simp only [er_int, go_sem]) rfl (eqIntS_spec _) fun _ => ?_
    simp only [go_sem, List.getElem?_toArray, Nat.reduceAdd, Nat.reduceSub, Nat.reduceMul, Nat.reduceLT, Nat.reduceLeDiff, Nat.reduceEqDiff, Nat.succ_ne_zero, reduceIte, hm0]
    refine MutK.mk false (zs := [.ref 11]) (cl := [.ow 3 1 ((blk w.e 0 w.p).map intC)]) (markIntS_spec (blk w.e 0 w.p) 1 (by omega) (by omega)) rfl ⟨rfl, rfl, rfl, rfl, nr_int _, by simp, trivial⟩ rfl (.inr rfl) fun cl' rs hM => ?_
    obtain ⟨rfl, rfl⟩ := hM
    refine ⟨⟨rfl, ⟨rfl, rfl⟩, trivial⟩, ?_⟩
    simp only [go_sem, List.getElem?_toArray, Nat.reduceAdd, Nat.reduceSub, Nat.reduceMul, Nat.reduceLT, Nat.reduceLeDiff, Nat.reduceEqDiff, Nat.succ_ne_zero, reduceIte]
    refine BorK.mk (args := [.c (.sl ((markI 1 (blk w.e 0 w.p).length).map intC)), .c (.v (.int .i64 1))]) _ (by simp only [er_int, go_sem]) rfl (heldIntS_spec 1 _ (by omega) (by omega)) fun _ => ?_
    simp only [go_sem, List.getElem?_toArray, Nat.reduceAdd, Nat.reduceSub, Nat.reduceMul, Nat.reduceLT, Nat.reduceLeDiff, Nat.reduceEqDiff, Nat.succ_ne_zero, reduceIte, hn0, bne_self_eq_false]
    refine CallK.mk _ (by simpa only [go_sem] using toWorld_spec w hf) fun _ => ?_
    simp only [go_sem, List.getElem?_toArray, Nat.reduceAdd, Nat.reduceSub, Nat.reduceMul, Nat.reduceLT, Nat.reduceLeDiff, Nat.reduceEqDiff, Nat.succ_ne_zero, reduceIte]
    refine CallK.mk _ (by simpa only [go_sem] using iBlockers_spec w hp) fun _ => ?_
    simp only [go_sem, List.getElem?_toArray, Nat.reduceAdd, Nat.reduceSub, Nat.reduceMul, Nat.reduceLT, Nat.reduceLeDiff, Nat.reduceEqDiff, Nat.succ_ne_zero, reduceIte]
    refine BorK.mk (args := [.c (.sl ((blk w.e 0 w.p).map intC)), .c (.sl ((blk w.e 0 w.p).map intC))]) _ (by simp only [er_int, go_sem]) rfl (eqIntS_spec _) fun _ => ?_
    simp only [go_sem, List.getElem?_toArray, Nat.reduceAdd, Nat.reduceSub, Nat.reduceMul, Nat.reduceLT, Nat.reduceLeDiff, Nat.reduceEqDiff, Nat.succ_ne_zero, reduceIte]
    refine BorK.mk (args := [.c (.sl ((markI 1 (blk w.e 0 w.p).length).map intC)), .c (.v (.int .i64 1))]) _ (by simp only [er_int, go_sem]) rfl (heldIntS_spec 1 _ (by omega) (by omega)) fun _ => ?_
    simp only [go_sem, List.getElem?_toArray, Nat.reduceAdd, Nat.reduceSub, Nat.reduceMul, Nat.reduceLT, Nat.reduceLeDiff, Nat.reduceEqDiff, Nat.succ_ne_zero, reduceIte, hn0, bne_self_eq_false]

end Go.Proofs.Ytekkkcelnaomoaa
