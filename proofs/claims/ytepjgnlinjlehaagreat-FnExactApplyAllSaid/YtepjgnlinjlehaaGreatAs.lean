/- Walks: deeds applied one after the other. -/
import Derived.Test.YtepjgnlinjlehaaGreatAp
namespace Go.Proofs.YtepjgnlinjlehaaGreat
set_option linter.unusedSimpArgs false
set_option linter.unusedVariables false
open Go.Vm
set_option maxHeartbeats 2000000
set_option maxRecDepth 10000

noncomputable def allT : DTable → List DDeed → DTable
  | t, [] => t
  | t, d :: ds => match applyR t d with
    | some t' => allT t' ds
    | none => t
noncomputable def allN : DTable → List DDeed → Nat
  | _, [] => 0
  | t, d :: ds => match applyR t d with
    | some t' => allN t' ds + 1
    | none => 0
theorem all_step {t t' : DTable} {ds : List DDeed} {k : Nat} (hk : k < ds.length) (h : applyR t ds[k] = some t') : allT t (ds.drop k) = allT t' (ds.drop (k + 1)) ∧ allN t (ds.drop k) = allN t' (ds.drop (k + 1)) + 1 := by
  rw [List.drop_eq_getElem_cons hk]
  simp only [allT, allN, h, and_self]
theorem all_stop {t : DTable} {ds : List DDeed} {k : Nat} (hk : k < ds.length) (h : applyR t ds[k] = none) : allT t (ds.drop k) = t ∧ allN t (ds.drop k) = 0 := by
  rw [List.drop_eq_getElem_cons hk]
  simp only [allT, allN, h, and_self]
theorem applyR_len {t t' : DTable} {d : DDeed} (h : applyR t d = some t') : t'.l.length ≤ t.l.length + 1 := by
  have h1 : (dropT t d).l.length ≤ t.l.length + 1 := by
    unfold dropT
    split
    · have := List.length_filter_le (fun r : DRow => !hasN [d.id] r.id) t.l
      simp only [dropL]; omega
    · omega
  have h2 : (putT t d).l.length ≤ t.l.length + 1 := by
    unfold putT
    repeat' split
    · simp only [putR_len]; omega
    · omega
    · omega
  unfold applyR at h
  repeat' split at h
  all_goals first | (cases h; done) | skip
  all_goals simp only [Option.some.injEq] at h; subst h
  all_goals first | exact h1 | exact h2 | omega
def AllP (t : DTable) (l : List DDeed) (x : Nat × DTable) : Prop := x.1 ≤ l.length ∧ fitTable x.2 ∧ x.2.l.length ≤ t.l.length + x.1 ∧ allT x.2 (l.drop x.1) = allT t l ∧ x.1 + allN x.2 (l.drop x.1) = allN t l
theorem intC_pure (n : Int) : pureL (intC n) = true := rfl
theorem sApplyAll_spec (t : DTable) (l : List DDeed) (ht : fitTable t) (hl : fitS fitDeed l) (hroom : t.l.length + l.length ≤ 1048576) : Ctr Tryz.prog 18 [.agg t.c, .c (.sl (l.map DDeed.c))] [.val (.agg (allT t l).c), .val (.c (.v (.int .i64 ((allN t l)))))] := by
  have ht0 := ht
  rw [fitTable_eq] at ht
  have hlen := hl.1
  refine Ctr.mk (fn := Tryz.f18) Tryz.call18 Tryz.func18 rfl mixed Tryz.ntmps18 Tryz.results18 (by kernel_rfl) rfl fun hw => ?_
  simp only [go_sem, List.getElem?_toArray, Nat.reduceBEq, Nat.reduceAdd, Nat.reduceSub, Nat.reduceMul, Nat.reduceLT, Nat.reduceLeDiff, Nat.reduceEqDiff, Nat.succ_ne_zero, reduceIte]
  refine CallK.mk _ (by simpa only [go_sem] using (sCopy_spec t ht.1 ht.2).aggVal t.o_er) fun _ => ?_
  simp only [go_sem, List.getElem?_toArray, Nat.reduceBEq, Nat.reduceAdd, Nat.reduceSub, Nat.reduceMul, Nat.reduceLT, Nat.reduceLeDiff, Nat.reduceEqDiff, Nat.succ_ne_zero, reduceIte, List.length_map]
  refine LoopU.mk 3 (A := Nat × DTable) (fun x => [(7, .c (.v (.int .i64 (x.1))))]) (fun x => [⟨42, 2, [[.sl (t.cols.map intC), .sl (t.l.map DRow.c)]], true, true⟩, ⟨42, 2, [[.v (.slice none 0 0), .v (.slice none 0 0)]], true, true⟩, ⟨42, 2, [[.sl (x.2.cols.map intC), .sl (x.2.l.map DRow.c)]], true, true⟩]) (AllP t l) (fun x => l.length - x.1) (0, t) ⟨⟨rfl, rfl⟩, rfl, Nat.zero_le _, ht0, by simp, rfl, by simp⟩ ?_
  rintro ⟨k, u⟩ ⟨hk, hu, hul, hbT, hbN⟩
  dsimp only at hk hu hul hbT hbN
  simp only [go_sem, List.getElem?_toArray, Nat.reduceBEq, Nat.reduceAdd, Nat.reduceSub, Nat.reduceMul, Nat.reduceLT, Nat.reduceLeDiff, Nat.reduceEqDiff, Nat.succ_ne_zero, reduceIte, List.length_map]
  refine cndC.mk (fun h => ?_) (fun h => ?_)
  · have hk' : k < l.length := by simpa using h
    have hroomu : tableOk u = true → u.l.length + 1 ≤ 1048576 := fun _ => by omega
    have hd := hl.2 _ (List.getElem_mem hk')
    simp only [go_sem, List.getElem?_toArray, Nat.reduceBEq, Nat.reduceAdd, Nat.reduceSub, Nat.reduceMul, Nat.reduceLT, Nat.reduceLeDiff, Nat.reduceEqDiff, Nat.succ_ne_zero, reduceIte, List.length_map, map_at _ hk', hk']
    refine DrawK.mkA 9 5 (by kernel_rfl) ?_
    simp only [go_sem, List.getElem?_toArray, Nat.reduceBEq, Nat.reduceAdd, Nat.reduceSub, Nat.reduceMul, Nat.reduceLT, Nat.reduceLeDiff, Nat.reduceEqDiff, Nat.succ_ne_zero, reduceIte, List.length_map, map_at _ hk', hk']
    refine CallE.mk _ (by simpa only [go_sem] using sApply_spec u l[k] hu hd hroomu) ?_
    rcases hr : applyR u l[k] with _ | u'
    · obtain ⟨e1, e2⟩ := all_stop hk' hr
      rw [e1] at hbT
      rw [e2, Nat.add_zero] at hbN
      rw [← hbT, ← hbN, applyT_no hr]
      simp only [go_sem, List.getElem?_toArray, Nat.reduceBEq, Nat.reduceAdd, Nat.reduceSub, Nat.reduceMul, Nat.reduceLT, Nat.reduceLeDiff, Nat.reduceEqDiff, Nat.succ_ne_zero, reduceIte, List.length_map, map_at _ hk', hk', Option.isSome_none]
    · obtain ⟨e1, e2⟩ := all_step hk' hr
      rw [e1] at hbT
      rw [e2] at hbN
      have hfit := applyT_fit hu hd hroomu
      rw [applyT_yes hr] at hfit ⊢
      have hlen2 := applyR_len hr
      simp only [go_sem, List.getElem?_toArray, Nat.reduceBEq, Nat.reduceAdd, Nat.reduceSub, Nat.reduceMul, Nat.reduceLT, Nat.reduceLeDiff, Nat.reduceEqDiff, Nat.succ_ne_zero, reduceIte, List.length_map, map_at _ hk', hk', Option.isSome_some, wrap_i64 (n := (k : Int) + 1) (by omega) (by omega)]
      exact ⟨(k + 1, u'), ⟨rfl, rfl⟩, rfl, ⟨hk', hfit, by simp only; omega, hbT, by simp only; omega⟩, by simp only; omega⟩
  · have hk' : k = l.length := by simp at h; omega
    subst hk'
    rw [List.drop_length] at hbT hbN
    simp only [allT, allN, Nat.add_zero] at hbT hbN
    rw [← hbT, ← hbN]
    simp only [go_sem, List.getElem?_toArray, Nat.reduceBEq, Nat.reduceAdd, Nat.reduceSub, Nat.reduceMul, Nat.reduceLT, Nat.reduceLeDiff, Nat.reduceEqDiff, Nat.succ_ne_zero, reduceIte, List.length_map]
theorem iApplyAll_spec (t : DTable) (l : List DDeed) (ht : fitTable t) (hl : fitS fitDeed l) (hroom : t.l.length + l.length ≤ 1048576) : Ctr Tryz.prog 20 [.agg t.c, .c (.sl (l.map DDeed.c))] [.agg (allT t l).o, .val (.c (.v (.int .i64 ((allN t l)))))] := by
  have ht0 := ht
  rw [fitTable_eq] at ht
  have hlen := hl.1
  refine Ctr.mk (fn := Tryz.f20) Tryz.call20 Tryz.func20 rfl mixed Tryz.ntmps20 Tryz.results20 (by kernel_rfl) rfl fun hw => ?_
  simp only [go_sem, List.getElem?_toArray, Nat.reduceBEq, Nat.reduceAdd, Nat.reduceSub, Nat.reduceMul, Nat.reduceLT, Nat.reduceLeDiff, Nat.reduceEqDiff, Nat.succ_ne_zero, reduceIte]
  refine CallK.mk _ (by simpa only [go_sem] using cloneTable_spec t ht.1 ht.2) fun _ => ?_
  simp only [go_sem, List.getElem?_toArray, Nat.reduceBEq, Nat.reduceAdd, Nat.reduceSub, Nat.reduceMul, Nat.reduceLT, Nat.reduceLeDiff, Nat.reduceEqDiff, Nat.succ_ne_zero, reduceIte, List.length_map, nr_int, nr_Row]
  refine LoopH.mk [12] (A := Nat × DTable) (fun x => [(15, .c (.v (.int .i64 (x.1))))]) (fun x => [⟨42, 2, [[.sl (t.cols.map intC), .sl (t.l.map DRow.c)]], true, true⟩, ⟨42, 2, [[.v (.slice none 0 0), .v (.slice none 0 0)]], true, true⟩, ⟨3, 1, x.2.cols.map intC, true, true⟩, ⟨113, 2, x.2.l.map DRow.o, true, true⟩, ⟨42, 2, [[.ref 2, .ref 3]], true, true⟩]) (AllP t l) (fun x => l.length - x.1) (0, t) (Head.sel [(0, false), (1, true), (2, false), (3, true), (4, true)] ⟨rfl, rfl, rfl, rfl, pureE_map intC_pure, nr_inE (nr_Row _), rfl, trivial⟩ (by
    show (⟨35, _, [_, _, _, ⟨113, 2, (t.l.map DRow.o).map (fun x => x.map (rnC [(0, false), (1, true), (2, false), (3, true), (4, true)])), true, true⟩, _]⟩ : MS) = _
    rw [rn_nrE (nr_Row t.l)]; rfl)) ⟨Nat.zero_le _, ht0, by simp, rfl, by simp⟩ ?_
  rintro ⟨k, u⟩ ⟨hk, hu, hul, hbT, hbN⟩
  dsimp only at hk hu hul hbT hbN
  simp only [go_sem, List.getElem?_toArray, Nat.reduceBEq, Nat.reduceAdd, Nat.reduceSub, Nat.reduceMul, Nat.reduceLT, Nat.reduceLeDiff, Nat.reduceEqDiff, Nat.succ_ne_zero, reduceIte, List.length_map]
  refine cndC.mk (fun h => ?_) (fun h => ?_)
  · have hk' : k < l.length := by simpa using h
    have hroomu : tableOk u = true → u.l.length + 1 ≤ 1048576 := fun _ => by omega
    have hd := hl.2 _ (List.getElem_mem hk')
    simp only [go_sem, List.getElem?_toArray, Nat.reduceBEq, Nat.reduceAdd, Nat.reduceSub, Nat.reduceMul, Nat.reduceLT, Nat.reduceLeDiff, Nat.reduceEqDiff, Nat.succ_ne_zero, reduceIte, List.length_map, map_at _ hk', hk']
    refine BorK.mk (args := [.agg u.c, .agg l[k].c]) [.agg (applyT u l[k]).o, .val (.c (.v (.bool ((applyR u l[k]).isSome))))] (by simp only [erE_Pred, erE_Row, er_int, er_Val, go_sem]) (by simp only [List.all_cons, cloR, clo_DTable, List.all_nil, Bool.and_true]) (iApply_spec u l[k] hu hd hroomu) fun _ => ?_
    rcases hr : applyR u l[k] with _ | u'
    · obtain ⟨e1, e2⟩ := all_stop hk' hr
      rw [e1] at hbT
      rw [e2, Nat.add_zero] at hbN
      rw [← hbT, ← hbN, applyT_no hr]
      simp only [go_sem, List.getElem?_toArray, Nat.reduceBEq, Nat.reduceAdd, Nat.reduceSub, Nat.reduceMul, Nat.reduceLT, Nat.reduceLeDiff, Nat.reduceEqDiff, Nat.succ_ne_zero, reduceIte, List.length_map, map_at _ hk', hk', Option.isSome_none, nr_int, nr_Row]
      try simp [OwnL, pureC]
    · obtain ⟨e1, e2⟩ := all_step hk' hr
      rw [e1] at hbT
      rw [e2] at hbN
      have hfit := applyT_fit hu hd hroomu
      rw [applyT_yes hr] at hfit ⊢
      have hlen2 := applyR_len hr
      simp only [go_sem, List.getElem?_toArray, Nat.reduceBEq, Nat.reduceAdd, Nat.reduceSub, Nat.reduceMul, Nat.reduceLT, Nat.reduceLeDiff, Nat.reduceEqDiff, Nat.succ_ne_zero, reduceIte, List.length_map, map_at _ hk', hk', Option.isSome_some, nr_int, nr_Row, wrap_i64 (n := (k : Int) + 1) (by omega) (by omega)]
      exact ⟨(k + 1, u'), Head.sel [(0, false), (1, true), (6, false), (7, true), (4, true)] ⟨rfl, rfl, rfl, rfl, pureE_map intC_pure, nr_inE (nr_Row _), rfl, trivial⟩ (by
        show (⟨35, _, [_, _, _, ⟨113, 2, (u'.l.map DRow.o).map (fun x => x.map (rnC [(0, false), (1, true), (6, false), (7, true), (4, true)])), true, true⟩, _]⟩ : MS) = _
        rw [rn_nrE (nr_Row u'.l)]; rfl), ⟨hk', hfit, by simp only; omega, hbT, by simp only; omega⟩, by simp only; omega⟩
  · have hk' : k = l.length := by simp at h; omega
    subst hk'
    rw [List.drop_length] at hbT hbN
    simp only [allT, allN, Nat.add_zero] at hbT hbN
    rw [← hbT, ← hbN]
    simp only [go_sem, List.getElem?_toArray, Nat.reduceBEq, Nat.reduceAdd, Nat.reduceSub, Nat.reduceMul, Nat.reduceLT, Nat.reduceLeDiff, Nat.reduceEqDiff, Nat.succ_ne_zero, reduceIte, List.length_map, nr_int, nr_Row]
    try simp [OwnL, pureC]

end Go.Proofs.YtepjgnlinjlehaaGreat
/- The law's walk: ApplyAll. -/
namespace Go.Proofs.YtepjgnlinjlehaaGreat
set_option linter.unusedSimpArgs false
set_option linter.unusedVariables false
open Go.Vm
set_option maxHeartbeats 2000000
set_option maxRecDepth 10000

theorem all_fit : ∀ (ds : List DDeed) (t : DTable), fitTable t → (∀ d ∈ ds, fitDeed d) → t.l.length + ds.length ≤ 1048576 → fitTable (allT t ds)
  | [], t, ht, _, _ => by simp only [allT]; exact ht
  | d :: ds, t, ht, hd, hl => by
    simp only [List.length_cons] at hl
    simp only [allT]
    split
    · rename_i t' hr
      have h1 := applyT_fit ht (hd d (by simp)) (fun _ => by omega)
      rw [applyT_yes hr] at h1
      have h2 := applyR_len hr
      exact all_fit ds t' h1 (fun x hx => hd x (by simp [hx])) (by omega)
    · exact ht
theorem sz_room2 {t : DTable} {l : List DDeed} (h : 0 ≤ szTable t 1048576) (h2 : 0 ≤ szS szDeed l (szTable t 1048576)) : t.l.length + l.length ≤ 1048576 := by
  have e0 : szTable t 1048576 ≤ 1048576 - t.l.length := by
    rw [szTable_eq] at h ⊢
    obtain ⟨a0, b0, c0⟩ := sq_fit h
    obtain ⟨a1, b1, c1⟩ := sq_fit b0
    have c2 := (szI_fit a0 (by omega)).2
    rw [c0, c1]
    unfold szS at a1 ⊢
    obtain ⟨a2, b2, c3⟩ := sq_fit a1
    have c4 := szI_fit a2 (by omega)
    have c5 := szL_fit t.l (fun x _ => szRow_fit x) _ b2 (by omega)
    have c6 : szI t.l.length (szI t.cols.length 1048576) = szI t.cols.length 1048576 - t.l.length := szI_pos (by intro h3; rw [szI_neg h3] at a2; omega)
    rw [c3]
    omega
  unfold szS at h2
  obtain ⟨a2, _, _⟩ := sq_fit h2
  have : ¬ szTable t 1048576 - l.length < 0 := by intro h3; rw [szI_neg h3] at a2; omega
  omega
theorem lawApplyAll_spec (t : DTable) (l : List DDeed) : Ctr Tryz.prog 4 [.agg t.c, .c (.sl (l.map DDeed.c))] [.val (.c (.v (.bool (true))))] := by
  refine Ctr.mk (fn := Tryz.f4) Tryz.call4 Tryz.func4 rfl mixed Tryz.ntmps4 Tryz.results4 (by kernel_rfl) rfl fun hw => ?_
  simp only [go_sem, List.getElem?_toArray, Nat.reduceBEq, Nat.reduceAdd, Nat.reduceSub, Nat.reduceMul, Nat.reduceLT, Nat.reduceLeDiff, Nat.reduceEqDiff, Nat.succ_ne_zero, reduceIte]
  refine CallK.mk _ (by simpa only [go_sem] using szTable_spec t 1048576 (by omega)) fun _ => ?_
  simp only [go_sem, List.getElem?_toArray, Nat.reduceBEq, Nat.reduceAdd, Nat.reduceSub, Nat.reduceMul, Nat.reduceLT, Nat.reduceLeDiff, Nat.reduceEqDiff, Nat.succ_ne_zero, reduceIte]
  refine cndC.mk (fun h => ?_) (fun h => ?_)
  · simp only [go_sem, List.getElem?_toArray, Nat.reduceBEq, Nat.reduceAdd, Nat.reduceSub, Nat.reduceMul, Nat.reduceLT, Nat.reduceLeDiff, Nat.reduceEqDiff, Nat.succ_ne_zero, reduceIte]
  have h00 : 0 ≤ szTable t 1048576 := by simp at h; omega
  obtain ⟨hf, hle⟩ := szTable_fit t 1048576 h00 (by omega)
  simp only [go_sem, List.getElem?_toArray, Nat.reduceBEq, Nat.reduceAdd, Nat.reduceSub, Nat.reduceMul, Nat.reduceLT, Nat.reduceLeDiff, Nat.reduceEqDiff, Nat.succ_ne_zero, reduceIte]
  refine CallK.mk _ (by simpa only [go_sem] using szDeedS_spec l (szTable t 1048576) (by omega)) fun _ => ?_
  simp only [go_sem, List.getElem?_toArray, Nat.reduceBEq, Nat.reduceAdd, Nat.reduceSub, Nat.reduceMul, Nat.reduceLT, Nat.reduceLeDiff, Nat.reduceEqDiff, Nat.succ_ne_zero, reduceIte]
  refine cndC.mk (fun h => ?_) (fun h => ?_)
  · simp only [go_sem, List.getElem?_toArray, Nat.reduceBEq, Nat.reduceAdd, Nat.reduceSub, Nat.reduceMul, Nat.reduceLT, Nat.reduceLeDiff, Nat.reduceEqDiff, Nat.succ_ne_zero, reduceIte]
  have h01 : 0 ≤ szS szDeed l (szTable t 1048576) := by simp at h; omega
  obtain ⟨hfd, hle2⟩ := szS_fit l (fun x _ => szDeed_fit x) h01 (by omega)
  have hroom := sz_room2 h00 h01
  have hfa := all_fit l t hf hfd.2 hroom
  have hck := ckTab_bd (allT t l) hfa
  simp only [go_sem, List.getElem?_toArray, Nat.reduceBEq, Nat.reduceAdd, Nat.reduceSub, Nat.reduceMul, Nat.reduceLT, Nat.reduceLeDiff, Nat.reduceEqDiff, Nat.succ_ne_zero, reduceIte]
  first | refine CallK.mk _ (by simpa only [go_sem] using toTable_spec t hf) fun _ => ?_ | refine CallE.mk _ (by simpa only [go_sem] using toTable_spec t hf) ?_
  simp only [go_sem, List.getElem?_toArray, Nat.reduceBEq, Nat.reduceAdd, Nat.reduceSub, Nat.reduceMul, Nat.reduceLT, Nat.reduceLeDiff, Nat.reduceEqDiff, Nat.succ_ne_zero, reduceIte]
  first | refine CallK.mk _ (by simpa only [go_sem] using toDeedS_spec l hfd) fun _ => ?_ | refine CallE.mk _ (by simpa only [go_sem] using toDeedS_spec l hfd) ?_
  simp only [go_sem, List.getElem?_toArray, Nat.reduceBEq, Nat.reduceAdd, Nat.reduceSub, Nat.reduceMul, Nat.reduceLT, Nat.reduceLeDiff, Nat.reduceEqDiff, Nat.succ_ne_zero, reduceIte]
  first | refine CallK.mk _ (by simpa only [go_sem] using sApplyAll_spec t l hf hfd hroom) fun _ => ?_ | refine CallE.mk _ (by simpa only [go_sem] using sApplyAll_spec t l hf hfd hroom) ?_
  simp only [go_sem, List.getElem?_toArray, Nat.reduceBEq, Nat.reduceAdd, Nat.reduceSub, Nat.reduceMul, Nat.reduceLT, Nat.reduceLeDiff, Nat.reduceEqDiff, Nat.succ_ne_zero, reduceIte]
  refine CallK.mk _ (by simpa only [go_sem] using toTable_ow t hf) fun _ => ?_
  simp only [go_sem, List.getElem?_toArray, Nat.reduceBEq, Nat.reduceAdd, Nat.reduceSub, Nat.reduceMul, Nat.reduceLT, Nat.reduceLeDiff, Nat.reduceEqDiff, Nat.succ_ne_zero, reduceIte]
  refine CallK.mk _ (by simpa only [go_sem] using toDeedS_ows l hfd) fun _ => ?_
  simp only [go_sem, List.getElem?_toArray, Nat.reduceBEq, Nat.reduceAdd, Nat.reduceSub, Nat.reduceMul, Nat.reduceLT, Nat.reduceLeDiff, Nat.reduceEqDiff, Nat.succ_ne_zero, reduceIte]
  refine BorK.mk (args := [.agg t.c, .c (.sl (l.map DDeed.c))]) [.agg (allT t l).o, .val (.c (.v (.int .i64 ((allN t l)))))] (by simp only [erE_Pred, erE_Row, erE_Deed, er_int, er_Val, go_sem]) (by simp only [List.all_cons, cloR, clo_DTable, List.all_nil, Bool.and_true]) (iApplyAll_spec t l hf hfd hroom) fun _ => ?_
  simp only [go_sem, List.getElem?_toArray, Nat.reduceBEq, Nat.reduceAdd, Nat.reduceSub, Nat.reduceMul, Nat.reduceLT, Nat.reduceLeDiff, Nat.reduceEqDiff, Nat.succ_ne_zero, reduceIte]
  refine BorK.mk (args := [.agg (allT t l).c, .agg (allT t l).c]) _ (by simp only [erE_Pred, erE_Row, erE_Deed, er_int, er_Val, go_sem]) rfl (eqTable_spec _) fun _ => ?_
  simp only [go_sem, List.getElem?_toArray, Nat.reduceBEq, Nat.reduceAdd, Nat.reduceSub, Nat.reduceMul, Nat.reduceLT, Nat.reduceLeDiff, Nat.reduceEqDiff, Nat.succ_ne_zero, reduceIte, bne_self_eq_false]
  refine DrawK.mk ?_
  simp only [go_sem, List.getElem?_toArray, Nat.reduceBEq, Nat.reduceAdd, Nat.reduceSub, Nat.reduceMul, Nat.reduceLT, Nat.reduceLeDiff, Nat.reduceEqDiff, Nat.succ_ne_zero, reduceIte]
  refine CallF.mk _ (by simpa only [go_sem] using toTable_spec t hf) ?_
  simp only [go_sem, List.getElem?_toArray, Nat.reduceBEq, Nat.reduceAdd, Nat.reduceSub, Nat.reduceMul, Nat.reduceLT, Nat.reduceLeDiff, Nat.reduceEqDiff, Nat.succ_ne_zero, reduceIte]
  refine BorF.mk (args := [.agg t.c, .agg t.c]) _ (by simp only [erE_Pred, erE_Row, erE_Deed, er_int, er_Val, go_sem]) rfl (eqTable_spec t) ?_
  simp only [go_sem, List.getElem?_toArray, Nat.reduceBEq, Nat.reduceAdd, Nat.reduceSub, Nat.reduceMul, Nat.reduceLT, Nat.reduceLeDiff, Nat.reduceEqDiff, Nat.succ_ne_zero, reduceIte]
  try refine DrawK.mk ?_
  try simp only [go_sem, List.getElem?_toArray, Nat.reduceBEq, Nat.reduceAdd, Nat.reduceSub, Nat.reduceMul, Nat.reduceLT, Nat.reduceLeDiff, Nat.reduceEqDiff, Nat.succ_ne_zero, reduceIte]
  first | refine CallK.mk _ (by simpa only [go_sem] using toDeedS_spec l hfd) fun _ => ?_ | refine CallF.mk _ (by simpa only [go_sem] using toDeedS_spec l hfd) ?_
  simp only [go_sem, List.getElem?_toArray, Nat.reduceBEq, Nat.reduceAdd, Nat.reduceSub, Nat.reduceMul, Nat.reduceLT, Nat.reduceLeDiff, Nat.reduceEqDiff, Nat.succ_ne_zero, reduceIte]
  first | refine BorF.mk (args := [.c (.sl (l.map DDeed.c)), .c (.sl (l.map DDeed.c))]) _ (by simp only [erE_Pred, erE_Row, erE_Deed, er_int, er_Val, go_sem]) rfl (eqDeedS_spec l) ?_ | refine BorK.mk (args := [.c (.sl (l.map DDeed.c)), .c (.sl (l.map DDeed.c))]) _ (by simp only [erE_Pred, erE_Row, erE_Deed, er_int, er_Val, go_sem]) rfl (eqDeedS_spec l) fun _ => ?_
  simp only [go_sem, List.getElem?_toArray, Nat.reduceBEq, Nat.reduceAdd, Nat.reduceSub, Nat.reduceMul, Nat.reduceLT, Nat.reduceLeDiff, Nat.reduceEqDiff, Nat.succ_ne_zero, reduceIte]
  refine MutK.mk true (zs := [.ref 2, .ref 3]) (cl := [.ow 3 1 (t.cols.map intC), .ow 113 2 (t.l.map DRow.o)])
    (by simpa only [go_sem] using markTable_sp t 1 (by omega) 1048576 h00 (by omega) (by omega)) rfl
    ⟨rfl, rfl, rfl, rfl, nr_int _, by simp, rfl, rfl, rfl, rfl, nr_Row _, by simp, trivial⟩ rfl (.inl rfl) fun cl' rs hM => ?_
  obtain ⟨R0, R1, m, rfl, rfl, g1, g2, _⟩ := hM
  refine ⟨⟨rfl, ⟨rfl, rfl⟩, ⟨rfl, rfl⟩, trivial⟩, ?_⟩
  simp only [go_sem, List.getElem?_toArray, Nat.reduceBEq, Nat.reduceAdd, Nat.reduceSub, Nat.reduceMul, Nat.reduceLT, Nat.reduceLeDiff, Nat.reduceEqDiff, Nat.succ_ne_zero, reduceIte]
  refine MutK.mk false (zs := [.ref 5]) (cl := [.ow 56 25 (l.map DDeed.o)]) (markDeedS_sp l m (by omega) (szTable t 1048576) h01 (by omega) (by omega)) rfl ⟨rfl, rfl, rfl, rfl, nr_Deed _, by simp, trivial⟩ rfl (.inr rfl) fun cl' rs hM => ?_
  obtain ⟨R2, m2, rfl, rfl, g3, g4, g5⟩ := hM
  refine ⟨⟨rfl, ⟨rfl, rfl⟩, trivial⟩, ?_⟩
  have hm0 : decide (m2 < 0) = false := by simp; omega
  have hn0 : decide (ckTab 1 (allT t l) < 0) = false := by have := hck.1; simp; omega
  simp only [go_sem, List.getElem?_toArray, Nat.reduceBEq, Nat.reduceAdd, Nat.reduceSub, Nat.reduceMul, Nat.reduceLT, Nat.reduceLeDiff, Nat.reduceEqDiff, Nat.succ_ne_zero, reduceIte, hm0]
  refine BorK.mk (args := [.agg (allT t l).c, .agg (allT t l).c]) _ (by simp only [erE_Pred, erE_Row, erE_Deed, er_int, er_Val, go_sem]) rfl (eqTable_spec _) fun _ => ?_
  simp only [go_sem, List.getElem?_toArray, Nat.reduceBEq, Nat.reduceAdd, Nat.reduceSub, Nat.reduceMul, Nat.reduceLT, Nat.reduceLeDiff, Nat.reduceEqDiff, Nat.succ_ne_zero, reduceIte, hm0, bne_self_eq_false]
  refine MutK.mk true (zs := [.ref 6, .ref 7]) (cl := [.ow 3 1 ((allT t l).cols.map intC), .ow 113 2 ((allT t l).l.map DRow.o)])
    (by simpa only [go_sem] using markTable_ex (allT t l) hfa) rfl
    ⟨rfl, rfl, rfl, rfl, nr_int _, by simp, rfl, rfl, rfl, rfl, nr_Row _, by simp, trivial⟩ rfl (.inl rfl) fun cl' rs hM => ?_
  obtain ⟨rfl, rfl⟩ := hM
  refine ⟨⟨rfl, ⟨rfl, rfl⟩, ⟨rfl, rfl⟩, trivial⟩, ?_⟩
  simp only [go_sem, List.getElem?_toArray, Nat.reduceBEq, Nat.reduceAdd, Nat.reduceSub, Nat.reduceMul, Nat.reduceLT, Nat.reduceLeDiff, Nat.reduceEqDiff, Nat.succ_ne_zero, reduceIte]
  refine BorK.mk (args := [.agg (mkTab 1 (allT t l)).c, .c (.v (.int .i64 (1)))]) _ (by simp only [erE_Pred, erE_Row, erE_Deed, er_int, er_Val, go_sem]) rfl (heldTable_spec (allT t l) hfa) fun _ => ?_
  simp only [go_sem, List.getElem?_toArray, Nat.reduceBEq, Nat.reduceAdd, Nat.reduceSub, Nat.reduceMul, Nat.reduceLT, Nat.reduceLeDiff, Nat.reduceEqDiff, Nat.succ_ne_zero, reduceIte, hn0, bne_self_eq_false]
  first | refine DrawK.mkA 8 4 (by kernel_rfl) ?_ | skip
  try simp only [go_sem, List.getElem?_toArray, Nat.reduceBEq, Nat.reduceAdd, Nat.reduceSub, Nat.reduceMul, Nat.reduceLT, Nat.reduceLeDiff, Nat.reduceEqDiff, Nat.succ_ne_zero, reduceIte]
  first | refine CallK.mk _ (by simpa only [go_sem] using toTable_spec t hf) fun _ => ?_ | refine CallE.mk _ (by simpa only [go_sem] using toTable_spec t hf) ?_
  simp only [go_sem, List.getElem?_toArray, Nat.reduceBEq, Nat.reduceAdd, Nat.reduceSub, Nat.reduceMul, Nat.reduceLT, Nat.reduceLeDiff, Nat.reduceEqDiff, Nat.succ_ne_zero, reduceIte]
  first | refine CallK.mk _ (by simpa only [go_sem] using toDeedS_spec l hfd) fun _ => ?_ | refine CallE.mk _ (by simpa only [go_sem] using toDeedS_spec l hfd) ?_
  simp only [go_sem, List.getElem?_toArray, Nat.reduceBEq, Nat.reduceAdd, Nat.reduceSub, Nat.reduceMul, Nat.reduceLT, Nat.reduceLeDiff, Nat.reduceEqDiff, Nat.succ_ne_zero, reduceIte]
  first | refine CallK.mk _ (by simpa only [go_sem] using iApplyAll_spec t l hf hfd hroom) fun _ => ?_ | refine CallE.mk _ (by simpa only [go_sem] using iApplyAll_spec t l hf hfd hroom) ?_
  simp only [go_sem, List.getElem?_toArray, Nat.reduceBEq, Nat.reduceAdd, Nat.reduceSub, Nat.reduceMul, Nat.reduceLT, Nat.reduceLeDiff, Nat.reduceEqDiff, Nat.succ_ne_zero, reduceIte, nr_int, nr_Row]
  refine BorK.mk (args := [.agg (allT t l).c, .agg (allT t l).c]) _ (by simp only [erE_Pred, erE_Row, erE_Deed, er_int, er_Val, go_sem]) rfl (eqTable_spec _) fun _ => ?_
  simp only [go_sem, List.getElem?_toArray, Nat.reduceBEq, Nat.reduceAdd, Nat.reduceSub, Nat.reduceMul, Nat.reduceLT, Nat.reduceLeDiff, Nat.reduceEqDiff, Nat.succ_ne_zero, reduceIte, bne_self_eq_false]
  refine BorK.mk (args := [.agg (mkTab 1 (allT t l)).c, .c (.v (.int .i64 (1)))]) _ (by simp only [erE_Pred, erE_Row, erE_Deed, er_int, er_Val, go_sem]) rfl (heldTable_spec (allT t l) hfa) fun _ => ?_
  simp only [go_sem, List.getElem?_toArray, Nat.reduceBEq, Nat.reduceAdd, Nat.reduceSub, Nat.reduceMul, Nat.reduceLT, Nat.reduceLeDiff, Nat.reduceEqDiff, Nat.succ_ne_zero, reduceIte, hn0, bne_self_eq_false]

end Go.Proofs.YtepjgnlinjlehaaGreat
