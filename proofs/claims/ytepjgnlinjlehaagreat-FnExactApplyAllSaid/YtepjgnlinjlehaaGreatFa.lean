/- Contracts of the sz/to/eq functions: by program (gen_data.py). -/
import Derived.Test.YtepjgnlinjlehaaGreatDa
import Derived.Test.YtepjgnlinjlehaaGreatTy
namespace Go.Proofs.YtepjgnlinjlehaaGreat
set_option linter.unusedSimpArgs false
set_option linter.unusedVariables false
open Go.Vm

set_option maxHeartbeats 1000000
set_option maxRecDepth 10000

theorem szIntS_spec (xs : List Int) (l : Int) (hl : 0 ≤ l) : Ctr Tryz.prog 29 [.c (.sl (xs.map intC)), .c (.v (.int .i64 l))] [.val (.c (.v (.int .i64 (szI xs.length l))))] := by
  refine Ctr.mk (fn := Tryz.f29) Tryz.call29 Tryz.func29 rfl mixed Tryz.ntmps29 Tryz.results29 (by kernel_rfl) rfl fun hw => ?_
  have hlen : xs.length ≤ 9223372036854775807 := by have := hw.1.1; simpa [Go.maxLen] using this
  have hl2 : l ≤ 9223372036854775807 := i64_le hw.2.1
  simp only [go_sem, Nat.reduceAdd, Nat.reduceSub, Nat.reduceMul, Nat.reduceLT, Nat.reduceLeDiff, Nat.reduceEqDiff, Nat.succ_ne_zero, reduceIte, List.length_map, wrap_i64 (n := l - xs.length) (by omega) (by omega)]
  refine cndC.mk (fun h => ?_) (fun h => ?_)
  · have h' : l - xs.length < 0 := by simpa using h
    simp only [go_sem, Nat.reduceAdd, Nat.reduceSub, Nat.reduceMul, Nat.reduceLT, Nat.reduceLeDiff, Nat.reduceEqDiff, Nat.succ_ne_zero, reduceIte]
    simp [szI, h']
  · have h' : ¬ l - xs.length < 0 := by simpa using h
    simp only [go_sem, Nat.reduceAdd, Nat.reduceSub, Nat.reduceMul, Nat.reduceLT, Nat.reduceLeDiff, Nat.reduceEqDiff, Nat.succ_ne_zero, reduceIte]
    simp [szI, h']
theorem szByteS_spec (xs : List Int) (l : Int) (hl : 0 ≤ l) : Ctr Tryz.prog 164 [.c (.sl (xs.map byteC)), .c (.v (.int .i64 l))] [.val (.c (.v (.int .i64 (szI xs.length l))))] := by
  refine Ctr.mk (fn := Tryz.f164) Tryz.call164 Tryz.func164 rfl mixed Tryz.ntmps164 Tryz.results164 (by kernel_rfl) rfl fun hw => ?_
  have hlen : xs.length ≤ 9223372036854775807 := by have := hw.1.1; simpa [Go.maxLen] using this
  have hl2 : l ≤ 9223372036854775807 := i64_le hw.2.1
  simp only [go_sem, Nat.reduceAdd, Nat.reduceSub, Nat.reduceMul, Nat.reduceLT, Nat.reduceLeDiff, Nat.reduceEqDiff, Nat.succ_ne_zero, reduceIte, List.length_map, wrap_i64 (n := l - xs.length) (by omega) (by omega)]
  refine cndC.mk (fun h => ?_) (fun h => ?_)
  · have h' : l - xs.length < 0 := by simpa using h
    simp only [go_sem, Nat.reduceAdd, Nat.reduceSub, Nat.reduceMul, Nat.reduceLT, Nat.reduceLeDiff, Nat.reduceEqDiff, Nat.succ_ne_zero, reduceIte]
    simp [szI, h']
  · have h' : ¬ l - xs.length < 0 := by simpa using h
    simp only [go_sem, Nat.reduceAdd, Nat.reduceSub, Nat.reduceMul, Nat.reduceLT, Nat.reduceLeDiff, Nat.reduceEqDiff, Nat.succ_ne_zero, reduceIte]
    simp [szI, h']
theorem szVal_spec (d : DVal) (l : Int) (hl : 0 ≤ l) : Ctr Tryz.prog 92 [.agg d.c, .c (.v (.int .i64 l))] [.val (.c (.v (.int .i64 (szVal d l))))] := by
  refine Ctr.mk (fn := Tryz.f92) Tryz.call92 Tryz.func92 rfl mixed Tryz.ntmps92 Tryz.results92 (by kernel_rfl) rfl fun hw => ?_
  rw [szVal_eq]
  have hl2 : l ≤ 9223372036854775807 := i64_le hw.2.1
  have hs : d.s.size ≤ 9223372036854775807 := str_le hw.1.2.2.1
  simp only [go_sem, Nat.reduceAdd, Nat.reduceSub, Nat.reduceMul, Nat.reduceLT, Nat.reduceLeDiff, Nat.reduceEqDiff, Nat.succ_ne_zero, reduceIte, wrap_i64 (n := l - d.s.size) (by omega) (by omega)]
  refine cndC.mk (fun h => ?_) (fun h => ?_)
  · have h0 : l - d.s.size < 0 := by simpa using h
    simp only [go_sem, Nat.reduceAdd, Nat.reduceSub, Nat.reduceMul, Nat.reduceLT, Nat.reduceLeDiff, Nat.reduceEqDiff, Nat.succ_ne_zero, reduceIte]
    simp [szI, sq, h0]
  · have h0 : ¬ l - d.s.size < 0 := by simpa using h
    simp only [go_sem, Nat.reduceAdd, Nat.reduceSub, Nat.reduceMul, Nat.reduceLT, Nat.reduceLeDiff, Nat.reduceEqDiff, Nat.succ_ne_zero, reduceIte]
    simp [szI, sq, h0]
theorem szValS_of (xs : List DVal) (hx : ∀ x ∈ xs, ∀ l, 0 ≤ l → Ctr Tryz.prog 92 [.agg x.c, .c (.v (.int .i64 l))] [.val (.c (.v (.int .i64 (szVal x l))))]) (l : Int) (hl : 0 ≤ l) : Ctr Tryz.prog 31 [.c (.sl (xs.map DVal.c)), .c (.v (.int .i64 l))] [.val (.c (.v (.int .i64 (szS szVal xs l))))] := by
  refine Ctr.mk (fn := Tryz.f31) Tryz.call31 Tryz.func31 rfl mixed Tryz.ntmps31 Tryz.results31 (by kernel_rfl) rfl fun hw => ?_
  have hlen : xs.length ≤ 9223372036854775807 := by have := hw.1.1; simpa [Go.maxLen] using this
  have hl2 : l ≤ 9223372036854775807 := i64_le hw.2.1
  simp only [go_sem, Nat.reduceAdd, Nat.reduceSub, Nat.reduceMul, Nat.reduceLT, Nat.reduceLeDiff, Nat.reduceEqDiff, Nat.succ_ne_zero, reduceIte, List.length_map, wrap_i64 (n := l - xs.length) (by omega) (by omega)]
  refine cndC.mk (fun h => ?_) (fun h => ?_)
  · have h' : l - xs.length < 0 := by simpa using h
    simp only [go_sem, Nat.reduceAdd, Nat.reduceSub, Nat.reduceMul, Nat.reduceLT, Nat.reduceLeDiff, Nat.reduceEqDiff, Nat.succ_ne_zero, reduceIte]
    simp [szS, sq, szI, h']
  · have h' : ¬ l - xs.length < 0 := by simpa using h
    simp only [go_sem, Nat.reduceAdd, Nat.reduceSub, Nat.reduceMul, Nat.reduceLT, Nat.reduceLeDiff, Nat.reduceEqDiff, Nat.succ_ne_zero, reduceIte]
    refine LoopK.mk 0 [0, 1, 5] (A := Nat × Int) (fun x => ⟨27, [(0, .c (.sl (xs.map DVal.c))), (1, .c (.v (.int .i64 x.2))), (5, .c (.v (.int .i64 x.1)))], []⟩) (fun x => x.1 ≤ xs.length ∧ 0 ≤ x.2 ∧ szL szVal (xs.drop x.1) x.2 = szS szVal xs l) (fun x => xs.length - x.1)
      (0, l - xs.length) ⟨⟨rfl, rfl⟩, rfl, Nat.zero_le _, by simp only; omega, by simp [szS, sq, szI, h']⟩ ?_
    rintro ⟨k, m⟩ ⟨hk, hm0, hm⟩
    simp only at hk hm hm0
    simp only [go_sem, Nat.reduceAdd, Nat.reduceSub, Nat.reduceMul, Nat.reduceLT, Nat.reduceLeDiff, Nat.reduceEqDiff, Nat.succ_ne_zero, reduceIte, List.length_map]
    refine cndC.mk (fun h => ?_) (fun h => ?_)
    · have hk' : k < xs.length := by simpa using h
      simp only [go_sem, Nat.reduceAdd, Nat.reduceSub, Nat.reduceMul, Nat.reduceLT, Nat.reduceLeDiff, Nat.reduceEqDiff, Nat.succ_ne_zero, reduceIte, map_at _ hk']
      refine CallK.mk _ (by simpa only [go_sem] using hx xs[k] (List.getElem_mem hk') m hm0) fun _ => ?_
      simp only [go_sem, Nat.reduceAdd, Nat.reduceSub, Nat.reduceMul, Nat.reduceLT, Nat.reduceLeDiff, Nat.reduceEqDiff, Nat.succ_ne_zero, reduceIte]
      rw [List.drop_eq_getElem_cons hk'] at hm
      simp only [szL] at hm
      refine cndC.mk (fun h => ?_) (fun h => ?_)
      · have h' : szVal xs[k] m < 0 := by simpa using h
        simp only [go_sem, Nat.reduceAdd, Nat.reduceSub, Nat.reduceMul, Nat.reduceLT, Nat.reduceLeDiff, Nat.reduceEqDiff, Nat.succ_ne_zero, reduceIte]
        rw [sq_neg h'] at hm
        rw [hm]
      · have h' : ¬ szVal xs[k] m < 0 := by simpa using h
        rw [sq_pos h'] at hm
        simp only [go_sem, Nat.reduceAdd, Nat.reduceSub, Nat.reduceMul, Nat.reduceLT, Nat.reduceLeDiff, Nat.reduceEqDiff, Nat.succ_ne_zero, reduceIte, wrap_i64 (n := (k : Int) + 1) (by omega) (by omega)]
        exact ⟨(k + 1, szVal xs[k] m), ⟨rfl, rfl⟩, rfl, ⟨by simp only; omega, (by omega : (0 : Int) ≤ szVal xs[k] m), hm⟩, by simp only; omega⟩
    · have hk' : k = xs.length := by simp at h; omega
      subst hk'
      simp only [go_sem, Nat.reduceAdd, Nat.reduceSub, Nat.reduceMul, Nat.reduceLT, Nat.reduceLeDiff, Nat.reduceEqDiff, Nat.succ_ne_zero, reduceIte]
      simp [szL] at hm
      rw [hm]
theorem szValS_spec (xs : List DVal) (l : Int) (hl : 0 ≤ l) : Ctr Tryz.prog 31 [.c (.sl (xs.map DVal.c)), .c (.v (.int .i64 l))] [.val (.c (.v (.int .i64 (szS szVal xs l))))] := szValS_of xs (fun x _ l hl => szVal_spec x l hl) l hl
theorem szRow_spec (d : DRow) (l : Int) (hl : 0 ≤ l) : Ctr Tryz.prog 91 [.agg d.c, .c (.v (.int .i64 l))] [.val (.c (.v (.int .i64 (szRow d l))))] := by
  refine Ctr.mk (fn := Tryz.f91) Tryz.call91 Tryz.func91 rfl mixed Tryz.ntmps91 Tryz.results91 (by kernel_rfl) rfl fun hw => ?_
  rw [szRow_eq]
  simp only [go_sem, Nat.reduceAdd, Nat.reduceSub, Nat.reduceMul, Nat.reduceLT, Nat.reduceLeDiff, Nat.reduceEqDiff, Nat.succ_ne_zero, reduceIte]
  refine CallK.mk _ (by simpa only [go_sem] using szValS_spec d.l _ (by omega)) fun _ => ?_
  simp only [go_sem, Nat.reduceAdd, Nat.reduceSub, Nat.reduceMul, Nat.reduceLT, Nat.reduceLeDiff, Nat.reduceEqDiff, Nat.succ_ne_zero, reduceIte]
  refine cndC.mk (fun h => ?_) (fun h => ?_)
  · have h0 : szS szVal d.l (l) < 0 := by simpa using h
    simp only [go_sem, Nat.reduceAdd, Nat.reduceSub, Nat.reduceMul, Nat.reduceLT, Nat.reduceLeDiff, Nat.reduceEqDiff, Nat.succ_ne_zero, reduceIte]
    simp [sq, h0]
  · have h0 : ¬ szS szVal d.l (l) < 0 := by simpa using h
    simp only [go_sem, Nat.reduceAdd, Nat.reduceSub, Nat.reduceMul, Nat.reduceLT, Nat.reduceLeDiff, Nat.reduceEqDiff, Nat.succ_ne_zero, reduceIte]
    simp [sq, h0]
theorem szRowS_of (xs : List DRow) (hx : ∀ x ∈ xs, ∀ l, 0 ≤ l → Ctr Tryz.prog 91 [.agg x.c, .c (.v (.int .i64 l))] [.val (.c (.v (.int .i64 (szRow x l))))]) (l : Int) (hl : 0 ≤ l) : Ctr Tryz.prog 30 [.c (.sl (xs.map DRow.c)), .c (.v (.int .i64 l))] [.val (.c (.v (.int .i64 (szS szRow xs l))))] := by
  refine Ctr.mk (fn := Tryz.f30) Tryz.call30 Tryz.func30 rfl mixed Tryz.ntmps30 Tryz.results30 (by kernel_rfl) rfl fun hw => ?_
  have hlen : xs.length ≤ 9223372036854775807 := by have := hw.1.1; simpa [Go.maxLen] using this
  have hl2 : l ≤ 9223372036854775807 := i64_le hw.2.1
  simp only [go_sem, Nat.reduceAdd, Nat.reduceSub, Nat.reduceMul, Nat.reduceLT, Nat.reduceLeDiff, Nat.reduceEqDiff, Nat.succ_ne_zero, reduceIte, List.length_map, wrap_i64 (n := l - xs.length) (by omega) (by omega)]
  refine cndC.mk (fun h => ?_) (fun h => ?_)
  · have h' : l - xs.length < 0 := by simpa using h
    simp only [go_sem, Nat.reduceAdd, Nat.reduceSub, Nat.reduceMul, Nat.reduceLT, Nat.reduceLeDiff, Nat.reduceEqDiff, Nat.succ_ne_zero, reduceIte]
    simp [szS, sq, szI, h']
  · have h' : ¬ l - xs.length < 0 := by simpa using h
    simp only [go_sem, Nat.reduceAdd, Nat.reduceSub, Nat.reduceMul, Nat.reduceLT, Nat.reduceLeDiff, Nat.reduceEqDiff, Nat.succ_ne_zero, reduceIte]
    refine LoopK.mk 0 [0, 1, 5] (A := Nat × Int) (fun x => ⟨27, [(0, .c (.sl (xs.map DRow.c))), (1, .c (.v (.int .i64 x.2))), (5, .c (.v (.int .i64 x.1)))], []⟩) (fun x => x.1 ≤ xs.length ∧ 0 ≤ x.2 ∧ szL szRow (xs.drop x.1) x.2 = szS szRow xs l) (fun x => xs.length - x.1)
      (0, l - xs.length) ⟨⟨rfl, rfl⟩, rfl, Nat.zero_le _, by simp only; omega, by simp [szS, sq, szI, h']⟩ ?_
    rintro ⟨k, m⟩ ⟨hk, hm0, hm⟩
    simp only at hk hm hm0
    simp only [go_sem, Nat.reduceAdd, Nat.reduceSub, Nat.reduceMul, Nat.reduceLT, Nat.reduceLeDiff, Nat.reduceEqDiff, Nat.succ_ne_zero, reduceIte, List.length_map]
    refine cndC.mk (fun h => ?_) (fun h => ?_)
    · have hk' : k < xs.length := by simpa using h
      simp only [go_sem, Nat.reduceAdd, Nat.reduceSub, Nat.reduceMul, Nat.reduceLT, Nat.reduceLeDiff, Nat.reduceEqDiff, Nat.succ_ne_zero, reduceIte, map_at _ hk']
      refine CallK.mk _ (by simpa only [go_sem] using hx xs[k] (List.getElem_mem hk') m hm0) fun _ => ?_
      simp only [go_sem, Nat.reduceAdd, Nat.reduceSub, Nat.reduceMul, Nat.reduceLT, Nat.reduceLeDiff, Nat.reduceEqDiff, Nat.succ_ne_zero, reduceIte]
      rw [List.drop_eq_getElem_cons hk'] at hm
      simp only [szL] at hm
      refine cndC.mk (fun h => ?_) (fun h => ?_)
      · have h' : szRow xs[k] m < 0 := by simpa using h
        simp only [go_sem, Nat.reduceAdd, Nat.reduceSub, Nat.reduceMul, Nat.reduceLT, Nat.reduceLeDiff, Nat.reduceEqDiff, Nat.succ_ne_zero, reduceIte]
        rw [sq_neg h'] at hm
        rw [hm]
      · have h' : ¬ szRow xs[k] m < 0 := by simpa using h
        rw [sq_pos h'] at hm
        simp only [go_sem, Nat.reduceAdd, Nat.reduceSub, Nat.reduceMul, Nat.reduceLT, Nat.reduceLeDiff, Nat.reduceEqDiff, Nat.succ_ne_zero, reduceIte, wrap_i64 (n := (k : Int) + 1) (by omega) (by omega)]
        exact ⟨(k + 1, szRow xs[k] m), ⟨rfl, rfl⟩, rfl, ⟨by simp only; omega, (by omega : (0 : Int) ≤ szRow xs[k] m), hm⟩, by simp only; omega⟩
    · have hk' : k = xs.length := by simp at h; omega
      subst hk'
      simp only [go_sem, Nat.reduceAdd, Nat.reduceSub, Nat.reduceMul, Nat.reduceLT, Nat.reduceLeDiff, Nat.reduceEqDiff, Nat.succ_ne_zero, reduceIte]
      simp [szL] at hm
      rw [hm]
theorem szRowS_spec (xs : List DRow) (l : Int) (hl : 0 ≤ l) : Ctr Tryz.prog 30 [.c (.sl (xs.map DRow.c)), .c (.v (.int .i64 l))] [.val (.c (.v (.int .i64 (szS szRow xs l))))] := szRowS_of xs (fun x _ l hl => szRow_spec x l hl) l hl
theorem szTable_spec (d : DTable) (l : Int) (hl : 0 ≤ l) : Ctr Tryz.prog 6 [.agg d.c, .c (.v (.int .i64 l))] [.val (.c (.v (.int .i64 (szTable d l))))] := by
  refine Ctr.mk (fn := Tryz.f6) Tryz.call6 Tryz.func6 rfl mixed Tryz.ntmps6 Tryz.results6 (by kernel_rfl) rfl fun hw => ?_
  rw [szTable_eq]
  simp only [go_sem, Nat.reduceAdd, Nat.reduceSub, Nat.reduceMul, Nat.reduceLT, Nat.reduceLeDiff, Nat.reduceEqDiff, Nat.succ_ne_zero, reduceIte]
  refine CallK.mk _ (by simpa only [go_sem] using szIntS_spec d.cols _ (by omega)) fun _ => ?_
  simp only [go_sem, Nat.reduceAdd, Nat.reduceSub, Nat.reduceMul, Nat.reduceLT, Nat.reduceLeDiff, Nat.reduceEqDiff, Nat.succ_ne_zero, reduceIte]
  refine cndC.mk (fun h => ?_) (fun h => ?_)
  · have h0 : szI d.cols.length (l) < 0 := by simpa using h
    simp only [go_sem, Nat.reduceAdd, Nat.reduceSub, Nat.reduceMul, Nat.reduceLT, Nat.reduceLeDiff, Nat.reduceEqDiff, Nat.succ_ne_zero, reduceIte]
    simp [sq, h0]
  · have h0 : ¬ szI d.cols.length (l) < 0 := by simpa using h
    simp only [go_sem, Nat.reduceAdd, Nat.reduceSub, Nat.reduceMul, Nat.reduceLT, Nat.reduceLeDiff, Nat.reduceEqDiff, Nat.succ_ne_zero, reduceIte]
    refine CallK.mk _ (by simpa only [go_sem] using szRowS_spec d.l _ (by omega)) fun _ => ?_
    simp only [go_sem, Nat.reduceAdd, Nat.reduceSub, Nat.reduceMul, Nat.reduceLT, Nat.reduceLeDiff, Nat.reduceEqDiff, Nat.succ_ne_zero, reduceIte]
    refine cndC.mk (fun h => ?_) (fun h => ?_)
    · have h1 : szS szRow d.l (szI d.cols.length (l)) < 0 := by simpa using h
      simp only [go_sem, Nat.reduceAdd, Nat.reduceSub, Nat.reduceMul, Nat.reduceLT, Nat.reduceLeDiff, Nat.reduceEqDiff, Nat.succ_ne_zero, reduceIte]
      simp [sq, h0, h1]
    · have h1 : ¬ szS szRow d.l (szI d.cols.length (l)) < 0 := by simpa using h
      simp only [go_sem, Nat.reduceAdd, Nat.reduceSub, Nat.reduceMul, Nat.reduceLT, Nat.reduceLeDiff, Nat.reduceEqDiff, Nat.succ_ne_zero, reduceIte]
      simp [sq, h0, h1]
theorem szPredS_of (xs : List DPred) (hx : ∀ x ∈ xs, ∀ l, 0 ≤ l → Ctr Tryz.prog 93 [.agg x.c, .c (.v (.int .i64 l))] [.val (.c (.v (.int .i64 (szPred x l))))]) (l : Int) (hl : 0 ≤ l) : Ctr Tryz.prog 145 [.c (.sl (xs.map DPred.c)), .c (.v (.int .i64 l))] [.val (.c (.v (.int .i64 (szS szPred xs l))))] := by
  refine Ctr.mk (fn := Tryz.f145) Tryz.call145 Tryz.func145 rfl mixed Tryz.ntmps145 Tryz.results145 (by kernel_rfl) rfl fun hw => ?_
  have hlen : xs.length ≤ 9223372036854775807 := by have := hw.1.1; simpa [Go.maxLen] using this
  have hl2 : l ≤ 9223372036854775807 := i64_le hw.2.1
  simp only [go_sem, Nat.reduceAdd, Nat.reduceSub, Nat.reduceMul, Nat.reduceLT, Nat.reduceLeDiff, Nat.reduceEqDiff, Nat.succ_ne_zero, reduceIte, List.length_map, wrap_i64 (n := l - xs.length) (by omega) (by omega)]
  refine cndC.mk (fun h => ?_) (fun h => ?_)
  · have h' : l - xs.length < 0 := by simpa using h
    simp only [go_sem, Nat.reduceAdd, Nat.reduceSub, Nat.reduceMul, Nat.reduceLT, Nat.reduceLeDiff, Nat.reduceEqDiff, Nat.succ_ne_zero, reduceIte]
    simp [szS, sq, szI, h']
  · have h' : ¬ l - xs.length < 0 := by simpa using h
    simp only [go_sem, Nat.reduceAdd, Nat.reduceSub, Nat.reduceMul, Nat.reduceLT, Nat.reduceLeDiff, Nat.reduceEqDiff, Nat.succ_ne_zero, reduceIte]
    refine LoopK.mk 0 [0, 1, 5] (A := Nat × Int) (fun x => ⟨27, [(0, .c (.sl (xs.map DPred.c))), (1, .c (.v (.int .i64 x.2))), (5, .c (.v (.int .i64 x.1)))], []⟩) (fun x => x.1 ≤ xs.length ∧ 0 ≤ x.2 ∧ szL szPred (xs.drop x.1) x.2 = szS szPred xs l) (fun x => xs.length - x.1)
      (0, l - xs.length) ⟨⟨rfl, rfl⟩, rfl, Nat.zero_le _, by simp only; omega, by simp [szS, sq, szI, h']⟩ ?_
    rintro ⟨k, m⟩ ⟨hk, hm0, hm⟩
    simp only at hk hm hm0
    simp only [go_sem, Nat.reduceAdd, Nat.reduceSub, Nat.reduceMul, Nat.reduceLT, Nat.reduceLeDiff, Nat.reduceEqDiff, Nat.succ_ne_zero, reduceIte, List.length_map]
    refine cndC.mk (fun h => ?_) (fun h => ?_)
    · have hk' : k < xs.length := by simpa using h
      simp only [go_sem, Nat.reduceAdd, Nat.reduceSub, Nat.reduceMul, Nat.reduceLT, Nat.reduceLeDiff, Nat.reduceEqDiff, Nat.succ_ne_zero, reduceIte, map_at _ hk']
      refine CallK.mk _ (by simpa only [go_sem] using hx xs[k] (List.getElem_mem hk') m hm0) fun _ => ?_
      simp only [go_sem, Nat.reduceAdd, Nat.reduceSub, Nat.reduceMul, Nat.reduceLT, Nat.reduceLeDiff, Nat.reduceEqDiff, Nat.succ_ne_zero, reduceIte]
      rw [List.drop_eq_getElem_cons hk'] at hm
      simp only [szL] at hm
      refine cndC.mk (fun h => ?_) (fun h => ?_)
      · have h' : szPred xs[k] m < 0 := by simpa using h
        simp only [go_sem, Nat.reduceAdd, Nat.reduceSub, Nat.reduceMul, Nat.reduceLT, Nat.reduceLeDiff, Nat.reduceEqDiff, Nat.succ_ne_zero, reduceIte]
        rw [sq_neg h'] at hm
        rw [hm]
      · have h' : ¬ szPred xs[k] m < 0 := by simpa using h
        rw [sq_pos h'] at hm
        simp only [go_sem, Nat.reduceAdd, Nat.reduceSub, Nat.reduceMul, Nat.reduceLT, Nat.reduceLeDiff, Nat.reduceEqDiff, Nat.succ_ne_zero, reduceIte, wrap_i64 (n := (k : Int) + 1) (by omega) (by omega)]
        exact ⟨(k + 1, szPred xs[k] m), ⟨rfl, rfl⟩, rfl, ⟨by simp only; omega, (by omega : (0 : Int) ≤ szPred xs[k] m), hm⟩, by simp only; omega⟩
    · have hk' : k = xs.length := by simp at h; omega
      subst hk'
      simp only [go_sem, Nat.reduceAdd, Nat.reduceSub, Nat.reduceMul, Nat.reduceLT, Nat.reduceLeDiff, Nat.reduceEqDiff, Nat.succ_ne_zero, reduceIte]
      simp [szL] at hm
      rw [hm]
theorem szPred_of (d : DPred) (hx : ∀ x ∈ d.l, ∀ l, 0 ≤ l → Ctr Tryz.prog 93 [.agg x.c, .c (.v (.int .i64 l))] [.val (.c (.v (.int .i64 (szPred x l))))]) (l : Int) (hl : 0 ≤ l) : Ctr Tryz.prog 93 [.agg d.c, .c (.v (.int .i64 l))] [.val (.c (.v (.int .i64 (szPred d l))))] := by
  refine Ctr.mk (fn := Tryz.f93) Tryz.call93 Tryz.func93 rfl mixed Tryz.ntmps93 Tryz.results93 (by kernel_rfl) rfl fun hw => ?_
  rw [szPred_eq]
  simp only [go_sem, Nat.reduceAdd, Nat.reduceSub, Nat.reduceMul, Nat.reduceLT, Nat.reduceLeDiff, Nat.reduceEqDiff, Nat.succ_ne_zero, reduceIte]
  refine CallK.mk _ (by simpa only [go_sem] using szVal_spec d.v _ (by omega)) fun _ => ?_
  simp only [go_sem, Nat.reduceAdd, Nat.reduceSub, Nat.reduceMul, Nat.reduceLT, Nat.reduceLeDiff, Nat.reduceEqDiff, Nat.succ_ne_zero, reduceIte]
  refine cndC.mk (fun h => ?_) (fun h => ?_)
  · have h0 : szVal d.v (l) < 0 := by simpa using h
    simp only [go_sem, Nat.reduceAdd, Nat.reduceSub, Nat.reduceMul, Nat.reduceLT, Nat.reduceLeDiff, Nat.reduceEqDiff, Nat.succ_ne_zero, reduceIte]
    simp [sq, h0]
  · have h0 : ¬ szVal d.v (l) < 0 := by simpa using h
    simp only [go_sem, Nat.reduceAdd, Nat.reduceSub, Nat.reduceMul, Nat.reduceLT, Nat.reduceLeDiff, Nat.reduceEqDiff, Nat.succ_ne_zero, reduceIte]
    refine CallK.mk _ (by simpa only [go_sem] using szPredS_of d.l hx _ (by omega)) fun _ => ?_
    simp only [go_sem, Nat.reduceAdd, Nat.reduceSub, Nat.reduceMul, Nat.reduceLT, Nat.reduceLeDiff, Nat.reduceEqDiff, Nat.succ_ne_zero, reduceIte]
    refine cndC.mk (fun h => ?_) (fun h => ?_)
    · have h1 : szS szPred d.l (szVal d.v (l)) < 0 := by simpa using h
      simp only [go_sem, Nat.reduceAdd, Nat.reduceSub, Nat.reduceMul, Nat.reduceLT, Nat.reduceLeDiff, Nat.reduceEqDiff, Nat.succ_ne_zero, reduceIte]
      simp [sq, h0, h1]
    · have h1 : ¬ szS szPred d.l (szVal d.v (l)) < 0 := by simpa using h
      simp only [go_sem, Nat.reduceAdd, Nat.reduceSub, Nat.reduceMul, Nat.reduceLT, Nat.reduceLeDiff, Nat.reduceEqDiff, Nat.succ_ne_zero, reduceIte]
      simp [sq, h0, h1]
theorem szPred_fuel : ∀ (n : Nat) (d : DPred), SizeOf.sizeOf d ≤ n → ∀ l, 0 ≤ l → Ctr Tryz.prog 93 [.agg d.c, .c (.v (.int .i64 l))] [.val (.c (.v (.int .i64 (szPred d l))))]
  | 0, d, h => by cases d; simp at h
  | n + 1, d, h => szPred_of d fun x hx => szPred_fuel n x (by
    have h1 : SizeOf.sizeOf x < SizeOf.sizeOf d.l := List.sizeOf_lt_of_mem hx
    have h2 : SizeOf.sizeOf d.l < SizeOf.sizeOf d := by cases d; simp [DPred.l]; omega
    omega)
theorem szPred_spec (d : DPred) (l : Int) (hl : 0 ≤ l) : Ctr Tryz.prog 93 [.agg d.c, .c (.v (.int .i64 l))] [.val (.c (.v (.int .i64 (szPred d l))))] := szPred_fuel _ d (Nat.le_refl _) l hl
theorem szPredS_spec (xs : List DPred) (l : Int) (hl : 0 ≤ l) : Ctr Tryz.prog 145 [.c (.sl (xs.map DPred.c)), .c (.v (.int .i64 l))] [.val (.c (.v (.int .i64 (szS szPred xs l))))] := szPredS_of xs (fun x _ l hl => szPred_spec x l hl) l hl
theorem szQuery_spec (d : DQuery) (l : Int) (hl : 0 ≤ l) : Ctr Tryz.prog 32 [.agg d.c, .c (.v (.int .i64 l))] [.val (.c (.v (.int .i64 (szQuery d l))))] := by
  refine Ctr.mk (fn := Tryz.f32) Tryz.call32 Tryz.func32 rfl mixed Tryz.ntmps32 Tryz.results32 (by kernel_rfl) rfl fun hw => ?_
  rw [szQuery_eq]
  simp only [go_sem, Nat.reduceAdd, Nat.reduceSub, Nat.reduceMul, Nat.reduceLT, Nat.reduceLeDiff, Nat.reduceEqDiff, Nat.succ_ne_zero, reduceIte]
  refine CallK.mk _ (by simpa only [go_sem] using szPred_spec d.p _ (by omega)) fun _ => ?_
  simp only [go_sem, Nat.reduceAdd, Nat.reduceSub, Nat.reduceMul, Nat.reduceLT, Nat.reduceLeDiff, Nat.reduceEqDiff, Nat.succ_ne_zero, reduceIte]
  refine cndC.mk (fun h => ?_) (fun h => ?_)
  · have h0 : szPred d.p (l) < 0 := by simpa using h
    simp only [go_sem, Nat.reduceAdd, Nat.reduceSub, Nat.reduceMul, Nat.reduceLT, Nat.reduceLeDiff, Nat.reduceEqDiff, Nat.succ_ne_zero, reduceIte]
    simp [sq, h0]
  · have h0 : ¬ szPred d.p (l) < 0 := by simpa using h
    simp only [go_sem, Nat.reduceAdd, Nat.reduceSub, Nat.reduceMul, Nat.reduceLT, Nat.reduceLeDiff, Nat.reduceEqDiff, Nat.succ_ne_zero, reduceIte]
    refine CallK.mk _ (by simpa only [go_sem] using szIntS_spec d.out _ (by omega)) fun _ => ?_
    simp only [go_sem, Nat.reduceAdd, Nat.reduceSub, Nat.reduceMul, Nat.reduceLT, Nat.reduceLeDiff, Nat.reduceEqDiff, Nat.succ_ne_zero, reduceIte]
    refine cndC.mk (fun h => ?_) (fun h => ?_)
    · have h1 : szI d.out.length (szPred d.p (l)) < 0 := by simpa using h
      simp only [go_sem, Nat.reduceAdd, Nat.reduceSub, Nat.reduceMul, Nat.reduceLT, Nat.reduceLeDiff, Nat.reduceEqDiff, Nat.succ_ne_zero, reduceIte]
      simp [sq, h0, h1]
    · have h1 : ¬ szI d.out.length (szPred d.p (l)) < 0 := by simpa using h
      simp only [go_sem, Nat.reduceAdd, Nat.reduceSub, Nat.reduceMul, Nat.reduceLT, Nat.reduceLeDiff, Nat.reduceEqDiff, Nat.succ_ne_zero, reduceIte]
      simp [sq, h0, h1]
theorem szResult_spec (d : DResult) (l : Int) (hl : 0 ≤ l) : Ctr Tryz.prog 33 [.agg d.c, .c (.v (.int .i64 l))] [.val (.c (.v (.int .i64 (szResult d l))))] := by
  refine Ctr.mk (fn := Tryz.f33) Tryz.call33 Tryz.func33 rfl mixed Tryz.ntmps33 Tryz.results33 (by kernel_rfl) rfl fun hw => ?_
  rw [szResult_eq]
  simp only [go_sem, Nat.reduceAdd, Nat.reduceSub, Nat.reduceMul, Nat.reduceLT, Nat.reduceLeDiff, Nat.reduceEqDiff, Nat.succ_ne_zero, reduceIte]
  refine CallK.mk _ (by simpa only [go_sem] using szRowS_spec d.rows _ (by omega)) fun _ => ?_
  simp only [go_sem, Nat.reduceAdd, Nat.reduceSub, Nat.reduceMul, Nat.reduceLT, Nat.reduceLeDiff, Nat.reduceEqDiff, Nat.succ_ne_zero, reduceIte]
  refine cndC.mk (fun h => ?_) (fun h => ?_)
  · have h0 : szS szRow d.rows (l) < 0 := by simpa using h
    simp only [go_sem, Nat.reduceAdd, Nat.reduceSub, Nat.reduceMul, Nat.reduceLT, Nat.reduceLeDiff, Nat.reduceEqDiff, Nat.succ_ne_zero, reduceIte]
    simp [sq, h0]
  · have h0 : ¬ szS szRow d.rows (l) < 0 := by simpa using h
    simp only [go_sem, Nat.reduceAdd, Nat.reduceSub, Nat.reduceMul, Nat.reduceLT, Nat.reduceLeDiff, Nat.reduceEqDiff, Nat.succ_ne_zero, reduceIte]
    refine CallK.mk _ (by simpa only [go_sem] using szVal_spec d.v _ (by omega)) fun _ => ?_
    simp only [go_sem, Nat.reduceAdd, Nat.reduceSub, Nat.reduceMul, Nat.reduceLT, Nat.reduceLeDiff, Nat.reduceEqDiff, Nat.succ_ne_zero, reduceIte]
    refine cndC.mk (fun h => ?_) (fun h => ?_)
    · have h1 : szVal d.v (szS szRow d.rows (l)) < 0 := by simpa using h
      simp only [go_sem, Nat.reduceAdd, Nat.reduceSub, Nat.reduceMul, Nat.reduceLT, Nat.reduceLeDiff, Nat.reduceEqDiff, Nat.succ_ne_zero, reduceIte]
      simp [sq, h0, h1]
    · have h1 : ¬ szVal d.v (szS szRow d.rows (l)) < 0 := by simpa using h
      simp only [go_sem, Nat.reduceAdd, Nat.reduceSub, Nat.reduceMul, Nat.reduceLT, Nat.reduceLeDiff, Nat.reduceEqDiff, Nat.succ_ne_zero, reduceIte]
      simp [sq, h0, h1]
theorem szDeed_spec (d : DDeed) (l : Int) (hl : 0 ≤ l) : Ctr Tryz.prog 7 [.agg d.c, .c (.v (.int .i64 l))] [.val (.c (.v (.int .i64 (szDeed d l))))] := by
  refine Ctr.mk (fn := Tryz.f7) Tryz.call7 Tryz.func7 rfl mixed Tryz.ntmps7 Tryz.results7 (by kernel_rfl) rfl fun hw => ?_
  rw [szDeed_eq]
  simp only [go_sem, Nat.reduceAdd, Nat.reduceSub, Nat.reduceMul, Nat.reduceLT, Nat.reduceLeDiff, Nat.reduceEqDiff, Nat.succ_ne_zero, reduceIte]
  refine CallK.mk _ (by simpa only [go_sem] using szValS_spec d.r _ (by omega)) fun _ => ?_
  simp only [go_sem, Nat.reduceAdd, Nat.reduceSub, Nat.reduceMul, Nat.reduceLT, Nat.reduceLeDiff, Nat.reduceEqDiff, Nat.succ_ne_zero, reduceIte]
  refine cndC.mk (fun h => ?_) (fun h => ?_)
  · have h0 : szS szVal d.r (l) < 0 := by simpa using h
    simp only [go_sem, Nat.reduceAdd, Nat.reduceSub, Nat.reduceMul, Nat.reduceLT, Nat.reduceLeDiff, Nat.reduceEqDiff, Nat.succ_ne_zero, reduceIte]
    simp [sq, h0]
  · have h0 : ¬ szS szVal d.r (l) < 0 := by simpa using h
    simp only [go_sem, Nat.reduceAdd, Nat.reduceSub, Nat.reduceMul, Nat.reduceLT, Nat.reduceLeDiff, Nat.reduceEqDiff, Nat.succ_ne_zero, reduceIte]
    refine CallK.mk _ (by simpa only [go_sem] using szQuery_spec d.q _ (by omega)) fun _ => ?_
    simp only [go_sem, Nat.reduceAdd, Nat.reduceSub, Nat.reduceMul, Nat.reduceLT, Nat.reduceLeDiff, Nat.reduceEqDiff, Nat.succ_ne_zero, reduceIte]
    refine cndC.mk (fun h => ?_) (fun h => ?_)
    · have h1 : szQuery d.q (szS szVal d.r (l)) < 0 := by simpa using h
      simp only [go_sem, Nat.reduceAdd, Nat.reduceSub, Nat.reduceMul, Nat.reduceLT, Nat.reduceLeDiff, Nat.reduceEqDiff, Nat.succ_ne_zero, reduceIte]
      simp [sq, h0, h1]
    · have h1 : ¬ szQuery d.q (szS szVal d.r (l)) < 0 := by simpa using h
      simp only [go_sem, Nat.reduceAdd, Nat.reduceSub, Nat.reduceMul, Nat.reduceLT, Nat.reduceLeDiff, Nat.reduceEqDiff, Nat.succ_ne_zero, reduceIte]
      refine CallK.mk _ (by simpa only [go_sem] using szResult_spec d.res _ (by omega)) fun _ => ?_
      simp only [go_sem, Nat.reduceAdd, Nat.reduceSub, Nat.reduceMul, Nat.reduceLT, Nat.reduceLeDiff, Nat.reduceEqDiff, Nat.succ_ne_zero, reduceIte]
      refine cndC.mk (fun h => ?_) (fun h => ?_)
      · have h2 : szResult d.res (szQuery d.q (szS szVal d.r (l))) < 0 := by simpa using h
        simp only [go_sem, Nat.reduceAdd, Nat.reduceSub, Nat.reduceMul, Nat.reduceLT, Nat.reduceLeDiff, Nat.reduceEqDiff, Nat.succ_ne_zero, reduceIte]
        simp [sq, h0, h1, h2]
      · have h2 : ¬ szResult d.res (szQuery d.q (szS szVal d.r (l))) < 0 := by simpa using h
        simp only [go_sem, Nat.reduceAdd, Nat.reduceSub, Nat.reduceMul, Nat.reduceLT, Nat.reduceLeDiff, Nat.reduceEqDiff, Nat.succ_ne_zero, reduceIte]
        simp [sq, h0, h1, h2]
theorem szDeedS_of (xs : List DDeed) (hx : ∀ x ∈ xs, ∀ l, 0 ≤ l → Ctr Tryz.prog 7 [.agg x.c, .c (.v (.int .i64 l))] [.val (.c (.v (.int .i64 (szDeed x l))))]) (l : Int) (hl : 0 ≤ l) : Ctr Tryz.prog 17 [.c (.sl (xs.map DDeed.c)), .c (.v (.int .i64 l))] [.val (.c (.v (.int .i64 (szS szDeed xs l))))] := by
  refine Ctr.mk (fn := Tryz.f17) Tryz.call17 Tryz.func17 rfl mixed Tryz.ntmps17 Tryz.results17 (by kernel_rfl) rfl fun hw => ?_
  have hlen : xs.length ≤ 9223372036854775807 := by have := hw.1.1; simpa [Go.maxLen] using this
  have hl2 : l ≤ 9223372036854775807 := i64_le hw.2.1
  simp only [go_sem, Nat.reduceAdd, Nat.reduceSub, Nat.reduceMul, Nat.reduceLT, Nat.reduceLeDiff, Nat.reduceEqDiff, Nat.succ_ne_zero, reduceIte, List.length_map, wrap_i64 (n := l - xs.length) (by omega) (by omega)]
  refine cndC.mk (fun h => ?_) (fun h => ?_)
  · have h' : l - xs.length < 0 := by simpa using h
    simp only [go_sem, Nat.reduceAdd, Nat.reduceSub, Nat.reduceMul, Nat.reduceLT, Nat.reduceLeDiff, Nat.reduceEqDiff, Nat.succ_ne_zero, reduceIte]
    simp [szS, sq, szI, h']
  · have h' : ¬ l - xs.length < 0 := by simpa using h
    simp only [go_sem, Nat.reduceAdd, Nat.reduceSub, Nat.reduceMul, Nat.reduceLT, Nat.reduceLeDiff, Nat.reduceEqDiff, Nat.succ_ne_zero, reduceIte]
    refine LoopK.mk 0 [0, 1, 5] (A := Nat × Int) (fun x => ⟨27, [(0, .c (.sl (xs.map DDeed.c))), (1, .c (.v (.int .i64 x.2))), (5, .c (.v (.int .i64 x.1)))], []⟩) (fun x => x.1 ≤ xs.length ∧ 0 ≤ x.2 ∧ szL szDeed (xs.drop x.1) x.2 = szS szDeed xs l) (fun x => xs.length - x.1)
      (0, l - xs.length) ⟨⟨rfl, rfl⟩, rfl, Nat.zero_le _, by simp only; omega, by simp [szS, sq, szI, h']⟩ ?_
    rintro ⟨k, m⟩ ⟨hk, hm0, hm⟩
    simp only at hk hm hm0
    simp only [go_sem, Nat.reduceAdd, Nat.reduceSub, Nat.reduceMul, Nat.reduceLT, Nat.reduceLeDiff, Nat.reduceEqDiff, Nat.succ_ne_zero, reduceIte, List.length_map]
    refine cndC.mk (fun h => ?_) (fun h => ?_)
    · have hk' : k < xs.length := by simpa using h
      simp only [go_sem, Nat.reduceAdd, Nat.reduceSub, Nat.reduceMul, Nat.reduceLT, Nat.reduceLeDiff, Nat.reduceEqDiff, Nat.succ_ne_zero, reduceIte, map_at _ hk']
      refine CallK.mk _ (by simpa only [go_sem] using hx xs[k] (List.getElem_mem hk') m hm0) fun _ => ?_
      simp only [go_sem, Nat.reduceAdd, Nat.reduceSub, Nat.reduceMul, Nat.reduceLT, Nat.reduceLeDiff, Nat.reduceEqDiff, Nat.succ_ne_zero, reduceIte]
      rw [List.drop_eq_getElem_cons hk'] at hm
      simp only [szL] at hm
      refine cndC.mk (fun h => ?_) (fun h => ?_)
      · have h' : szDeed xs[k] m < 0 := by simpa using h
        simp only [go_sem, Nat.reduceAdd, Nat.reduceSub, Nat.reduceMul, Nat.reduceLT, Nat.reduceLeDiff, Nat.reduceEqDiff, Nat.succ_ne_zero, reduceIte]
        rw [sq_neg h'] at hm
        rw [hm]
      · have h' : ¬ szDeed xs[k] m < 0 := by simpa using h
        rw [sq_pos h'] at hm
        simp only [go_sem, Nat.reduceAdd, Nat.reduceSub, Nat.reduceMul, Nat.reduceLT, Nat.reduceLeDiff, Nat.reduceEqDiff, Nat.succ_ne_zero, reduceIte, wrap_i64 (n := (k : Int) + 1) (by omega) (by omega)]
        exact ⟨(k + 1, szDeed xs[k] m), ⟨rfl, rfl⟩, rfl, ⟨by simp only; omega, (by omega : (0 : Int) ≤ szDeed xs[k] m), hm⟩, by simp only; omega⟩
    · have hk' : k = xs.length := by simp at h; omega
      subst hk'
      simp only [go_sem, Nat.reduceAdd, Nat.reduceSub, Nat.reduceMul, Nat.reduceLT, Nat.reduceLeDiff, Nat.reduceEqDiff, Nat.succ_ne_zero, reduceIte]
      simp [szL] at hm
      rw [hm]
theorem szDeedS_spec (xs : List DDeed) (l : Int) (hl : 0 ≤ l) : Ctr Tryz.prog 17 [.c (.sl (xs.map DDeed.c)), .c (.v (.int .i64 l))] [.val (.c (.v (.int .i64 (szS szDeed xs l))))] := szDeedS_of xs (fun x _ l hl => szDeed_spec x l hl) l hl
theorem toIntS_own (xs : List Int) (hf : xs.length ≤ 1048576) : Ctr Tryz.prog 40 [.c (.sl (xs.map intC))] [.own 3 1 (xs.map intC) true] := by
  refine Ctr.mk (fn := Tryz.f40) Tryz.call40 Tryz.func40 rfl mixed Tryz.ntmps40 Tryz.results40 (by kernel_rfl) rfl fun _ => ?_
  have hc : (0 : Int) ≤ xs.length ∧ (xs.length : Int) ≤ xs.length ∧ (xs.length : Int) ≤ 2147483648 := by omega
  simp only [go_sem, Nat.reduceAdd, Nat.reduceSub, Nat.reduceMul, Nat.reduceLT, Nat.reduceLeDiff, Nat.reduceEqDiff, Nat.succ_ne_zero, reduceIte, List.length_map, hc, List.length_replicate]
  have hg := fun k => @trim1_grow _ intC intC.pure [.v (.int .i64 0)] rfl xs k 3 1 true true
  refine LoopK.mk 1 [0, 3, 4] (A := Nat) (fun k => ⟨22, [(0, .c (.sl (xs.map intC))), (3, .c (.ref 0)), (4, .c (.v (.int .i64 k)))], [⟨3, 1, grow (xs.map intC) [.v (.int .i64 0)] k, true, true⟩]⟩) (fun k => k ≤ xs.length) (fun k => xs.length - k) 0 ⟨⟨rfl, by have := hg 0; simp only [grow_zero, List.length_map] at this; exact this⟩, by simp only [grow_zero, List.length_map]; rfl, Nat.zero_le _⟩ ?_
  intro k hk
  simp only [go_sem, Nat.reduceAdd, Nat.reduceSub, Nat.reduceMul, Nat.reduceLT, Nat.reduceLeDiff, Nat.reduceEqDiff, Nat.succ_ne_zero, reduceIte, List.length_map]
  refine cndC.mk (fun h => ?_) (fun h => ?_)
  · have hk' : k < xs.length := by simpa using h
    have hset := @grow_setm _ intC xs [.v (.int .i64 0)] k hk'
    simp only [go_sem] at hset
    simp only [go_sem, Nat.reduceAdd, Nat.reduceSub, Nat.reduceMul, Nat.reduceLT, Nat.reduceLeDiff, Nat.reduceEqDiff, Nat.succ_ne_zero, reduceIte, map_at _ hk', grow_lenm hk, grow_atm hk', hk', hset, wrap_i64 (n := (k : Int) + 1) (by omega) (by omega)]
    exact ⟨k + 1, ⟨rfl, hg _⟩, rfl, by omega, by first | omega | (simp only; omega)⟩
  · have hk' : k = xs.length := by simp at h; omega
    subst hk'
    rw [grow_allm]
    simp only [go_sem, Nat.reduceAdd, Nat.reduceSub, Nat.reduceMul, Nat.reduceLT, Nat.reduceLeDiff, Nat.reduceEqDiff, Nat.succ_ne_zero, reduceIte]
    simp [nrE_of_pure (pureE_map intC.pure)]
theorem toByteS_own (xs : List Int) (hf : xs.length ≤ 1048576) : Ctr Tryz.prog 169 [.c (.sl (xs.map byteC))] [.own 5 1 (xs.map byteC) true] := by
  refine Ctr.mk (fn := Tryz.f169) Tryz.call169 Tryz.func169 rfl mixed Tryz.ntmps169 Tryz.results169 (by kernel_rfl) rfl fun _ => ?_
  have hc : (0 : Int) ≤ xs.length ∧ (xs.length : Int) ≤ xs.length ∧ (xs.length : Int) ≤ 2147483648 := by omega
  simp only [go_sem, Nat.reduceAdd, Nat.reduceSub, Nat.reduceMul, Nat.reduceLT, Nat.reduceLeDiff, Nat.reduceEqDiff, Nat.succ_ne_zero, reduceIte, List.length_map, hc, List.length_replicate]
  have hg := fun k => @trim1_grow _ byteC byteC.pure [.v (.int .u8 0)] rfl xs k 5 1 true true
  refine LoopK.mk 1 [0, 3, 4] (A := Nat) (fun k => ⟨22, [(0, .c (.sl (xs.map byteC))), (3, .c (.ref 0)), (4, .c (.v (.int .i64 k)))], [⟨5, 1, grow (xs.map byteC) [.v (.int .u8 0)] k, true, true⟩]⟩) (fun k => k ≤ xs.length) (fun k => xs.length - k) 0 ⟨⟨rfl, by have := hg 0; simp only [grow_zero, List.length_map] at this; exact this⟩, by simp only [grow_zero, List.length_map]; rfl, Nat.zero_le _⟩ ?_
  intro k hk
  simp only [go_sem, Nat.reduceAdd, Nat.reduceSub, Nat.reduceMul, Nat.reduceLT, Nat.reduceLeDiff, Nat.reduceEqDiff, Nat.succ_ne_zero, reduceIte, List.length_map]
  refine cndC.mk (fun h => ?_) (fun h => ?_)
  · have hk' : k < xs.length := by simpa using h
    have hset := @grow_setm _ byteC xs [.v (.int .u8 0)] k hk'
    simp only [go_sem] at hset
    simp only [go_sem, Nat.reduceAdd, Nat.reduceSub, Nat.reduceMul, Nat.reduceLT, Nat.reduceLeDiff, Nat.reduceEqDiff, Nat.succ_ne_zero, reduceIte, map_at _ hk', grow_lenm hk, grow_atm hk', hk', hset, wrap_i64 (n := (k : Int) + 1) (by omega) (by omega)]
    exact ⟨k + 1, ⟨rfl, hg _⟩, rfl, by omega, by first | omega | (simp only; omega)⟩
  · have hk' : k = xs.length := by simp at h; omega
    subst hk'
    rw [grow_allm]
    simp only [go_sem, Nat.reduceAdd, Nat.reduceSub, Nat.reduceMul, Nat.reduceLT, Nat.reduceLeDiff, Nat.reduceEqDiff, Nat.succ_ne_zero, reduceIte]
    simp [nrE_of_pure (pureE_map byteC.pure)]
theorem toIntS_spec (xs : List Int) (hf : xs.length ≤ 1048576) : Ctr Tryz.prog 40 [.c (.sl (xs.map intC))] [.val (.c (.sl (xs.map intC)))] := (toIntS_own xs hf).val (pureE_map intC.pure)
theorem toByteS_spec (xs : List Int) (hf : xs.length ≤ 1048576) : Ctr Tryz.prog 169 [.c (.sl (xs.map byteC))] [.val (.c (.sl (xs.map byteC)))] := (toByteS_own xs hf).val (pureE_map byteC.pure)
theorem toVal_spec (d : DVal) (hf : fitVal d) : Ctr Tryz.prog 106 [.agg d.c] [.val (.agg d.c)] := by
  rw [fitVal_eq] at hf
  have f0 := hf
  refine Ctr.mk (fn := Tryz.f106) Tryz.call106 Tryz.func106 rfl mixed Tryz.ntmps106 Tryz.results106 (by kernel_rfl) rfl fun _ => ?_
  simp only [go_sem, Nat.reduceAdd, Nat.reduceSub, Nat.reduceMul, Nat.reduceLT, Nat.reduceLeDiff, Nat.reduceEqDiff, Nat.succ_ne_zero, reduceIte]
theorem toValS_own (xs : List DVal) (hf : xs.length ≤ 1048576) (hx : ∀ x ∈ xs, Ctr Tryz.prog 106 [.agg x.c] [.val (.agg x.c)]) : Ctr Tryz.prog 42 [.c (.sl (xs.map DVal.c))] [.own 47 3 (xs.map DVal.c) true] := by
  refine Ctr.mk (fn := Tryz.f42) Tryz.call42 Tryz.func42 rfl mixed Tryz.ntmps42 Tryz.results42 (by kernel_rfl) rfl fun _ => ?_
  have hc : (0 : Int) ≤ xs.length ∧ (xs.length : Int) ≤ xs.length ∧ (xs.length : Int) ≤ 2147483648 := by omega
  simp only [go_sem, Nat.reduceAdd, Nat.reduceSub, Nat.reduceMul, Nat.reduceLT, Nat.reduceLeDiff, Nat.reduceEqDiff, Nat.succ_ne_zero, reduceIte, List.length_map, hc, List.length_replicate]
  have hg := fun k => @trim1_grow _ DVal.c DVal.pure [.v (.int .i64 0), .v (.int .i64 0), .v (.string ByteArray.empty)] rfl xs k 47 3 true true
  refine LoopK.mk 1 [0, 3, 4] (A := Nat) (fun k => ⟨23, [(0, .c (.sl (xs.map DVal.c))), (3, .c (.ref 0)), (4, .c (.v (.int .i64 k)))], [⟨47, 3, grow (xs.map DVal.c) [.v (.int .i64 0), .v (.int .i64 0), .v (.string ByteArray.empty)] k, true, true⟩]⟩) (fun k => k ≤ xs.length) (fun k => xs.length - k) 0 ⟨⟨rfl, by have := hg 0; simp only [grow_zero, List.length_map] at this; exact this⟩, by simp only [grow_zero, List.length_map]; rfl, Nat.zero_le _⟩ ?_
  intro k hk
  simp only [go_sem, Nat.reduceAdd, Nat.reduceSub, Nat.reduceMul, Nat.reduceLT, Nat.reduceLeDiff, Nat.reduceEqDiff, Nat.succ_ne_zero, reduceIte, List.length_map]
  refine cndC.mk (fun h => ?_) (fun h => ?_)
  · have hk' : k < xs.length := by simpa using h
    have hset := @grow_setm _ DVal.c xs [.v (.int .i64 0), .v (.int .i64 0), .v (.string ByteArray.empty)] k hk'
    simp only [go_sem] at hset
    simp only [go_sem, Nat.reduceAdd, Nat.reduceSub, Nat.reduceMul, Nat.reduceLT, Nat.reduceLeDiff, Nat.reduceEqDiff, Nat.succ_ne_zero, reduceIte, map_at _ hk', grow_lenm hk, grow_atm hk', hk', hset, wrap_i64 (n := (k : Int) + 1) (by omega) (by omega)]
    refine CallK.mk _ (by simpa only [go_sem] using hx xs[k] (List.getElem_mem hk')) fun _ => ?_
    simp only [go_sem, Nat.reduceAdd, Nat.reduceSub, Nat.reduceMul, Nat.reduceLT, Nat.reduceLeDiff, Nat.reduceEqDiff, Nat.succ_ne_zero, reduceIte, map_at _ hk', grow_lenm hk, grow_atm hk', hk', hset, wrap_i64 (n := (k : Int) + 1) (by omega) (by omega)]
    exact ⟨k + 1, ⟨rfl, hg _⟩, rfl, by omega, by first | omega | (simp only; omega)⟩
  · have hk' : k = xs.length := by simp at h; omega
    subst hk'
    rw [grow_allm]
    simp only [go_sem, Nat.reduceAdd, Nat.reduceSub, Nat.reduceMul, Nat.reduceLT, Nat.reduceLeDiff, Nat.reduceEqDiff, Nat.succ_ne_zero, reduceIte]
    simp [nrE_of_pure (pureE_map DVal.pure)]
theorem toValS_spec (xs : List DVal) (hf : fitS fitVal xs) : Ctr Tryz.prog 42 [.c (.sl (xs.map DVal.c))] [.val (.c (.sl (xs.map DVal.c)))] := (toValS_own xs hf.1 fun x hx => toVal_spec x (hf.2 x hx)).val (pureE_map DVal.pure)
theorem toRow_spec (d : DRow) (hf : fitRow d) : Ctr Tryz.prog 105 [.agg d.c] [.val (.agg d.c)] := by
  rw [fitRow_eq] at hf
  have f0 := hf
  refine Ctr.mk (fn := Tryz.f105) Tryz.call105 Tryz.func105 rfl mixed Tryz.ntmps105 Tryz.results105 (by kernel_rfl) rfl fun _ => ?_
  simp only [go_sem, Nat.reduceAdd, Nat.reduceSub, Nat.reduceMul, Nat.reduceLT, Nat.reduceLeDiff, Nat.reduceEqDiff, Nat.succ_ne_zero, reduceIte]
  refine CallK.mk _ (by simpa only [go_sem] using toValS_spec d.l f0) fun _ => ?_
  simp only [go_sem, Nat.reduceAdd, Nat.reduceSub, Nat.reduceMul, Nat.reduceLT, Nat.reduceLeDiff, Nat.reduceEqDiff, Nat.succ_ne_zero, reduceIte]
theorem toRowS_own (xs : List DRow) (hf : xs.length ≤ 1048576) (hx : ∀ x ∈ xs, Ctr Tryz.prog 105 [.agg x.c] [.val (.agg x.c)]) : Ctr Tryz.prog 41 [.c (.sl (xs.map DRow.c))] [.own 113 2 (xs.map DRow.c) true] := by
  refine Ctr.mk (fn := Tryz.f41) Tryz.call41 Tryz.func41 rfl mixed Tryz.ntmps41 Tryz.results41 (by kernel_rfl) rfl fun _ => ?_
  have hc : (0 : Int) ≤ xs.length ∧ (xs.length : Int) ≤ xs.length ∧ (xs.length : Int) ≤ 2147483648 := by omega
  simp only [go_sem, Nat.reduceAdd, Nat.reduceSub, Nat.reduceMul, Nat.reduceLT, Nat.reduceLeDiff, Nat.reduceEqDiff, Nat.succ_ne_zero, reduceIte, List.length_map, hc, List.length_replicate]
  have hg := fun k => @trim1_grow _ DRow.c DRow.pure [.v (.int .i64 0), .v (.slice none 0 0)] rfl xs k 113 2 true true
  refine LoopK.mk 1 [0, 3, 4] (A := Nat) (fun k => ⟨23, [(0, .c (.sl (xs.map DRow.c))), (3, .c (.ref 0)), (4, .c (.v (.int .i64 k)))], [⟨113, 2, grow (xs.map DRow.c) [.v (.int .i64 0), .v (.slice none 0 0)] k, true, true⟩]⟩) (fun k => k ≤ xs.length) (fun k => xs.length - k) 0 ⟨⟨rfl, by have := hg 0; simp only [grow_zero, List.length_map] at this; exact this⟩, by simp only [grow_zero, List.length_map]; rfl, Nat.zero_le _⟩ ?_
  intro k hk
  simp only [go_sem, Nat.reduceAdd, Nat.reduceSub, Nat.reduceMul, Nat.reduceLT, Nat.reduceLeDiff, Nat.reduceEqDiff, Nat.succ_ne_zero, reduceIte, List.length_map]
  refine cndC.mk (fun h => ?_) (fun h => ?_)
  · have hk' : k < xs.length := by simpa using h
    have hset := @grow_setm _ DRow.c xs [.v (.int .i64 0), .v (.slice none 0 0)] k hk'
    simp only [go_sem] at hset
    simp only [go_sem, Nat.reduceAdd, Nat.reduceSub, Nat.reduceMul, Nat.reduceLT, Nat.reduceLeDiff, Nat.reduceEqDiff, Nat.succ_ne_zero, reduceIte, map_at _ hk', grow_lenm hk, grow_atm hk', hk', hset, wrap_i64 (n := (k : Int) + 1) (by omega) (by omega)]
    refine CallK.mk _ (by simpa only [go_sem] using hx xs[k] (List.getElem_mem hk')) fun _ => ?_
    simp only [go_sem, Nat.reduceAdd, Nat.reduceSub, Nat.reduceMul, Nat.reduceLT, Nat.reduceLeDiff, Nat.reduceEqDiff, Nat.succ_ne_zero, reduceIte, map_at _ hk', grow_lenm hk, grow_atm hk', hk', hset, wrap_i64 (n := (k : Int) + 1) (by omega) (by omega)]
    exact ⟨k + 1, ⟨rfl, hg _⟩, rfl, by omega, by first | omega | (simp only; omega)⟩
  · have hk' : k = xs.length := by simp at h; omega
    subst hk'
    rw [grow_allm]
    simp only [go_sem, Nat.reduceAdd, Nat.reduceSub, Nat.reduceMul, Nat.reduceLT, Nat.reduceLeDiff, Nat.reduceEqDiff, Nat.succ_ne_zero, reduceIte]
    simp [nrE_of_pure (pureE_map DRow.pure)]
theorem toRowS_spec (xs : List DRow) (hf : fitS fitRow xs) : Ctr Tryz.prog 41 [.c (.sl (xs.map DRow.c))] [.val (.c (.sl (xs.map DRow.c)))] := (toRowS_own xs hf.1 fun x hx => toRow_spec x (hf.2 x hx)).val (pureE_map DRow.pure)
theorem toTable_spec (d : DTable) (hf : fitTable d) : Ctr Tryz.prog 9 [.agg d.c] [.val (.agg d.c)] := by
  rw [fitTable_eq] at hf
  obtain ⟨f0, f1⟩ := hf
  refine Ctr.mk (fn := Tryz.f9) Tryz.call9 Tryz.func9 rfl mixed Tryz.ntmps9 Tryz.results9 (by kernel_rfl) rfl fun _ => ?_
  simp only [go_sem, Nat.reduceAdd, Nat.reduceSub, Nat.reduceMul, Nat.reduceLT, Nat.reduceLeDiff, Nat.reduceEqDiff, Nat.succ_ne_zero, reduceIte]
  refine CallK.mk _ (by simpa only [go_sem] using toIntS_spec d.cols f0) fun _ => ?_
  simp only [go_sem, Nat.reduceAdd, Nat.reduceSub, Nat.reduceMul, Nat.reduceLT, Nat.reduceLeDiff, Nat.reduceEqDiff, Nat.succ_ne_zero, reduceIte]
  refine CallK.mk _ (by simpa only [go_sem] using toRowS_spec d.l f1) fun _ => ?_
  simp only [go_sem, Nat.reduceAdd, Nat.reduceSub, Nat.reduceMul, Nat.reduceLT, Nat.reduceLeDiff, Nat.reduceEqDiff, Nat.succ_ne_zero, reduceIte]
theorem toPredS_own (xs : List DPred) (hf : xs.length ≤ 1048576) (hx : ∀ x ∈ xs, Ctr Tryz.prog 107 [.agg x.c] [.val (.agg x.c)]) : Ctr Tryz.prog 155 [.c (.sl (xs.map DPred.c))] [.own 50 7 (xs.map DPred.c) true] := by
  refine Ctr.mk (fn := Tryz.f155) Tryz.call155 Tryz.func155 rfl mixed Tryz.ntmps155 Tryz.results155 (by kernel_rfl) rfl fun _ => ?_
  have hc : (0 : Int) ≤ xs.length ∧ (xs.length : Int) ≤ xs.length ∧ (xs.length : Int) ≤ 2147483648 := by omega
  simp only [go_sem, Nat.reduceAdd, Nat.reduceSub, Nat.reduceMul, Nat.reduceLT, Nat.reduceLeDiff, Nat.reduceEqDiff, Nat.succ_ne_zero, reduceIte, List.length_map, hc, List.length_replicate]
  have hg := fun k => @trim1_grow _ DPred.c DPred.pure [.v (.int .i64 0), .v (.int .i64 0), .v (.int .i64 0), .v (.int .i64 0), .v (.int .i64 0), .v (.string ByteArray.empty), .v (.slice none 0 0)] rfl xs k 50 7 true true
  refine LoopK.mk 1 [0, 3, 4] (A := Nat) (fun k => ⟨23, [(0, .c (.sl (xs.map DPred.c))), (3, .c (.ref 0)), (4, .c (.v (.int .i64 k)))], [⟨50, 7, grow (xs.map DPred.c) [.v (.int .i64 0), .v (.int .i64 0), .v (.int .i64 0), .v (.int .i64 0), .v (.int .i64 0), .v (.string ByteArray.empty), .v (.slice none 0 0)] k, true, true⟩]⟩) (fun k => k ≤ xs.length) (fun k => xs.length - k) 0 ⟨⟨rfl, by have := hg 0; simp only [grow_zero, List.length_map] at this; exact this⟩, by simp only [grow_zero, List.length_map]; rfl, Nat.zero_le _⟩ ?_
  intro k hk
  simp only [go_sem, Nat.reduceAdd, Nat.reduceSub, Nat.reduceMul, Nat.reduceLT, Nat.reduceLeDiff, Nat.reduceEqDiff, Nat.succ_ne_zero, reduceIte, List.length_map]
  refine cndC.mk (fun h => ?_) (fun h => ?_)
  · have hk' : k < xs.length := by simpa using h
    have hset := @grow_setm _ DPred.c xs [.v (.int .i64 0), .v (.int .i64 0), .v (.int .i64 0), .v (.int .i64 0), .v (.int .i64 0), .v (.string ByteArray.empty), .v (.slice none 0 0)] k hk'
    simp only [go_sem] at hset
    simp only [go_sem, Nat.reduceAdd, Nat.reduceSub, Nat.reduceMul, Nat.reduceLT, Nat.reduceLeDiff, Nat.reduceEqDiff, Nat.succ_ne_zero, reduceIte, map_at _ hk', grow_lenm hk, grow_atm hk', hk', hset, wrap_i64 (n := (k : Int) + 1) (by omega) (by omega)]
    refine CallK.mk _ (by simpa only [go_sem] using hx xs[k] (List.getElem_mem hk')) fun _ => ?_
    simp only [go_sem, Nat.reduceAdd, Nat.reduceSub, Nat.reduceMul, Nat.reduceLT, Nat.reduceLeDiff, Nat.reduceEqDiff, Nat.succ_ne_zero, reduceIte, map_at _ hk', grow_lenm hk, grow_atm hk', hk', hset, wrap_i64 (n := (k : Int) + 1) (by omega) (by omega)]
    exact ⟨k + 1, ⟨rfl, hg _⟩, rfl, by omega, by first | omega | (simp only; omega)⟩
  · have hk' : k = xs.length := by simp at h; omega
    subst hk'
    rw [grow_allm]
    simp only [go_sem, Nat.reduceAdd, Nat.reduceSub, Nat.reduceMul, Nat.reduceLT, Nat.reduceLeDiff, Nat.reduceEqDiff, Nat.succ_ne_zero, reduceIte]
    simp [nrE_of_pure (pureE_map DPred.pure)]
theorem toPred_of (d : DPred) (hf : fitPred d) (hx : ∀ x ∈ d.l, Ctr Tryz.prog 107 [.agg x.c] [.val (.agg x.c)]) : Ctr Tryz.prog 107 [.agg d.c] [.val (.agg d.c)] := by
  rw [fitPred_eq] at hf
  obtain ⟨f0, f1⟩ := hf
  refine Ctr.mk (fn := Tryz.f107) Tryz.call107 Tryz.func107 rfl mixed Tryz.ntmps107 Tryz.results107 (by kernel_rfl) rfl fun _ => ?_
  simp only [go_sem, Nat.reduceAdd, Nat.reduceSub, Nat.reduceMul, Nat.reduceLT, Nat.reduceLeDiff, Nat.reduceEqDiff, Nat.succ_ne_zero, reduceIte]
  refine CallK.mk _ (by simpa only [go_sem] using toVal_spec d.v f0) fun _ => ?_
  simp only [go_sem, Nat.reduceAdd, Nat.reduceSub, Nat.reduceMul, Nat.reduceLT, Nat.reduceLeDiff, Nat.reduceEqDiff, Nat.succ_ne_zero, reduceIte]
  refine CallK.mk _ (by simpa only [go_sem] using (toPredS_own d.l f1.1 hx).val (pureE_map DPred.pure)) fun _ => ?_
  simp only [go_sem, Nat.reduceAdd, Nat.reduceSub, Nat.reduceMul, Nat.reduceLT, Nat.reduceLeDiff, Nat.reduceEqDiff, Nat.succ_ne_zero, reduceIte]
theorem toPred_fuel : ∀ (n : Nat) (d : DPred), SizeOf.sizeOf d ≤ n → fitPred d → Ctr Tryz.prog 107 [.agg d.c] [.val (.agg d.c)]
  | 0, d, h, _ => by cases d; simp at h
  | n + 1, d, h, hf => toPred_of d hf fun x hx => toPred_fuel n x (by
    have h1 : SizeOf.sizeOf x < SizeOf.sizeOf d.l := List.sizeOf_lt_of_mem hx
    have h2 : SizeOf.sizeOf d.l < SizeOf.sizeOf d := by cases d; simp [DPred.l]; omega
    omega) (by rw [fitPred_eq] at hf; exact (hf.2).2 x hx)
theorem toPred_spec (d : DPred) (hf : fitPred d) : Ctr Tryz.prog 107 [.agg d.c] [.val (.agg d.c)] := toPred_fuel _ d (Nat.le_refl _) hf
theorem toPredS_spec (xs : List DPred) (hf : fitS fitPred xs) : Ctr Tryz.prog 155 [.c (.sl (xs.map DPred.c))] [.val (.c (.sl (xs.map DPred.c)))] := (toPredS_own xs hf.1 fun x hx => toPred_spec x (hf.2 x hx)).val (pureE_map DPred.pure)
theorem toQuery_spec (d : DQuery) (hf : fitQuery d) : Ctr Tryz.prog 43 [.agg d.c] [.val (.agg d.c)] := by
  rw [fitQuery_eq] at hf
  obtain ⟨f0, f1⟩ := hf
  refine Ctr.mk (fn := Tryz.f43) Tryz.call43 Tryz.func43 rfl mixed Tryz.ntmps43 Tryz.results43 (by kernel_rfl) rfl fun _ => ?_
  simp only [go_sem, Nat.reduceAdd, Nat.reduceSub, Nat.reduceMul, Nat.reduceLT, Nat.reduceLeDiff, Nat.reduceEqDiff, Nat.succ_ne_zero, reduceIte]
  refine CallK.mk _ (by simpa only [go_sem] using toPred_spec d.p f0) fun _ => ?_
  simp only [go_sem, Nat.reduceAdd, Nat.reduceSub, Nat.reduceMul, Nat.reduceLT, Nat.reduceLeDiff, Nat.reduceEqDiff, Nat.succ_ne_zero, reduceIte]
  refine CallK.mk _ (by simpa only [go_sem] using toIntS_spec d.out f1) fun _ => ?_
  simp only [go_sem, Nat.reduceAdd, Nat.reduceSub, Nat.reduceMul, Nat.reduceLT, Nat.reduceLeDiff, Nat.reduceEqDiff, Nat.succ_ne_zero, reduceIte]
theorem toResult_spec (d : DResult) (hf : fitResult d) : Ctr Tryz.prog 44 [.agg d.c] [.val (.agg d.c)] := by
  rw [fitResult_eq] at hf
  obtain ⟨f0, f1⟩ := hf
  refine Ctr.mk (fn := Tryz.f44) Tryz.call44 Tryz.func44 rfl mixed Tryz.ntmps44 Tryz.results44 (by kernel_rfl) rfl fun _ => ?_
  simp only [go_sem, Nat.reduceAdd, Nat.reduceSub, Nat.reduceMul, Nat.reduceLT, Nat.reduceLeDiff, Nat.reduceEqDiff, Nat.succ_ne_zero, reduceIte]
  refine CallK.mk _ (by simpa only [go_sem] using toRowS_spec d.rows f0) fun _ => ?_
  simp only [go_sem, Nat.reduceAdd, Nat.reduceSub, Nat.reduceMul, Nat.reduceLT, Nat.reduceLeDiff, Nat.reduceEqDiff, Nat.succ_ne_zero, reduceIte]
  refine CallK.mk _ (by simpa only [go_sem] using toVal_spec d.v f1) fun _ => ?_
  simp only [go_sem, Nat.reduceAdd, Nat.reduceSub, Nat.reduceMul, Nat.reduceLT, Nat.reduceLeDiff, Nat.reduceEqDiff, Nat.succ_ne_zero, reduceIte]
theorem toDeed_spec (d : DDeed) (hf : fitDeed d) : Ctr Tryz.prog 10 [.agg d.c] [.val (.agg d.c)] := by
  rw [fitDeed_eq] at hf
  obtain ⟨f0, f1, f2⟩ := hf
  refine Ctr.mk (fn := Tryz.f10) Tryz.call10 Tryz.func10 rfl mixed Tryz.ntmps10 Tryz.results10 (by kernel_rfl) rfl fun _ => ?_
  simp only [go_sem, Nat.reduceAdd, Nat.reduceSub, Nat.reduceMul, Nat.reduceLT, Nat.reduceLeDiff, Nat.reduceEqDiff, Nat.succ_ne_zero, reduceIte]
  refine CallK.mk _ (by simpa only [go_sem] using toValS_spec d.r f0) fun _ => ?_
  simp only [go_sem, Nat.reduceAdd, Nat.reduceSub, Nat.reduceMul, Nat.reduceLT, Nat.reduceLeDiff, Nat.reduceEqDiff, Nat.succ_ne_zero, reduceIte]
  refine CallK.mk _ (by simpa only [go_sem] using toQuery_spec d.q f1) fun _ => ?_
  simp only [go_sem, Nat.reduceAdd, Nat.reduceSub, Nat.reduceMul, Nat.reduceLT, Nat.reduceLeDiff, Nat.reduceEqDiff, Nat.succ_ne_zero, reduceIte]
  refine CallK.mk _ (by simpa only [go_sem] using toResult_spec d.res f2) fun _ => ?_
  simp only [go_sem, Nat.reduceAdd, Nat.reduceSub, Nat.reduceMul, Nat.reduceLT, Nat.reduceLeDiff, Nat.reduceEqDiff, Nat.succ_ne_zero, reduceIte]
theorem toDeedS_own (xs : List DDeed) (hf : xs.length ≤ 1048576) (hx : ∀ x ∈ xs, Ctr Tryz.prog 10 [.agg x.c] [.val (.agg x.c)]) : Ctr Tryz.prog 19 [.c (.sl (xs.map DDeed.c))] [.own 56 25 (xs.map DDeed.c) true] := by
  refine Ctr.mk (fn := Tryz.f19) Tryz.call19 Tryz.func19 rfl mixed Tryz.ntmps19 Tryz.results19 (by kernel_rfl) rfl fun _ => ?_
  have hc : (0 : Int) ≤ xs.length ∧ (xs.length : Int) ≤ xs.length ∧ (xs.length : Int) ≤ 2147483648 := by omega
  simp only [go_sem, Nat.reduceAdd, Nat.reduceSub, Nat.reduceMul, Nat.reduceLT, Nat.reduceLeDiff, Nat.reduceEqDiff, Nat.succ_ne_zero, reduceIte, List.length_map, hc, List.length_replicate]
  have hg := fun k => @trim1_grow _ DDeed.c DDeed.pure [.v (.int .i64 0), .v (.int .i64 0), .v (.slice none 0 0), .v (.int .i64 0), .v (.int .i64 0), .v (.int .i64 0), .v (.int .i64 0), .v (.int .i64 0), .v (.int .i64 0), .v (.int .i64 0), .v (.string ByteArray.empty), .v (.slice none 0 0), .v (.int .i64 0), .v (.slice none 0 0), .v (.slice none 0 0), .v (.int .i64 0), .v (.bool false), .v (.int .i64 0), .v (.int .i64 0), .v (.string ByteArray.empty), .v (.int .i64 0), .v (.int .i64 0), .v (.int .i64 0), .v (.int .i64 0), .v (.int .i64 0)] rfl xs k 56 25 true true
  refine LoopK.mk 1 [0, 3, 4] (A := Nat) (fun k => ⟨23, [(0, .c (.sl (xs.map DDeed.c))), (3, .c (.ref 0)), (4, .c (.v (.int .i64 k)))], [⟨56, 25, grow (xs.map DDeed.c) [.v (.int .i64 0), .v (.int .i64 0), .v (.slice none 0 0), .v (.int .i64 0), .v (.int .i64 0), .v (.int .i64 0), .v (.int .i64 0), .v (.int .i64 0), .v (.int .i64 0), .v (.int .i64 0), .v (.string ByteArray.empty), .v (.slice none 0 0), .v (.int .i64 0), .v (.slice none 0 0), .v (.slice none 0 0), .v (.int .i64 0), .v (.bool false), .v (.int .i64 0), .v (.int .i64 0), .v (.string ByteArray.empty), .v (.int .i64 0), .v (.int .i64 0), .v (.int .i64 0), .v (.int .i64 0), .v (.int .i64 0)] k, true, true⟩]⟩) (fun k => k ≤ xs.length) (fun k => xs.length - k) 0 ⟨⟨rfl, by have := hg 0; simp only [grow_zero, List.length_map] at this; exact this⟩, by simp only [grow_zero, List.length_map]; rfl, Nat.zero_le _⟩ ?_
  intro k hk
  simp only [go_sem, Nat.reduceAdd, Nat.reduceSub, Nat.reduceMul, Nat.reduceLT, Nat.reduceLeDiff, Nat.reduceEqDiff, Nat.succ_ne_zero, reduceIte, List.length_map]
  refine cndC.mk (fun h => ?_) (fun h => ?_)
  · have hk' : k < xs.length := by simpa using h
    have hset := @grow_setm _ DDeed.c xs [.v (.int .i64 0), .v (.int .i64 0), .v (.slice none 0 0), .v (.int .i64 0), .v (.int .i64 0), .v (.int .i64 0), .v (.int .i64 0), .v (.int .i64 0), .v (.int .i64 0), .v (.int .i64 0), .v (.string ByteArray.empty), .v (.slice none 0 0), .v (.int .i64 0), .v (.slice none 0 0), .v (.slice none 0 0), .v (.int .i64 0), .v (.bool false), .v (.int .i64 0), .v (.int .i64 0), .v (.string ByteArray.empty), .v (.int .i64 0), .v (.int .i64 0), .v (.int .i64 0), .v (.int .i64 0), .v (.int .i64 0)] k hk'
    simp only [go_sem] at hset
    simp only [go_sem, Nat.reduceAdd, Nat.reduceSub, Nat.reduceMul, Nat.reduceLT, Nat.reduceLeDiff, Nat.reduceEqDiff, Nat.succ_ne_zero, reduceIte, map_at _ hk', grow_lenm hk, grow_atm hk', hk', hset, wrap_i64 (n := (k : Int) + 1) (by omega) (by omega)]
    refine CallK.mk _ (by simpa only [go_sem] using hx xs[k] (List.getElem_mem hk')) fun _ => ?_
    simp only [go_sem, Nat.reduceAdd, Nat.reduceSub, Nat.reduceMul, Nat.reduceLT, Nat.reduceLeDiff, Nat.reduceEqDiff, Nat.succ_ne_zero, reduceIte, map_at _ hk', grow_lenm hk, grow_atm hk', hk', hset, wrap_i64 (n := (k : Int) + 1) (by omega) (by omega)]
    exact ⟨k + 1, ⟨rfl, hg _⟩, rfl, by omega, by first | omega | (simp only; omega)⟩
  · have hk' : k = xs.length := by simp at h; omega
    subst hk'
    rw [grow_allm]
    simp only [go_sem, Nat.reduceAdd, Nat.reduceSub, Nat.reduceMul, Nat.reduceLT, Nat.reduceLeDiff, Nat.reduceEqDiff, Nat.succ_ne_zero, reduceIte]
    simp [nrE_of_pure (pureE_map DDeed.pure)]
theorem toDeedS_spec (xs : List DDeed) (hf : fitS fitDeed xs) : Ctr Tryz.prog 19 [.c (.sl (xs.map DDeed.c))] [.val (.c (.sl (xs.map DDeed.c)))] := (toDeedS_own xs hf.1 fun x hx => toDeed_spec x (hf.2 x hx)).val (pureE_map DDeed.pure)
theorem eqIntS_spec (xs : List Int) : Ctr Tryz.prog 55 [.c (.sl (xs.map intC)), .c (.sl (xs.map intC))] [.val (.c (.v (.bool true)))] := by
  refine Ctr.mk (fn := Tryz.f55) Tryz.call55 Tryz.func55 rfl mixed Tryz.ntmps55 Tryz.results55 (by kernel_rfl) rfl fun hw => ?_
  have hlen : xs.length ≤ 9223372036854775807 := by have := hw.1.1; simpa [Go.maxLen] using this
  simp only [go_sem, Nat.reduceAdd, Nat.reduceSub, Nat.reduceMul, Nat.reduceLT, Nat.reduceLeDiff, Nat.reduceEqDiff, Nat.succ_ne_zero, reduceIte, List.length_map, bne_self_eq_false, beq_self_eq_true]
  refine LoopK.mk 0 [0, 1, 5] (A := Nat) (fun k => ⟨26, [(0, .c (.sl (xs.map intC))), (1, .c (.sl (xs.map intC))), (5, .c (.v (.int .i64 k)))], []⟩) (fun k => k ≤ xs.length) (fun k => xs.length - k) 0 ⟨⟨rfl, rfl⟩, rfl, Nat.zero_le _⟩ ?_
  intro k hk
  simp only [go_sem, Nat.reduceAdd, Nat.reduceSub, Nat.reduceMul, Nat.reduceLT, Nat.reduceLeDiff, Nat.reduceEqDiff, Nat.succ_ne_zero, reduceIte, List.length_map]
  refine cndC.mk (fun h => ?_) (fun h => ?_)
  · have hk' : k < xs.length := by simpa using h
    simp only [go_sem, Nat.reduceAdd, Nat.reduceSub, Nat.reduceMul, Nat.reduceLT, Nat.reduceLeDiff, Nat.reduceEqDiff, Nat.succ_ne_zero, reduceIte]
    refine DrawK.mk ?_
    simp only [go_sem, Nat.reduceAdd, Nat.reduceSub, Nat.reduceMul, Nat.reduceLT, Nat.reduceLeDiff, Nat.reduceEqDiff, Nat.succ_ne_zero, reduceIte, List.length_map, bne_self_eq_false, beq_self_eq_true, map_at _ hk', hk', wrap_i64 (n := (k : Int) + 1) (by omega) (by omega)]
    exact ⟨k + 1, ⟨rfl, rfl⟩, rfl, by omega, by first | omega | (simp only; omega)⟩
  · simp only [go_sem, Nat.reduceAdd, Nat.reduceSub, Nat.reduceMul, Nat.reduceLT, Nat.reduceLeDiff, Nat.reduceEqDiff, Nat.succ_ne_zero, reduceIte]
theorem eqByteS_spec (xs : List Int) : Ctr Tryz.prog 174 [.c (.sl (xs.map byteC)), .c (.sl (xs.map byteC))] [.val (.c (.v (.bool true)))] := by
  refine Ctr.mk (fn := Tryz.f174) Tryz.call174 Tryz.func174 rfl mixed Tryz.ntmps174 Tryz.results174 (by kernel_rfl) rfl fun hw => ?_
  have hlen : xs.length ≤ 9223372036854775807 := by have := hw.1.1; simpa [Go.maxLen] using this
  simp only [go_sem, Nat.reduceAdd, Nat.reduceSub, Nat.reduceMul, Nat.reduceLT, Nat.reduceLeDiff, Nat.reduceEqDiff, Nat.succ_ne_zero, reduceIte, List.length_map, bne_self_eq_false, beq_self_eq_true]
  refine LoopK.mk 0 [0, 1, 5] (A := Nat) (fun k => ⟨26, [(0, .c (.sl (xs.map byteC))), (1, .c (.sl (xs.map byteC))), (5, .c (.v (.int .i64 k)))], []⟩) (fun k => k ≤ xs.length) (fun k => xs.length - k) 0 ⟨⟨rfl, rfl⟩, rfl, Nat.zero_le _⟩ ?_
  intro k hk
  simp only [go_sem, Nat.reduceAdd, Nat.reduceSub, Nat.reduceMul, Nat.reduceLT, Nat.reduceLeDiff, Nat.reduceEqDiff, Nat.succ_ne_zero, reduceIte, List.length_map]
  refine cndC.mk (fun h => ?_) (fun h => ?_)
  · have hk' : k < xs.length := by simpa using h
    simp only [go_sem, Nat.reduceAdd, Nat.reduceSub, Nat.reduceMul, Nat.reduceLT, Nat.reduceLeDiff, Nat.reduceEqDiff, Nat.succ_ne_zero, reduceIte]
    refine DrawK.mk ?_
    simp only [go_sem, Nat.reduceAdd, Nat.reduceSub, Nat.reduceMul, Nat.reduceLT, Nat.reduceLeDiff, Nat.reduceEqDiff, Nat.succ_ne_zero, reduceIte, List.length_map, bne_self_eq_false, beq_self_eq_true, map_at _ hk', hk', wrap_i64 (n := (k : Int) + 1) (by omega) (by omega)]
    exact ⟨k + 1, ⟨rfl, rfl⟩, rfl, by omega, by first | omega | (simp only; omega)⟩
  · simp only [go_sem, Nat.reduceAdd, Nat.reduceSub, Nat.reduceMul, Nat.reduceLT, Nat.reduceLeDiff, Nat.reduceEqDiff, Nat.succ_ne_zero, reduceIte]
theorem eqVal_spec (d : DVal) : Ctr Tryz.prog 122 [.agg d.c, .agg d.c] [.val (.c (.v (.bool true)))] := by
  refine Ctr.mk (fn := Tryz.f122) Tryz.call122 Tryz.func122 rfl mixed Tryz.ntmps122 Tryz.results122 (by kernel_rfl) rfl fun _ => ?_
  simp only [go_sem, Nat.reduceAdd, Nat.reduceSub, Nat.reduceMul, Nat.reduceLT, Nat.reduceLeDiff, Nat.reduceEqDiff, Nat.succ_ne_zero, reduceIte, bne_self_eq_false, beq_self_eq_true]
theorem eqValS_of (xs : List DVal) (hx : ∀ x ∈ xs, Ctr Tryz.prog 122 [.agg x.c, .agg x.c] [.val (.c (.v (.bool true)))]) : Ctr Tryz.prog 57 [.c (.sl (xs.map DVal.c)), .c (.sl (xs.map DVal.c))] [.val (.c (.v (.bool true)))] := by
  refine Ctr.mk (fn := Tryz.f57) Tryz.call57 Tryz.func57 rfl mixed Tryz.ntmps57 Tryz.results57 (by kernel_rfl) rfl fun hw => ?_
  have hlen : xs.length ≤ 9223372036854775807 := by have := hw.1.1; simpa [Go.maxLen] using this
  simp only [go_sem, Nat.reduceAdd, Nat.reduceSub, Nat.reduceMul, Nat.reduceLT, Nat.reduceLeDiff, Nat.reduceEqDiff, Nat.succ_ne_zero, reduceIte, List.length_map, bne_self_eq_false, beq_self_eq_true]
  refine LoopK.mk 0 [0, 1, 5] (A := Nat) (fun k => ⟨27, [(0, .c (.sl (xs.map DVal.c))), (1, .c (.sl (xs.map DVal.c))), (5, .c (.v (.int .i64 k)))], []⟩) (fun k => k ≤ xs.length) (fun k => xs.length - k) 0 ⟨⟨rfl, rfl⟩, rfl, Nat.zero_le _⟩ ?_
  intro k hk
  simp only [go_sem, Nat.reduceAdd, Nat.reduceSub, Nat.reduceMul, Nat.reduceLT, Nat.reduceLeDiff, Nat.reduceEqDiff, Nat.succ_ne_zero, reduceIte, List.length_map]
  refine cndC.mk (fun h => ?_) (fun h => ?_)
  · have hk' : k < xs.length := by simpa using h
    simp only [go_sem, Nat.reduceAdd, Nat.reduceSub, Nat.reduceMul, Nat.reduceLT, Nat.reduceLeDiff, Nat.reduceEqDiff, Nat.succ_ne_zero, reduceIte]
    refine DrawK.mk ?_
    simp only [go_sem, Nat.reduceAdd, Nat.reduceSub, Nat.reduceMul, Nat.reduceLT, Nat.reduceLeDiff, Nat.reduceEqDiff, Nat.succ_ne_zero, reduceIte, List.length_map, bne_self_eq_false, beq_self_eq_true, map_at _ hk', hk', wrap_i64 (n := (k : Int) + 1) (by omega) (by omega)]
    refine CallF.mk _ (by simpa only [go_sem] using hx xs[k] (List.getElem_mem hk')) ?_
    simp only [go_sem, Nat.reduceAdd, Nat.reduceSub, Nat.reduceMul, Nat.reduceLT, Nat.reduceLeDiff, Nat.reduceEqDiff, Nat.succ_ne_zero, reduceIte, map_at _ hk', wrap_i64 (n := (k : Int) + 1) (by omega) (by omega)]
    exact ⟨k + 1, ⟨rfl, rfl⟩, rfl, by omega, by first | omega | (simp only; omega)⟩
  · simp only [go_sem, Nat.reduceAdd, Nat.reduceSub, Nat.reduceMul, Nat.reduceLT, Nat.reduceLeDiff, Nat.reduceEqDiff, Nat.succ_ne_zero, reduceIte]
theorem eqValS_spec (xs : List DVal) : Ctr Tryz.prog 57 [.c (.sl (xs.map DVal.c)), .c (.sl (xs.map DVal.c))] [.val (.c (.v (.bool true)))] := eqValS_of xs fun x _ => eqVal_spec x
theorem eqRow_spec (d : DRow) : Ctr Tryz.prog 121 [.agg d.c, .agg d.c] [.val (.c (.v (.bool true)))] := by
  refine Ctr.mk (fn := Tryz.f121) Tryz.call121 Tryz.func121 rfl mixed Tryz.ntmps121 Tryz.results121 (by kernel_rfl) rfl fun _ => ?_
  simp only [go_sem, Nat.reduceAdd, Nat.reduceSub, Nat.reduceMul, Nat.reduceLT, Nat.reduceLeDiff, Nat.reduceEqDiff, Nat.succ_ne_zero, reduceIte, bne_self_eq_false, beq_self_eq_true]
  refine CallK.mk _ (by simpa only [go_sem] using eqValS_spec d.l) fun _ => ?_
  simp only [go_sem, Nat.reduceAdd, Nat.reduceSub, Nat.reduceMul, Nat.reduceLT, Nat.reduceLeDiff, Nat.reduceEqDiff, Nat.succ_ne_zero, reduceIte, bne_self_eq_false, beq_self_eq_true]
theorem eqRowS_of (xs : List DRow) (hx : ∀ x ∈ xs, Ctr Tryz.prog 121 [.agg x.c, .agg x.c] [.val (.c (.v (.bool true)))]) : Ctr Tryz.prog 56 [.c (.sl (xs.map DRow.c)), .c (.sl (xs.map DRow.c))] [.val (.c (.v (.bool true)))] := by
  refine Ctr.mk (fn := Tryz.f56) Tryz.call56 Tryz.func56 rfl mixed Tryz.ntmps56 Tryz.results56 (by kernel_rfl) rfl fun hw => ?_
  have hlen : xs.length ≤ 9223372036854775807 := by have := hw.1.1; simpa [Go.maxLen] using this
  simp only [go_sem, Nat.reduceAdd, Nat.reduceSub, Nat.reduceMul, Nat.reduceLT, Nat.reduceLeDiff, Nat.reduceEqDiff, Nat.succ_ne_zero, reduceIte, List.length_map, bne_self_eq_false, beq_self_eq_true]
  refine LoopK.mk 0 [0, 1, 5] (A := Nat) (fun k => ⟨27, [(0, .c (.sl (xs.map DRow.c))), (1, .c (.sl (xs.map DRow.c))), (5, .c (.v (.int .i64 k)))], []⟩) (fun k => k ≤ xs.length) (fun k => xs.length - k) 0 ⟨⟨rfl, rfl⟩, rfl, Nat.zero_le _⟩ ?_
  intro k hk
  simp only [go_sem, Nat.reduceAdd, Nat.reduceSub, Nat.reduceMul, Nat.reduceLT, Nat.reduceLeDiff, Nat.reduceEqDiff, Nat.succ_ne_zero, reduceIte, List.length_map]
  refine cndC.mk (fun h => ?_) (fun h => ?_)
  · have hk' : k < xs.length := by simpa using h
    simp only [go_sem, Nat.reduceAdd, Nat.reduceSub, Nat.reduceMul, Nat.reduceLT, Nat.reduceLeDiff, Nat.reduceEqDiff, Nat.succ_ne_zero, reduceIte]
    refine DrawK.mk ?_
    simp only [go_sem, Nat.reduceAdd, Nat.reduceSub, Nat.reduceMul, Nat.reduceLT, Nat.reduceLeDiff, Nat.reduceEqDiff, Nat.succ_ne_zero, reduceIte, List.length_map, bne_self_eq_false, beq_self_eq_true, map_at _ hk', hk', wrap_i64 (n := (k : Int) + 1) (by omega) (by omega)]
    refine CallF.mk _ (by simpa only [go_sem] using hx xs[k] (List.getElem_mem hk')) ?_
    simp only [go_sem, Nat.reduceAdd, Nat.reduceSub, Nat.reduceMul, Nat.reduceLT, Nat.reduceLeDiff, Nat.reduceEqDiff, Nat.succ_ne_zero, reduceIte, map_at _ hk', wrap_i64 (n := (k : Int) + 1) (by omega) (by omega)]
    exact ⟨k + 1, ⟨rfl, rfl⟩, rfl, by omega, by first | omega | (simp only; omega)⟩
  · simp only [go_sem, Nat.reduceAdd, Nat.reduceSub, Nat.reduceMul, Nat.reduceLT, Nat.reduceLeDiff, Nat.reduceEqDiff, Nat.succ_ne_zero, reduceIte]
theorem eqRowS_spec (xs : List DRow) : Ctr Tryz.prog 56 [.c (.sl (xs.map DRow.c)), .c (.sl (xs.map DRow.c))] [.val (.c (.v (.bool true)))] := eqRowS_of xs fun x _ => eqRow_spec x
theorem eqTable_spec (d : DTable) : Ctr Tryz.prog 12 [.agg d.c, .agg d.c] [.val (.c (.v (.bool true)))] := by
  refine Ctr.mk (fn := Tryz.f12) Tryz.call12 Tryz.func12 rfl mixed Tryz.ntmps12 Tryz.results12 (by kernel_rfl) rfl fun _ => ?_
  simp only [go_sem, Nat.reduceAdd, Nat.reduceSub, Nat.reduceMul, Nat.reduceLT, Nat.reduceLeDiff, Nat.reduceEqDiff, Nat.succ_ne_zero, reduceIte, bne_self_eq_false, beq_self_eq_true]
  refine CallK.mk _ (by simpa only [go_sem] using eqIntS_spec d.cols) fun _ => ?_
  simp only [go_sem, Nat.reduceAdd, Nat.reduceSub, Nat.reduceMul, Nat.reduceLT, Nat.reduceLeDiff, Nat.reduceEqDiff, Nat.succ_ne_zero, reduceIte, bne_self_eq_false, beq_self_eq_true]
  refine CallK.mk _ (by simpa only [go_sem] using eqRowS_spec d.l) fun _ => ?_
  simp only [go_sem, Nat.reduceAdd, Nat.reduceSub, Nat.reduceMul, Nat.reduceLT, Nat.reduceLeDiff, Nat.reduceEqDiff, Nat.succ_ne_zero, reduceIte, bne_self_eq_false, beq_self_eq_true]
theorem eqPredS_of (xs : List DPred) (hx : ∀ x ∈ xs, Ctr Tryz.prog 123 [.agg x.c, .agg x.c] [.val (.c (.v (.bool true)))]) : Ctr Tryz.prog 162 [.c (.sl (xs.map DPred.c)), .c (.sl (xs.map DPred.c))] [.val (.c (.v (.bool true)))] := by
  refine Ctr.mk (fn := Tryz.f162) Tryz.call162 Tryz.func162 rfl mixed Tryz.ntmps162 Tryz.results162 (by kernel_rfl) rfl fun hw => ?_
  have hlen : xs.length ≤ 9223372036854775807 := by have := hw.1.1; simpa [Go.maxLen] using this
  simp only [go_sem, Nat.reduceAdd, Nat.reduceSub, Nat.reduceMul, Nat.reduceLT, Nat.reduceLeDiff, Nat.reduceEqDiff, Nat.succ_ne_zero, reduceIte, List.length_map, bne_self_eq_false, beq_self_eq_true]
  refine LoopK.mk 0 [0, 1, 5] (A := Nat) (fun k => ⟨27, [(0, .c (.sl (xs.map DPred.c))), (1, .c (.sl (xs.map DPred.c))), (5, .c (.v (.int .i64 k)))], []⟩) (fun k => k ≤ xs.length) (fun k => xs.length - k) 0 ⟨⟨rfl, rfl⟩, rfl, Nat.zero_le _⟩ ?_
  intro k hk
  simp only [go_sem, Nat.reduceAdd, Nat.reduceSub, Nat.reduceMul, Nat.reduceLT, Nat.reduceLeDiff, Nat.reduceEqDiff, Nat.succ_ne_zero, reduceIte, List.length_map]
  refine cndC.mk (fun h => ?_) (fun h => ?_)
  · have hk' : k < xs.length := by simpa using h
    simp only [go_sem, Nat.reduceAdd, Nat.reduceSub, Nat.reduceMul, Nat.reduceLT, Nat.reduceLeDiff, Nat.reduceEqDiff, Nat.succ_ne_zero, reduceIte]
    refine DrawK.mk ?_
    simp only [go_sem, Nat.reduceAdd, Nat.reduceSub, Nat.reduceMul, Nat.reduceLT, Nat.reduceLeDiff, Nat.reduceEqDiff, Nat.succ_ne_zero, reduceIte, List.length_map, bne_self_eq_false, beq_self_eq_true, map_at _ hk', hk', wrap_i64 (n := (k : Int) + 1) (by omega) (by omega)]
    refine CallF.mk _ (by simpa only [go_sem] using hx xs[k] (List.getElem_mem hk')) ?_
    simp only [go_sem, Nat.reduceAdd, Nat.reduceSub, Nat.reduceMul, Nat.reduceLT, Nat.reduceLeDiff, Nat.reduceEqDiff, Nat.succ_ne_zero, reduceIte, map_at _ hk', wrap_i64 (n := (k : Int) + 1) (by omega) (by omega)]
    exact ⟨k + 1, ⟨rfl, rfl⟩, rfl, by omega, by first | omega | (simp only; omega)⟩
  · simp only [go_sem, Nat.reduceAdd, Nat.reduceSub, Nat.reduceMul, Nat.reduceLT, Nat.reduceLeDiff, Nat.reduceEqDiff, Nat.succ_ne_zero, reduceIte]
theorem eqPred_of (d : DPred) (hx : ∀ x ∈ d.l, Ctr Tryz.prog 123 [.agg x.c, .agg x.c] [.val (.c (.v (.bool true)))]) : Ctr Tryz.prog 123 [.agg d.c, .agg d.c] [.val (.c (.v (.bool true)))] := by
  refine Ctr.mk (fn := Tryz.f123) Tryz.call123 Tryz.func123 rfl mixed Tryz.ntmps123 Tryz.results123 (by kernel_rfl) rfl fun _ => ?_
  simp only [go_sem, Nat.reduceAdd, Nat.reduceSub, Nat.reduceMul, Nat.reduceLT, Nat.reduceLeDiff, Nat.reduceEqDiff, Nat.succ_ne_zero, reduceIte, bne_self_eq_false, beq_self_eq_true]
  refine CallK.mk _ (by simpa only [go_sem] using eqVal_spec d.v) fun _ => ?_
  simp only [go_sem, Nat.reduceAdd, Nat.reduceSub, Nat.reduceMul, Nat.reduceLT, Nat.reduceLeDiff, Nat.reduceEqDiff, Nat.succ_ne_zero, reduceIte, bne_self_eq_false, beq_self_eq_true]
  refine CallK.mk _ (by simpa only [go_sem] using eqPredS_of d.l hx) fun _ => ?_
  simp only [go_sem, Nat.reduceAdd, Nat.reduceSub, Nat.reduceMul, Nat.reduceLT, Nat.reduceLeDiff, Nat.reduceEqDiff, Nat.succ_ne_zero, reduceIte, bne_self_eq_false, beq_self_eq_true]
theorem eqPred_fuel : ∀ (n : Nat) (d : DPred), SizeOf.sizeOf d ≤ n → Ctr Tryz.prog 123 [.agg d.c, .agg d.c] [.val (.c (.v (.bool true)))]
  | 0, d, h => by cases d; simp at h
  | n + 1, d, h => eqPred_of d fun x hx => eqPred_fuel n x (by
    have h1 : SizeOf.sizeOf x < SizeOf.sizeOf d.l := List.sizeOf_lt_of_mem hx
    have h2 : SizeOf.sizeOf d.l < SizeOf.sizeOf d := by cases d; simp [DPred.l]; omega
    omega)
theorem eqPred_spec (d : DPred) : Ctr Tryz.prog 123 [.agg d.c, .agg d.c] [.val (.c (.v (.bool true)))] := eqPred_fuel _ d (Nat.le_refl _)
theorem eqPredS_spec (xs : List DPred) : Ctr Tryz.prog 162 [.c (.sl (xs.map DPred.c)), .c (.sl (xs.map DPred.c))] [.val (.c (.v (.bool true)))] := eqPredS_of xs fun x _ => eqPred_spec x
theorem eqQuery_spec (d : DQuery) : Ctr Tryz.prog 58 [.agg d.c, .agg d.c] [.val (.c (.v (.bool true)))] := by
  refine Ctr.mk (fn := Tryz.f58) Tryz.call58 Tryz.func58 rfl mixed Tryz.ntmps58 Tryz.results58 (by kernel_rfl) rfl fun _ => ?_
  simp only [go_sem, Nat.reduceAdd, Nat.reduceSub, Nat.reduceMul, Nat.reduceLT, Nat.reduceLeDiff, Nat.reduceEqDiff, Nat.succ_ne_zero, reduceIte, bne_self_eq_false, beq_self_eq_true]
  refine CallK.mk _ (by simpa only [go_sem] using eqPred_spec d.p) fun _ => ?_
  simp only [go_sem, Nat.reduceAdd, Nat.reduceSub, Nat.reduceMul, Nat.reduceLT, Nat.reduceLeDiff, Nat.reduceEqDiff, Nat.succ_ne_zero, reduceIte, bne_self_eq_false, beq_self_eq_true]
  refine CallK.mk _ (by simpa only [go_sem] using eqIntS_spec d.out) fun _ => ?_
  simp only [go_sem, Nat.reduceAdd, Nat.reduceSub, Nat.reduceMul, Nat.reduceLT, Nat.reduceLeDiff, Nat.reduceEqDiff, Nat.succ_ne_zero, reduceIte, bne_self_eq_false, beq_self_eq_true]
theorem eqResult_spec (d : DResult) : Ctr Tryz.prog 59 [.agg d.c, .agg d.c] [.val (.c (.v (.bool true)))] := by
  refine Ctr.mk (fn := Tryz.f59) Tryz.call59 Tryz.func59 rfl mixed Tryz.ntmps59 Tryz.results59 (by kernel_rfl) rfl fun _ => ?_
  simp only [go_sem, Nat.reduceAdd, Nat.reduceSub, Nat.reduceMul, Nat.reduceLT, Nat.reduceLeDiff, Nat.reduceEqDiff, Nat.succ_ne_zero, reduceIte, bne_self_eq_false, beq_self_eq_true]
  refine CallK.mk _ (by simpa only [go_sem] using eqRowS_spec d.rows) fun _ => ?_
  simp only [go_sem, Nat.reduceAdd, Nat.reduceSub, Nat.reduceMul, Nat.reduceLT, Nat.reduceLeDiff, Nat.reduceEqDiff, Nat.succ_ne_zero, reduceIte, bne_self_eq_false, beq_self_eq_true]
  refine CallK.mk _ (by simpa only [go_sem] using eqVal_spec d.v) fun _ => ?_
  simp only [go_sem, Nat.reduceAdd, Nat.reduceSub, Nat.reduceMul, Nat.reduceLT, Nat.reduceLeDiff, Nat.reduceEqDiff, Nat.succ_ne_zero, reduceIte, bne_self_eq_false, beq_self_eq_true]
theorem eqDeed_spec (d : DDeed) : Ctr Tryz.prog 13 [.agg d.c, .agg d.c] [.val (.c (.v (.bool true)))] := by
  refine Ctr.mk (fn := Tryz.f13) Tryz.call13 Tryz.func13 rfl mixed Tryz.ntmps13 Tryz.results13 (by kernel_rfl) rfl fun _ => ?_
  simp only [go_sem, Nat.reduceAdd, Nat.reduceSub, Nat.reduceMul, Nat.reduceLT, Nat.reduceLeDiff, Nat.reduceEqDiff, Nat.succ_ne_zero, reduceIte, bne_self_eq_false, beq_self_eq_true]
  refine CallK.mk _ (by simpa only [go_sem] using eqValS_spec d.r) fun _ => ?_
  simp only [go_sem, Nat.reduceAdd, Nat.reduceSub, Nat.reduceMul, Nat.reduceLT, Nat.reduceLeDiff, Nat.reduceEqDiff, Nat.succ_ne_zero, reduceIte, bne_self_eq_false, beq_self_eq_true]
  refine CallK.mk _ (by simpa only [go_sem] using eqQuery_spec d.q) fun _ => ?_
  simp only [go_sem, Nat.reduceAdd, Nat.reduceSub, Nat.reduceMul, Nat.reduceLT, Nat.reduceLeDiff, Nat.reduceEqDiff, Nat.succ_ne_zero, reduceIte, bne_self_eq_false, beq_self_eq_true]
  refine CallK.mk _ (by simpa only [go_sem] using eqResult_spec d.res) fun _ => ?_
  simp only [go_sem, Nat.reduceAdd, Nat.reduceSub, Nat.reduceMul, Nat.reduceLT, Nat.reduceLeDiff, Nat.reduceEqDiff, Nat.succ_ne_zero, reduceIte, bne_self_eq_false, beq_self_eq_true]
theorem eqDeedS_of (xs : List DDeed) (hx : ∀ x ∈ xs, Ctr Tryz.prog 13 [.agg x.c, .agg x.c] [.val (.c (.v (.bool true)))]) : Ctr Tryz.prog 21 [.c (.sl (xs.map DDeed.c)), .c (.sl (xs.map DDeed.c))] [.val (.c (.v (.bool true)))] := by
  refine Ctr.mk (fn := Tryz.f21) Tryz.call21 Tryz.func21 rfl mixed Tryz.ntmps21 Tryz.results21 (by kernel_rfl) rfl fun hw => ?_
  have hlen : xs.length ≤ 9223372036854775807 := by have := hw.1.1; simpa [Go.maxLen] using this
  simp only [go_sem, Nat.reduceAdd, Nat.reduceSub, Nat.reduceMul, Nat.reduceLT, Nat.reduceLeDiff, Nat.reduceEqDiff, Nat.succ_ne_zero, reduceIte, List.length_map, bne_self_eq_false, beq_self_eq_true]
  refine LoopK.mk 0 [0, 1, 5] (A := Nat) (fun k => ⟨27, [(0, .c (.sl (xs.map DDeed.c))), (1, .c (.sl (xs.map DDeed.c))), (5, .c (.v (.int .i64 k)))], []⟩) (fun k => k ≤ xs.length) (fun k => xs.length - k) 0 ⟨⟨rfl, rfl⟩, rfl, Nat.zero_le _⟩ ?_
  intro k hk
  simp only [go_sem, Nat.reduceAdd, Nat.reduceSub, Nat.reduceMul, Nat.reduceLT, Nat.reduceLeDiff, Nat.reduceEqDiff, Nat.succ_ne_zero, reduceIte, List.length_map]
  refine cndC.mk (fun h => ?_) (fun h => ?_)
  · have hk' : k < xs.length := by simpa using h
    simp only [go_sem, Nat.reduceAdd, Nat.reduceSub, Nat.reduceMul, Nat.reduceLT, Nat.reduceLeDiff, Nat.reduceEqDiff, Nat.succ_ne_zero, reduceIte]
    refine DrawK.mk ?_
    simp only [go_sem, Nat.reduceAdd, Nat.reduceSub, Nat.reduceMul, Nat.reduceLT, Nat.reduceLeDiff, Nat.reduceEqDiff, Nat.succ_ne_zero, reduceIte, List.length_map, bne_self_eq_false, beq_self_eq_true, map_at _ hk', hk', wrap_i64 (n := (k : Int) + 1) (by omega) (by omega)]
    refine CallF.mk _ (by simpa only [go_sem] using hx xs[k] (List.getElem_mem hk')) ?_
    simp only [go_sem, Nat.reduceAdd, Nat.reduceSub, Nat.reduceMul, Nat.reduceLT, Nat.reduceLeDiff, Nat.reduceEqDiff, Nat.succ_ne_zero, reduceIte, map_at _ hk', wrap_i64 (n := (k : Int) + 1) (by omega) (by omega)]
    exact ⟨k + 1, ⟨rfl, rfl⟩, rfl, by omega, by first | omega | (simp only; omega)⟩
  · simp only [go_sem, Nat.reduceAdd, Nat.reduceSub, Nat.reduceMul, Nat.reduceLT, Nat.reduceLeDiff, Nat.reduceEqDiff, Nat.succ_ne_zero, reduceIte]
theorem eqDeedS_spec (xs : List DDeed) : Ctr Tryz.prog 21 [.c (.sl (xs.map DDeed.c)), .c (.sl (xs.map DDeed.c))] [.val (.c (.v (.bool true)))] := eqDeedS_of xs fun x _ => eqDeed_spec x

end Go.Proofs.YtepjgnlinjlehaaGreat
