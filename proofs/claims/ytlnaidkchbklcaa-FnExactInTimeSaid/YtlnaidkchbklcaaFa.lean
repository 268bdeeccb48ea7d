/- Contracts of the sz/to/eq functions: by program (gen_data.py). -/
import Derived.Test.YtlnaidkchbklcaaDa
import Derived.Test.YtlnaidkchbklcaaTy
namespace Go.Proofs.Ytlnaidkchbklcaa
set_option linter.unusedSimpArgs false
set_option linter.unusedVariables false
open Go.Vm

set_option maxHeartbeats 1000000
set_option maxRecDepth 10000

theorem szIntS_spec (xs : List Int) (l : Int) (hl : 0 ≤ l) : Ctr Try.prog 15 [.c (.sl (xs.map intC)), .c (.v (.int .i64 l))] [.val (.c (.v (.int .i64 (szI xs.length l))))] := by
  refine Ctr.mk (fn := Try.f15) Try.call15 Try.func15 rfl mixed Try.ntmps15 Try.results15 (by kernel_rfl) rfl fun hw => ?_
  have hlen : xs.length ≤ 9223372036854775807 := by have := hw.1.1; simpa [Go.maxLen] using this
  have hl2 : l ≤ 9223372036854775807 := i64_le hw.2.1
  simp only [go_sem, Nat.reduceAdd, Nat.reduceSub, Nat.reduceMul, Nat.reduceLT, Nat.reduceLeDiff, Nat.reduceEqDiff, Nat.succ_ne_zero, reduceIte, List.length_map, wrap_i64 (n := l - xs.length) (by omega) (by omega)]
  refine cndC.mk (fun h => ?_) (fun h => ?_)
  · have h' : l - xs.length < 0 := by simpa using h
    simp only [go_sem, Nat.reduceAdd, Nat.reduceSub, Nat.reduceMul, Nat.reduceLT, Nat.reduceLeDiff, Nat.reduceEqDiff, Nat.succ_ne_zero, reduceIte]
    simp [szI, h']
  · have h' : ¬ l - xs.length < 0 := by simpa using h
    simp only [go_sem, Nat.reduceAdd, Nat.reduceSub, Nat.reduceMul, Nat.reduceLT, Nat.reduceLeDiff, Nat.reduceEqDiff, Nat.succ_ne_zero, reduceIte]
    simp [szI, h']
theorem szVal_spec (d : DVal) (l : Int) (hl : 0 ≤ l) : Ctr Try.prog 48 [.agg d.c, .c (.v (.int .i64 l))] [.val (.c (.v (.int .i64 (szVal d l))))] := by
  refine Ctr.mk (fn := Try.f48) Try.call48 Try.func48 rfl mixed Try.ntmps48 Try.results48 (by kernel_rfl) rfl fun hw => ?_
  rw [szVal_eq]
  have hl2 : l ≤ 9223372036854775807 := i64_le hw.2.1
  have hs : d.s.size ≤ 9223372036854775807 := str_le hw.1.2.2.1
  simp only [go_sem, Nat.reduceAdd, Nat.reduceSub, Nat.reduceMul, Nat.reduceLT, Nat.reduceLeDiff, Nat.reduceEqDiff, Nat.succ_ne_zero, reduceIte, wrap_i64 (n := l - d.s.size) (by omega) (by omega)]
  refine cndC.mk (fun h => ?_) (fun h => ?_)
  · have h0 : l - d.s.size < 0 := by simpa using h
    simp only [go_sem, Nat.reduceAdd, Nat.reduceSub, Nat.reduceMul, Nat.reduceLT, Nat.reduceLeDiff, Nat.reduceEqDiff, Nat.succ_ne_zero, reduceIte]
    simp [szI, sq, h0]
  · have h0 : ¬ l - d.s.size < 0 := by simpa using h
    simp only [go_sem, Nat.reduceAdd, Nat.reduceSub, Nat.reduceMul, Nat.reduceLT, Nat.reduceLeDiff, Nat.reduceEqDiff, Nat.succ_ne_zero, reduceIte]
    simp [szI, sq, h0]
theorem szValS_of (xs : List DVal) (hx : ∀ x ∈ xs, ∀ l, 0 ≤ l → Ctr Try.prog 48 [.agg x.c, .c (.v (.int .i64 l))] [.val (.c (.v (.int .i64 (szVal x l))))]) (l : Int) (hl : 0 ≤ l) : Ctr Try.prog 37 [.c (.sl (xs.map DVal.c)), .c (.v (.int .i64 l))] [.val (.c (.v (.int .i64 (szS szVal xs l))))] := by
  refine Ctr.mk (fn := Try.f37) Try.call37 Try.func37 rfl mixed Try.ntmps37 Try.results37 (by kernel_rfl) rfl fun hw => ?_
  have hlen : xs.length ≤ 9223372036854775807 := by have := hw.1.1; simpa [Go.maxLen] using this
  have hl2 : l ≤ 9223372036854775807 := i64_le hw.2.1
  simp only [go_sem, Nat.reduceAdd, Nat.reduceSub, Nat.reduceMul, Nat.reduceLT, Nat.reduceLeDiff, Nat.reduceEqDiff, Nat.succ_ne_zero, reduceIte, List.length_map, wrap_i64 (n := l - xs.length) (by omega) (by omega)]
  refine cndC.mk (fun h => ?_) (fun h => ?_)
  · have h' : l - xs.length < 0 := by simpa using h
    simp only [go_sem, Nat.reduceAdd, Nat.reduceSub, Nat.reduceMul, Nat.reduceLT, Nat.reduceLeDiff, Nat.reduceEqDiff, Nat.succ_ne_zero, reduceIte]
    simp [szS, sq, szI, h']
  · have h' : ¬ l - xs.length < 0 := by simpa using h
    simp only [go_sem, Nat.reduceAdd, Nat.reduceSub, Nat.reduceMul, Nat.reduceLT, Nat.reduceLeDiff, Nat.reduceEqDiff, Nat.succ_ne_zero, reduceIte]
    refine LoopK.mk 0 [0, 1, 5] (A := Nat × Int) (fun x => ⟨27, [(0, .c (.sl (xs.map DVal.c))), (1, .c (.v (.int .i64 x.2))), (5, .c (.v (.int .i64 x.1)))], []⟩) (fun x => x.1 ≤ xs.length ∧ 0 ≤ x.2 ∧ szL szVal (xs.drop x.1) x.2 = szS szVal xs l) (fun x => xs.length - x.1)
      (0, l - xs.length) ⟨⟨rfl, rfl⟩, rfl, Nat.zero_le _, by simp only; omega, by simp [szS, sq, szI, h']⟩ ?_
    rintro ⟨k, m⟩ ⟨hk, hm0, hm⟩
    simp only at hk hm hm0
    simp only [go_sem, Nat.reduceAdd, Nat.reduceSub, Nat.reduceMul, Nat.reduceLT, Nat.reduceLeDiff, Nat.reduceEqDiff, Nat.succ_ne_zero, reduceIte, List.length_map]
    refine cndC.mk (fun h => ?_) (fun h => ?_)
    · have hk' : k < xs.length := by simpa using h
      simp only [go_sem, Nat.reduceAdd, Nat.reduceSub, Nat.reduceMul, Nat.reduceLT, Nat.reduceLeDiff, Nat.reduceEqDiff, Nat.succ_ne_zero, reduceIte, map_at _ hk']
      refine CallK.mk _ (by simpa only [go_sem] using hx xs[k] (List.getElem_mem hk') m hm0) fun _ => ?_
      simp only [go_sem, Nat.reduceAdd, Nat.reduceSub, Nat.reduceMul, Nat.reduceLT, Nat.reduceLeDiff, Nat.reduceEqDiff, Nat.succ_ne_zero, reduceIte]
      rw [List.drop_eq_getElem_cons hk'] at hm
      simp only [szL] at hm
      refine cndC.mk (fun h => ?_) (fun h => ?_)
      · have h' : szVal xs[k] m < 0 := by simpa using h
        simp only [go_sem, Nat.reduceAdd, Nat.reduceSub, Nat.reduceMul, Nat.reduceLT, Nat.reduceLeDiff, Nat.reduceEqDiff, Nat.succ_ne_zero, reduceIte]
        rw [sq_neg h'] at hm
        rw [hm]
      · have h' : ¬ szVal xs[k] m < 0 := by simpa using h
        rw [sq_pos h'] at hm
        simp only [go_sem, Nat.reduceAdd, Nat.reduceSub, Nat.reduceMul, Nat.reduceLT, Nat.reduceLeDiff, Nat.reduceEqDiff, Nat.succ_ne_zero, reduceIte, wrap_i64 (n := (k : Int) + 1) (by omega) (by omega)]
        exact ⟨(k + 1, szVal xs[k] m), ⟨rfl, rfl⟩, rfl, ⟨by simp only; omega, (by omega : (0 : Int) ≤ szVal xs[k] m), hm⟩, by simp only; omega⟩
    · have hk' : k = xs.length := by simp at h; omega
      subst hk'
      simp only [go_sem, Nat.reduceAdd, Nat.reduceSub, Nat.reduceMul, Nat.reduceLT, Nat.reduceLeDiff, Nat.reduceEqDiff, Nat.succ_ne_zero, reduceIte]
      simp [szL] at hm
      rw [hm]
theorem szValS_spec (xs : List DVal) (l : Int) (hl : 0 ≤ l) : Ctr Try.prog 37 [.c (.sl (xs.map DVal.c)), .c (.v (.int .i64 l))] [.val (.c (.v (.int .i64 (szS szVal xs l))))] := szValS_of xs (fun x _ l hl => szVal_spec x l hl) l hl
theorem szRow_spec (d : DRow) (l : Int) (hl : 0 ≤ l) : Ctr Try.prog 30 [.agg d.c, .c (.v (.int .i64 l))] [.val (.c (.v (.int .i64 (szRow d l))))] := by
  refine Ctr.mk (fn := Try.f30) Try.call30 Try.func30 rfl mixed Try.ntmps30 Try.results30 (by kernel_rfl) rfl fun hw => ?_
  rw [szRow_eq]
  simp only [go_sem, Nat.reduceAdd, Nat.reduceSub, Nat.reduceMul, Nat.reduceLT, Nat.reduceLeDiff, Nat.reduceEqDiff, Nat.succ_ne_zero, reduceIte]
  refine CallK.mk _ (by simpa only [go_sem] using szValS_spec d.l _ (by omega)) fun _ => ?_
  simp only [go_sem, Nat.reduceAdd, Nat.reduceSub, Nat.reduceMul, Nat.reduceLT, Nat.reduceLeDiff, Nat.reduceEqDiff, Nat.succ_ne_zero, reduceIte]
  refine cndC.mk (fun h => ?_) (fun h => ?_)
  · have h0 : szS szVal d.l (l) < 0 := by simpa using h
    simp only [go_sem, Nat.reduceAdd, Nat.reduceSub, Nat.reduceMul, Nat.reduceLT, Nat.reduceLeDiff, Nat.reduceEqDiff, Nat.succ_ne_zero, reduceIte]
    simp [sq, h0]
  · have h0 : ¬ szS szVal d.l (l) < 0 := by simpa using h
    simp only [go_sem, Nat.reduceAdd, Nat.reduceSub, Nat.reduceMul, Nat.reduceLT, Nat.reduceLeDiff, Nat.reduceEqDiff, Nat.succ_ne_zero, reduceIte]
    simp [sq, h0]
theorem szRowS_of (xs : List DRow) (hx : ∀ x ∈ xs, ∀ l, 0 ≤ l → Ctr Try.prog 30 [.agg x.c, .c (.v (.int .i64 l))] [.val (.c (.v (.int .i64 (szRow x l))))]) (l : Int) (hl : 0 ≤ l) : Ctr Try.prog 16 [.c (.sl (xs.map DRow.c)), .c (.v (.int .i64 l))] [.val (.c (.v (.int .i64 (szS szRow xs l))))] := by
  refine Ctr.mk (fn := Try.f16) Try.call16 Try.func16 rfl mixed Try.ntmps16 Try.results16 (by kernel_rfl) rfl fun hw => ?_
  have hlen : xs.length ≤ 9223372036854775807 := by have := hw.1.1; simpa [Go.maxLen] using this
  have hl2 : l ≤ 9223372036854775807 := i64_le hw.2.1
  simp only [go_sem, Nat.reduceAdd, Nat.reduceSub, Nat.reduceMul, Nat.reduceLT, Nat.reduceLeDiff, Nat.reduceEqDiff, Nat.succ_ne_zero, reduceIte, List.length_map, wrap_i64 (n := l - xs.length) (by omega) (by omega)]
  refine cndC.mk (fun h => ?_) (fun h => ?_)
  · have h' : l - xs.length < 0 := by simpa using h
    simp only [go_sem, Nat.reduceAdd, Nat.reduceSub, Nat.reduceMul, Nat.reduceLT, Nat.reduceLeDiff, Nat.reduceEqDiff, Nat.succ_ne_zero, reduceIte]
    simp [szS, sq, szI, h']
  · have h' : ¬ l - xs.length < 0 := by simpa using h
    simp only [go_sem, Nat.reduceAdd, Nat.reduceSub, Nat.reduceMul, Nat.reduceLT, Nat.reduceLeDiff, Nat.reduceEqDiff, Nat.succ_ne_zero, reduceIte]
    refine LoopK.mk 0 [0, 1, 5] (A := Nat × Int) (fun x => ⟨27, [(0, .c (.sl (xs.map DRow.c))), (1, .c (.v (.int .i64 x.2))), (5, .c (.v (.int .i64 x.1)))], []⟩) (fun x => x.1 ≤ xs.length ∧ 0 ≤ x.2 ∧ szL szRow (xs.drop x.1) x.2 = szS szRow xs l) (fun x => xs.length - x.1)
      (0, l - xs.length) ⟨⟨rfl, rfl⟩, rfl, Nat.zero_le _, by simp only; omega, by simp [szS, sq, szI, h']⟩ ?_
    rintro ⟨k, m⟩ ⟨hk, hm0, hm⟩
    simp only at hk hm hm0
    simp only [go_sem, Nat.reduceAdd, Nat.reduceSub, Nat.reduceMul, Nat.reduceLT, Nat.reduceLeDiff, Nat.reduceEqDiff, Nat.succ_ne_zero, reduceIte, List.length_map]
    refine cndC.mk (fun h => ?_) (fun h => ?_)
    · have hk' : k < xs.length := by simpa using h
      simp only [go_sem, Nat.reduceAdd, Nat.reduceSub, Nat.reduceMul, Nat.reduceLT, Nat.reduceLeDiff, Nat.reduceEqDiff, Nat.succ_ne_zero, reduceIte, map_at _ hk']
      refine CallK.mk _ (by simpa only [go_sem] using hx xs[k] (List.getElem_mem hk') m hm0) fun _ => ?_
      simp only [go_sem, Nat.reduceAdd, Nat.reduceSub, Nat.reduceMul, Nat.reduceLT, Nat.reduceLeDiff, Nat.reduceEqDiff, Nat.succ_ne_zero, reduceIte]
      rw [List.drop_eq_getElem_cons hk'] at hm
      simp only [szL] at hm
      refine cndC.mk (fun h => ?_) (fun h => ?_)
      · have h' : szRow xs[k] m < 0 := by simpa using h
        simp only [go_sem, Nat.reduceAdd, Nat.reduceSub, Nat.reduceMul, Nat.reduceLT, Nat.reduceLeDiff, Nat.reduceEqDiff, Nat.succ_ne_zero, reduceIte]
        rw [sq_neg h'] at hm
        rw [hm]
      · have h' : ¬ szRow xs[k] m < 0 := by simpa using h
        rw [sq_pos h'] at hm
        simp only [go_sem, Nat.reduceAdd, Nat.reduceSub, Nat.reduceMul, Nat.reduceLT, Nat.reduceLeDiff, Nat.reduceEqDiff, Nat.succ_ne_zero, reduceIte, wrap_i64 (n := (k : Int) + 1) (by omega) (by omega)]
        exact ⟨(k + 1, szRow xs[k] m), ⟨rfl, rfl⟩, rfl, ⟨by simp only; omega, (by omega : (0 : Int) ≤ szRow xs[k] m), hm⟩, by simp only; omega⟩
    · have hk' : k = xs.length := by simp at h; omega
      subst hk'
      simp only [go_sem, Nat.reduceAdd, Nat.reduceSub, Nat.reduceMul, Nat.reduceLT, Nat.reduceLeDiff, Nat.reduceEqDiff, Nat.succ_ne_zero, reduceIte]
      simp [szL] at hm
      rw [hm]
theorem szRowS_spec (xs : List DRow) (l : Int) (hl : 0 ≤ l) : Ctr Try.prog 16 [.c (.sl (xs.map DRow.c)), .c (.v (.int .i64 l))] [.val (.c (.v (.int .i64 (szS szRow xs l))))] := szRowS_of xs (fun x _ l hl => szRow_spec x l hl) l hl
theorem szPredS_of (xs : List DPred) (hx : ∀ x ∈ xs, ∀ l, 0 ≤ l → Ctr Try.prog 49 [.agg x.c, .c (.v (.int .i64 l))] [.val (.c (.v (.int .i64 (szPred x l))))]) (l : Int) (hl : 0 ≤ l) : Ctr Try.prog 56 [.c (.sl (xs.map DPred.c)), .c (.v (.int .i64 l))] [.val (.c (.v (.int .i64 (szS szPred xs l))))] := by
  refine Ctr.mk (fn := Try.f56) Try.call56 Try.func56 rfl mixed Try.ntmps56 Try.results56 (by kernel_rfl) rfl fun hw => ?_
  have hlen : xs.length ≤ 9223372036854775807 := by have := hw.1.1; simpa [Go.maxLen] using this
  have hl2 : l ≤ 9223372036854775807 := i64_le hw.2.1
  simp only [go_sem, Nat.reduceAdd, Nat.reduceSub, Nat.reduceMul, Nat.reduceLT, Nat.reduceLeDiff, Nat.reduceEqDiff, Nat.succ_ne_zero, reduceIte, List.length_map, wrap_i64 (n := l - xs.length) (by omega) (by omega)]
  refine cndC.mk (fun h => ?_) (fun h => ?_)
  · have h' : l - xs.length < 0 := by simpa using h
    simp only [go_sem, Nat.reduceAdd, Nat.reduceSub, Nat.reduceMul, Nat.reduceLT, Nat.reduceLeDiff, Nat.reduceEqDiff, Nat.succ_ne_zero, reduceIte]
    simp [szS, sq, szI, h']
  · have h' : ¬ l - xs.length < 0 := by simpa using h
    simp only [go_sem, Nat.reduceAdd, Nat.reduceSub, Nat.reduceMul, Nat.reduceLT, Nat.reduceLeDiff, Nat.reduceEqDiff, Nat.succ_ne_zero, reduceIte]
    refine LoopK.mk 0 [0, 1, 5] (A := Nat × Int) (fun x => ⟨27, [(0, .c (.sl (xs.map DPred.c))), (1, .c (.v (.int .i64 x.2))), (5, .c (.v (.int .i64 x.1)))], []⟩) (fun x => x.1 ≤ xs.length ∧ 0 ≤ x.2 ∧ szL szPred (xs.drop x.1) x.2 = szS szPred xs l) (fun x => xs.length - x.1)
      (0, l - xs.length) ⟨⟨rfl, rfl⟩, rfl, Nat.zero_le _, by simp only; omega, by simp [szS, sq, szI, h']⟩ ?_
    rintro ⟨k, m⟩ ⟨hk, hm0, hm⟩
    simp only at hk hm hm0
    simp only [go_sem, Nat.reduceAdd, Nat.reduceSub, Nat.reduceMul, Nat.reduceLT, Nat.reduceLeDiff, Nat.reduceEqDiff, Nat.succ_ne_zero, reduceIte, List.length_map]
    refine cndC.mk (fun h => ?_) (fun h => ?_)
    · have hk' : k < xs.length := by simpa using h
      simp only [go_sem, Nat.reduceAdd, Nat.reduceSub, Nat.reduceMul, Nat.reduceLT, Nat.reduceLeDiff, Nat.reduceEqDiff, Nat.succ_ne_zero, reduceIte, map_at _ hk']
      refine CallK.mk _ (by simpa only [go_sem] using hx xs[k] (List.getElem_mem hk') m hm0) fun _ => ?_
      simp only [go_sem, Nat.reduceAdd, Nat.reduceSub, Nat.reduceMul, Nat.reduceLT, Nat.reduceLeDiff, Nat.reduceEqDiff, Nat.succ_ne_zero, reduceIte]
      rw [List.drop_eq_getElem_cons hk'] at hm
      simp only [szL] at hm
      refine cndC.mk (fun h => ?_) (fun h => ?_)
      · have h' : szPred xs[k] m < 0 := by simpa using h
        simp only [go_sem, Nat.reduceAdd, Nat.reduceSub, Nat.reduceMul, Nat.reduceLT, Nat.reduceLeDiff, Nat.reduceEqDiff, Nat.succ_ne_zero, reduceIte]
        rw [sq_neg h'] at hm
        rw [hm]
      · have h' : ¬ szPred xs[k] m < 0 := by simpa using h
        rw [sq_pos h'] at hm
        simp only [go_sem, Nat.reduceAdd, Nat.reduceSub, Nat.reduceMul, Nat.reduceLT, Nat.reduceLeDiff, Nat.reduceEqDiff, Nat.succ_ne_zero, reduceIte, wrap_i64 (n := (k : Int) + 1) (by omega) (by omega)]
        exact ⟨(k + 1, szPred xs[k] m), ⟨rfl, rfl⟩, rfl, ⟨by simp only; omega, (by omega : (0 : Int) ≤ szPred xs[k] m), hm⟩, by simp only; omega⟩
    · have hk' : k = xs.length := by simp at h; omega
      subst hk'
      simp only [go_sem, Nat.reduceAdd, Nat.reduceSub, Nat.reduceMul, Nat.reduceLT, Nat.reduceLeDiff, Nat.reduceEqDiff, Nat.succ_ne_zero, reduceIte]
      simp [szL] at hm
      rw [hm]
theorem szPred_of (d : DPred) (hx : ∀ x ∈ d.l, ∀ l, 0 ≤ l → Ctr Try.prog 49 [.agg x.c, .c (.v (.int .i64 l))] [.val (.c (.v (.int .i64 (szPred x l))))]) (l : Int) (hl : 0 ≤ l) : Ctr Try.prog 49 [.agg d.c, .c (.v (.int .i64 l))] [.val (.c (.v (.int .i64 (szPred d l))))] := by
  refine Ctr.mk (fn := Try.f49) Try.call49 Try.func49 rfl mixed Try.ntmps49 Try.results49 (by kernel_rfl) rfl fun hw => ?_
  rw [szPred_eq]
  simp only [go_sem, Nat.reduceAdd, Nat.reduceSub, Nat.reduceMul, Nat.reduceLT, Nat.reduceLeDiff, Nat.reduceEqDiff, Nat.succ_ne_zero, reduceIte]
  refine CallK.mk _ (by simpa only [go_sem] using szVal_spec d.v _ (by omega)) fun _ => ?_
  simp only [go_sem, Nat.reduceAdd, Nat.reduceSub, Nat.reduceMul, Nat.reduceLT, Nat.reduceLeDiff, Nat.reduceEqDiff, Nat.succ_ne_zero, reduceIte]
  refine cndC.mk (fun h => ?_) (fun h => ?_)
  · have h0 : szVal d.v (l) < 0 := by simpa using h
    simp only [go_sem, Nat.reduceAdd, Nat.reduceSub, Nat.reduceMul, Nat.reduceLT, Nat.reduceLeDiff, Nat.reduceEqDiff, Nat.succ_ne_zero, reduceIte]
    simp [sq, h0]
  · have h0 : ¬ szVal d.v (l) < 0 := by simpa using h
    simp only [go_sem, Nat.reduceAdd, Nat.reduceSub, Nat.reduceMul, Nat.reduceLT, Nat.reduceLeDiff, Nat.reduceEqDiff, Nat.succ_ne_zero, reduceIte]
    refine CallK.mk _ (by simpa only [go_sem] using szPredS_of d.l hx _ (by omega)) fun _ => ?_
    simp only [go_sem, Nat.reduceAdd, Nat.reduceSub, Nat.reduceMul, Nat.reduceLT, Nat.reduceLeDiff, Nat.reduceEqDiff, Nat.succ_ne_zero, reduceIte]
    refine cndC.mk (fun h => ?_) (fun h => ?_)
    · have h1 : szS szPred d.l (szVal d.v (l)) < 0 := by simpa using h
      simp only [go_sem, Nat.reduceAdd, Nat.reduceSub, Nat.reduceMul, Nat.reduceLT, Nat.reduceLeDiff, Nat.reduceEqDiff, Nat.succ_ne_zero, reduceIte]
      simp [sq, h0, h1]
    · have h1 : ¬ szS szPred d.l (szVal d.v (l)) < 0 := by simpa using h
      simp only [go_sem, Nat.reduceAdd, Nat.reduceSub, Nat.reduceMul, Nat.reduceLT, Nat.reduceLeDiff, Nat.reduceEqDiff, Nat.succ_ne_zero, reduceIte]
      simp [sq, h0, h1]
theorem szPred_fuel : ∀ (n : Nat) (d : DPred), SizeOf.sizeOf d ≤ n → ∀ l, 0 ≤ l → Ctr Try.prog 49 [.agg d.c, .c (.v (.int .i64 l))] [.val (.c (.v (.int .i64 (szPred d l))))]
  | 0, d, h => by cases d; simp at h
  | n + 1, d, h => szPred_of d fun x hx => szPred_fuel n x (by
    have h1 : SizeOf.sizeOf x < SizeOf.sizeOf d.l := List.sizeOf_lt_of_mem hx
    have h2 : SizeOf.sizeOf d.l < SizeOf.sizeOf d := by cases d; simp [DPred.l]; omega
    omega)
theorem szPred_spec (d : DPred) (l : Int) (hl : 0 ≤ l) : Ctr Try.prog 49 [.agg d.c, .c (.v (.int .i64 l))] [.val (.c (.v (.int .i64 (szPred d l))))] := szPred_fuel _ d (Nat.le_refl _) l hl
theorem szPredS_spec (xs : List DPred) (l : Int) (hl : 0 ≤ l) : Ctr Try.prog 56 [.c (.sl (xs.map DPred.c)), .c (.v (.int .i64 l))] [.val (.c (.v (.int .i64 (szS szPred xs l))))] := szPredS_of xs (fun x _ l hl => szPred_spec x l hl) l hl
theorem szQuery_spec (d : DQuery) (l : Int) (hl : 0 ≤ l) : Ctr Try.prog 38 [.agg d.c, .c (.v (.int .i64 l))] [.val (.c (.v (.int .i64 (szQuery d l))))] := by
  refine Ctr.mk (fn := Try.f38) Try.call38 Try.func38 rfl mixed Try.ntmps38 Try.results38 (by kernel_rfl) rfl fun hw => ?_
  rw [szQuery_eq]
  simp only [go_sem, Nat.reduceAdd, Nat.reduceSub, Nat.reduceMul, Nat.reduceLT, Nat.reduceLeDiff, Nat.reduceEqDiff, Nat.succ_ne_zero, reduceIte]
  refine CallK.mk _ (by simpa only [go_sem] using szPred_spec d.p _ (by omega)) fun _ => ?_
  simp only [go_sem, Nat.reduceAdd, Nat.reduceSub, Nat.reduceMul, Nat.reduceLT, Nat.reduceLeDiff, Nat.reduceEqDiff, Nat.succ_ne_zero, reduceIte]
  refine cndC.mk (fun h => ?_) (fun h => ?_)
  · have h0 : szPred d.p (l) < 0 := by simpa using h
    simp only [go_sem, Nat.reduceAdd, Nat.reduceSub, Nat.reduceMul, Nat.reduceLT, Nat.reduceLeDiff, Nat.reduceEqDiff, Nat.succ_ne_zero, reduceIte]
    simp [sq, h0]
  · have h0 : ¬ szPred d.p (l) < 0 := by simpa using h
    simp only [go_sem, Nat.reduceAdd, Nat.reduceSub, Nat.reduceMul, Nat.reduceLT, Nat.reduceLeDiff, Nat.reduceEqDiff, Nat.succ_ne_zero, reduceIte]
    refine CallK.mk _ (by simpa only [go_sem] using szIntS_spec d.out _ (by omega)) fun _ => ?_
    simp only [go_sem, Nat.reduceAdd, Nat.reduceSub, Nat.reduceMul, Nat.reduceLT, Nat.reduceLeDiff, Nat.reduceEqDiff, Nat.succ_ne_zero, reduceIte]
    refine cndC.mk (fun h => ?_) (fun h => ?_)
    · have h1 : szI d.out.length (szPred d.p (l)) < 0 := by simpa using h
      simp only [go_sem, Nat.reduceAdd, Nat.reduceSub, Nat.reduceMul, Nat.reduceLT, Nat.reduceLeDiff, Nat.reduceEqDiff, Nat.succ_ne_zero, reduceIte]
      simp [sq, h0, h1]
    · have h1 : ¬ szI d.out.length (szPred d.p (l)) < 0 := by simpa using h
      simp only [go_sem, Nat.reduceAdd, Nat.reduceSub, Nat.reduceMul, Nat.reduceLT, Nat.reduceLeDiff, Nat.reduceEqDiff, Nat.succ_ne_zero, reduceIte]
      simp [sq, h0, h1]
theorem szResult_spec (d : DResult) (l : Int) (hl : 0 ≤ l) : Ctr Try.prog 39 [.agg d.c, .c (.v (.int .i64 l))] [.val (.c (.v (.int .i64 (szResult d l))))] := by
  refine Ctr.mk (fn := Try.f39) Try.call39 Try.func39 rfl mixed Try.ntmps39 Try.results39 (by kernel_rfl) rfl fun hw => ?_
  rw [szResult_eq]
  simp only [go_sem, Nat.reduceAdd, Nat.reduceSub, Nat.reduceMul, Nat.reduceLT, Nat.reduceLeDiff, Nat.reduceEqDiff, Nat.succ_ne_zero, reduceIte]
  refine CallK.mk _ (by simpa only [go_sem] using szRowS_spec d.rows _ (by omega)) fun _ => ?_
  simp only [go_sem, Nat.reduceAdd, Nat.reduceSub, Nat.reduceMul, Nat.reduceLT, Nat.reduceLeDiff, Nat.reduceEqDiff, Nat.succ_ne_zero, reduceIte]
  refine cndC.mk (fun h => ?_) (fun h => ?_)
  · have h0 : szS szRow d.rows (l) < 0 := by simpa using h
    simp only [go_sem, Nat.reduceAdd, Nat.reduceSub, Nat.reduceMul, Nat.reduceLT, Nat.reduceLeDiff, Nat.reduceEqDiff, Nat.succ_ne_zero, reduceIte]
    simp [sq, h0]
  · have h0 : ¬ szS szRow d.rows (l) < 0 := by simpa using h
    simp only [go_sem, Nat.reduceAdd, Nat.reduceSub, Nat.reduceMul, Nat.reduceLT, Nat.reduceLeDiff, Nat.reduceEqDiff, Nat.succ_ne_zero, reduceIte]
    refine CallK.mk _ (by simpa only [go_sem] using szVal_spec d.v _ (by omega)) fun _ => ?_
    simp only [go_sem, Nat.reduceAdd, Nat.reduceSub, Nat.reduceMul, Nat.reduceLT, Nat.reduceLeDiff, Nat.reduceEqDiff, Nat.succ_ne_zero, reduceIte]
    refine cndC.mk (fun h => ?_) (fun h => ?_)
    · have h1 : szVal d.v (szS szRow d.rows (l)) < 0 := by simpa using h
      simp only [go_sem, Nat.reduceAdd, Nat.reduceSub, Nat.reduceMul, Nat.reduceLT, Nat.reduceLeDiff, Nat.reduceEqDiff, Nat.succ_ne_zero, reduceIte]
      simp [sq, h0, h1]
    · have h1 : ¬ szVal d.v (szS szRow d.rows (l)) < 0 := by simpa using h
      simp only [go_sem, Nat.reduceAdd, Nat.reduceSub, Nat.reduceMul, Nat.reduceLT, Nat.reduceLeDiff, Nat.reduceEqDiff, Nat.succ_ne_zero, reduceIte]
      simp [sq, h0, h1]
theorem szDeed_spec (d : DDeed) (l : Int) (hl : 0 ≤ l) : Ctr Try.prog 25 [.agg d.c, .c (.v (.int .i64 l))] [.val (.c (.v (.int .i64 (szDeed d l))))] := by
  refine Ctr.mk (fn := Try.f25) Try.call25 Try.func25 rfl mixed Try.ntmps25 Try.results25 (by kernel_rfl) rfl fun hw => ?_
  rw [szDeed_eq]
  simp only [go_sem, Nat.reduceAdd, Nat.reduceSub, Nat.reduceMul, Nat.reduceLT, Nat.reduceLeDiff, Nat.reduceEqDiff, Nat.succ_ne_zero, reduceIte]
  refine CallK.mk _ (by simpa only [go_sem] using szValS_spec d.r _ (by omega)) fun _ => ?_
  simp only [go_sem, Nat.reduceAdd, Nat.reduceSub, Nat.reduceMul, Nat.reduceLT, Nat.reduceLeDiff, Nat.reduceEqDiff, Nat.succ_ne_zero, reduceIte]
  refine cndC.mk (fun h => ?_) (fun h => ?_)
  · have h0 : szS szVal d.r (l) < 0 := by simpa using h
    simp only [go_sem, Nat.reduceAdd, Nat.reduceSub, Nat.reduceMul, Nat.reduceLT, Nat.reduceLeDiff, Nat.reduceEqDiff, Nat.succ_ne_zero, reduceIte]
    simp [sq, h0]
  · have h0 : ¬ szS szVal d.r (l) < 0 := by simpa using h
    simp only [go_sem, Nat.reduceAdd, Nat.reduceSub, Nat.reduceMul, Nat.reduceLT, Nat.reduceLeDiff, Nat.reduceEqDiff, Nat.succ_ne_zero, reduceIte]
    refine CallK.mk _ (by simpa only [go_sem] using szQuery_spec d.q _ (by omega)) fun _ => ?_
    simp only [go_sem, Nat.reduceAdd, Nat.reduceSub, Nat.reduceMul, Nat.reduceLT, Nat.reduceLeDiff, Nat.reduceEqDiff, Nat.succ_ne_zero, reduceIte]
    refine cndC.mk (fun h => ?_) (fun h => ?_)
    · have h1 : szQuery d.q (szS szVal d.r (l)) < 0 := by simpa using h
      simp only [go_sem, Nat.reduceAdd, Nat.reduceSub, Nat.reduceMul, Nat.reduceLT, Nat.reduceLeDiff, Nat.reduceEqDiff, Nat.succ_ne_zero, reduceIte]
      simp [sq, h0, h1]
    · have h1 : ¬ szQuery d.q (szS szVal d.r (l)) < 0 := by simpa using h
      simp only [go_sem, Nat.reduceAdd, Nat.reduceSub, Nat.reduceMul, Nat.reduceLT, Nat.reduceLeDiff, Nat.reduceEqDiff, Nat.succ_ne_zero, reduceIte]
      refine CallK.mk _ (by simpa only [go_sem] using szResult_spec d.res _ (by omega)) fun _ => ?_
      simp only [go_sem, Nat.reduceAdd, Nat.reduceSub, Nat.reduceMul, Nat.reduceLT, Nat.reduceLeDiff, Nat.reduceEqDiff, Nat.succ_ne_zero, reduceIte]
      refine cndC.mk (fun h => ?_) (fun h => ?_)
      · have h2 : szResult d.res (szQuery d.q (szS szVal d.r (l))) < 0 := by simpa using h
        simp only [go_sem, Nat.reduceAdd, Nat.reduceSub, Nat.reduceMul, Nat.reduceLT, Nat.reduceLeDiff, Nat.reduceEqDiff, Nat.succ_ne_zero, reduceIte]
        simp [sq, h0, h1, h2]
      · have h2 : ¬ szResult d.res (szQuery d.q (szS szVal d.r (l))) < 0 := by simpa using h
        simp only [go_sem, Nat.reduceAdd, Nat.reduceSub, Nat.reduceMul, Nat.reduceLT, Nat.reduceLeDiff, Nat.reduceEqDiff, Nat.succ_ne_zero, reduceIte]
        simp [sq, h0, h1, h2]
theorem szDeedS_of (xs : List DDeed) (hx : ∀ x ∈ xs, ∀ l, 0 ≤ l → Ctr Try.prog 25 [.agg x.c, .c (.v (.int .i64 l))] [.val (.c (.v (.int .i64 (szDeed x l))))]) (l : Int) (hl : 0 ≤ l) : Ctr Try.prog 10 [.c (.sl (xs.map DDeed.c)), .c (.v (.int .i64 l))] [.val (.c (.v (.int .i64 (szS szDeed xs l))))] := by
  refine Ctr.mk (fn := Try.f10) Try.call10 Try.func10 rfl mixed Try.ntmps10 Try.results10 (by kernel_rfl) rfl fun hw => ?_
  have hlen : xs.length ≤ 9223372036854775807 := by have := hw.1.1; simpa [Go.maxLen] using this
  have hl2 : l ≤ 9223372036854775807 := i64_le hw.2.1
  simp only [go_sem, Nat.reduceAdd, Nat.reduceSub, Nat.reduceMul, Nat.reduceLT, Nat.reduceLeDiff, Nat.reduceEqDiff, Nat.succ_ne_zero, reduceIte, List.length_map, wrap_i64 (n := l - xs.length) (by omega) (by omega)]
  refine cndC.mk (fun h => ?_) (fun h => ?_)
  · have h' : l - xs.length < 0 := by simpa using h
    simp only [go_sem, Nat.reduceAdd, Nat.reduceSub, Nat.reduceMul, Nat.reduceLT, Nat.reduceLeDiff, Nat.reduceEqDiff, Nat.succ_ne_zero, reduceIte]
    simp [szS, sq, szI, h']
  · have h' : ¬ l - xs.length < 0 := by simpa using h
    simp only [go_sem, Nat.reduceAdd, Nat.reduceSub, Nat.reduceMul, Nat.reduceLT, Nat.reduceLeDiff, Nat.reduceEqDiff, Nat.succ_ne_zero, reduceIte]
    refine LoopK.mk 0 [0, 1, 5] (A := Nat × Int) (fun x => ⟨27, [(0, .c (.sl (xs.map DDeed.c))), (1, .c (.v (.int .i64 x.2))), (5, .c (.v (.int .i64 x.1)))], []⟩) (fun x => x.1 ≤ xs.length ∧ 0 ≤ x.2 ∧ szL szDeed (xs.drop x.1) x.2 = szS szDeed xs l) (fun x => xs.length - x.1)
      (0, l - xs.length) ⟨⟨rfl, rfl⟩, rfl, Nat.zero_le _, by simp only; omega, by simp [szS, sq, szI, h']⟩ ?_
    rintro ⟨k, m⟩ ⟨hk, hm0, hm⟩
    simp only at hk hm hm0
    simp only [go_sem, Nat.reduceAdd, Nat.reduceSub, Nat.reduceMul, Nat.reduceLT, Nat.reduceLeDiff, Nat.reduceEqDiff, Nat.succ_ne_zero, reduceIte, List.length_map]
    refine cndC.mk (fun h => ?_) (fun h => ?_)
    · have hk' : k < xs.length := by simpa using h
      simp only [go_sem, Nat.reduceAdd, Nat.reduceSub, Nat.reduceMul, Nat.reduceLT, Nat.reduceLeDiff, Nat.reduceEqDiff, Nat.succ_ne_zero, reduceIte, map_at _ hk']
      refine CallK.mk _ (by simpa only [go_sem] using hx xs[k] (List.getElem_mem hk') m hm0) fun _ => ?_
      simp only [go_sem, Nat.reduceAdd, Nat.reduceSub, Nat.reduceMul, Nat.reduceLT, Nat.reduceLeDiff, Nat.reduceEqDiff, Nat.succ_ne_zero, reduceIte]
      rw [List.drop_eq_getElem_cons hk'] at hm
      simp only [szL] at hm
      refine cndC.mk (fun h => ?_) (fun h => ?_)
      · have h' : szDeed xs[k] m < 0 := by simpa using h
        simp only [go_sem, Nat.reduceAdd, Nat.reduceSub, Nat.reduceMul, Nat.reduceLT, Nat.reduceLeDiff, Nat.reduceEqDiff, Nat.succ_ne_zero, reduceIte]
        rw [sq_neg h'] at hm
        rw [hm]
      · have h' : ¬ szDeed xs[k] m < 0 := by simpa using h
        rw [sq_pos h'] at hm
        simp only [go_sem, Nat.reduceAdd, Nat.reduceSub, Nat.reduceMul, Nat.reduceLT, Nat.reduceLeDiff, Nat.reduceEqDiff, Nat.succ_ne_zero, reduceIte, wrap_i64 (n := (k : Int) + 1) (by omega) (by omega)]
        exact ⟨(k + 1, szDeed xs[k] m), ⟨rfl, rfl⟩, rfl, ⟨by simp only; omega, (by omega : (0 : Int) ≤ szDeed xs[k] m), hm⟩, by simp only; omega⟩
    · have hk' : k = xs.length := by simp at h; omega
      subst hk'
      simp only [go_sem, Nat.reduceAdd, Nat.reduceSub, Nat.reduceMul, Nat.reduceLT, Nat.reduceLeDiff, Nat.reduceEqDiff, Nat.succ_ne_zero, reduceIte]
      simp [szL] at hm
      rw [hm]
theorem szDeedS_spec (xs : List DDeed) (l : Int) (hl : 0 ≤ l) : Ctr Try.prog 10 [.c (.sl (xs.map DDeed.c)), .c (.v (.int .i64 l))] [.val (.c (.v (.int .i64 (szS szDeed xs l))))] := szDeedS_of xs (fun x _ l hl => szDeed_spec x l hl) l hl
theorem szTable_spec (d : DTable) (l : Int) (hl : 0 ≤ l) : Ctr Try.prog 5 [.agg d.c, .c (.v (.int .i64 l))] [.val (.c (.v (.int .i64 (szTable d l))))] := by
  refine Ctr.mk (fn := Try.f5) Try.call5 Try.func5 rfl mixed Try.ntmps5 Try.results5 (by kernel_rfl) rfl fun hw => ?_
  rw [szTable_eq]
  simp only [go_sem, Nat.reduceAdd, Nat.reduceSub, Nat.reduceMul, Nat.reduceLT, Nat.reduceLeDiff, Nat.reduceEqDiff, Nat.succ_ne_zero, reduceIte]
  refine CallK.mk _ (by simpa only [go_sem] using szIntS_spec d.cols _ (by omega)) fun _ => ?_
  simp only [go_sem, Nat.reduceAdd, Nat.reduceSub, Nat.reduceMul, Nat.reduceLT, Nat.reduceLeDiff, Nat.reduceEqDiff, Nat.succ_ne_zero, reduceIte]
  refine cndC.mk (fun h => ?_) (fun h => ?_)
  · have h0 : szI d.cols.length (l) < 0 := by simpa using h
    simp only [go_sem, Nat.reduceAdd, Nat.reduceSub, Nat.reduceMul, Nat.reduceLT, Nat.reduceLeDiff, Nat.reduceEqDiff, Nat.succ_ne_zero, reduceIte]
    simp [sq, h0]
  · have h0 : ¬ szI d.cols.length (l) < 0 := by simpa using h
    simp only [go_sem, Nat.reduceAdd, Nat.reduceSub, Nat.reduceMul, Nat.reduceLT, Nat.reduceLeDiff, Nat.reduceEqDiff, Nat.succ_ne_zero, reduceIte]
    refine CallK.mk _ (by simpa only [go_sem] using szRowS_spec d.l _ (by omega)) fun _ => ?_
    simp only [go_sem, Nat.reduceAdd, Nat.reduceSub, Nat.reduceMul, Nat.reduceLT, Nat.reduceLeDiff, Nat.reduceEqDiff, Nat.succ_ne_zero, reduceIte]
    refine cndC.mk (fun h => ?_) (fun h => ?_)
    · have h1 : szS szRow d.l (szI d.cols.length (l)) < 0 := by simpa using h
      simp only [go_sem, Nat.reduceAdd, Nat.reduceSub, Nat.reduceMul, Nat.reduceLT, Nat.reduceLeDiff, Nat.reduceEqDiff, Nat.succ_ne_zero, reduceIte]
      simp [sq, h0, h1]
    · have h1 : ¬ szS szRow d.l (szI d.cols.length (l)) < 0 := by simpa using h
      simp only [go_sem, Nat.reduceAdd, Nat.reduceSub, Nat.reduceMul, Nat.reduceLT, Nat.reduceLeDiff, Nat.reduceEqDiff, Nat.succ_ne_zero, reduceIte]
      simp [sq, h0, h1]
theorem toIntS_own (xs : List Int) (hf : xs.length ≤ 1048576) : Ctr Try.prog 19 [.c (.sl (xs.map intC))] [.own 3 1 (xs.map intC) true] := by
  refine Ctr.mk (fn := Try.f19) Try.call19 Try.func19 rfl mixed Try.ntmps19 Try.results19 (by kernel_rfl) rfl fun _ => ?_
  have hc : (0 : Int) ≤ xs.length ∧ (xs.length : Int) ≤ xs.length ∧ (xs.length : Int) ≤ 2147483648 := by omega
  simp only [go_sem, Nat.reduceAdd, Nat.reduceSub, Nat.reduceMul, Nat.reduceLT, Nat.reduceLeDiff, Nat.reduceEqDiff, Nat.succ_ne_zero, reduceIte, List.length_map, hc, List.length_replicate]
  have hg := fun k => @trim1_grow _ intC intC.pure [.v (.int .i64 0)] rfl xs k 3 1 true true
  refine LoopK.mk 1 [0, 3, 4] (A := Nat) (fun k => ⟨22, [(0, .c (.sl (xs.map intC))), (3, .c (.ref 0)), (4, .c (.v (.int .i64 k)))], [⟨3, 1, grow (xs.map intC) [.v (.int .i64 0)] k, true, true⟩]⟩) (fun k => k ≤ xs.length) (fun k => xs.length - k) 0 ⟨⟨rfl, by have := hg 0; simp only [grow_zero, List.length_map] at this; exact this⟩, by simp only [grow_zero, List.length_map]; rfl, Nat.zero_le _⟩ ?_
  intro k hk
  simp only [go_sem, Nat.reduceAdd, Nat.reduceSub, Nat.reduceMul, Nat.reduceLT, Nat.reduceLeDiff, Nat.reduceEqDiff, Nat.succ_ne_zero, reduceIte, List.length_map]
  refine cndC.mk (fun h => ?_) (fun h => ?_)
  · have hk' : k < xs.length := by simpa using h
    have hset := @grow_setm _ intC xs [.v (.int .i64 0)] k hk'
    simp only [go_sem] at hset
    simp only [go_sem, Nat.reduceAdd, Nat.reduceSub, Nat.reduceMul, Nat.reduceLT, Nat.reduceLeDiff, Nat.reduceEqDiff, Nat.succ_ne_zero, reduceIte, map_at _ hk', grow_lenm hk, grow_atm hk', hk', hset, wrap_i64 (n := (k : Int) + 1) (by omega) (by omega)]
    exact ⟨k + 1, ⟨rfl, hg _⟩, rfl, by omega, by first | omega | (simp only; omega)⟩
  · have hk' : k = xs.length := by simp at h; omega
    subst hk'
    rw [grow_allm]
    simp only [go_sem, Nat.reduceAdd, Nat.reduceSub, Nat.reduceMul, Nat.reduceLT, Nat.reduceLeDiff, Nat.reduceEqDiff, Nat.succ_ne_zero, reduceIte]
    simp [pureE_map intC.pure]
theorem toIntS_spec (xs : List Int) (hf : xs.length ≤ 1048576) : Ctr Try.prog 19 [.c (.sl (xs.map intC))] [.val (.c (.sl (xs.map intC)))] := (toIntS_own xs hf).val
theorem toVal_spec (d : DVal) (hf : fitVal d) : Ctr Try.prog 50 [.agg d.c] [.val (.agg d.c)] := by
  rw [fitVal_eq] at hf
  have f0 := hf
  refine Ctr.mk (fn := Try.f50) Try.call50 Try.func50 rfl mixed Try.ntmps50 Try.results50 (by kernel_rfl) rfl fun _ => ?_
  simp only [go_sem, Nat.reduceAdd, Nat.reduceSub, Nat.reduceMul, Nat.reduceLT, Nat.reduceLeDiff, Nat.reduceEqDiff, Nat.succ_ne_zero, reduceIte]
theorem toValS_own (xs : List DVal) (hf : xs.length ≤ 1048576) (hx : ∀ x ∈ xs, Ctr Try.prog 50 [.agg x.c] [.val (.agg x.c)]) : Ctr Try.prog 40 [.c (.sl (xs.map DVal.c))] [.own 66 3 (xs.map DVal.c) true] := by
  refine Ctr.mk (fn := Try.f40) Try.call40 Try.func40 rfl mixed Try.ntmps40 Try.results40 (by kernel_rfl) rfl fun _ => ?_
  have hc : (0 : Int) ≤ xs.length ∧ (xs.length : Int) ≤ xs.length ∧ (xs.length : Int) ≤ 2147483648 := by omega
  simp only [go_sem, Nat.reduceAdd, Nat.reduceSub, Nat.reduceMul, Nat.reduceLT, Nat.reduceLeDiff, Nat.reduceEqDiff, Nat.succ_ne_zero, reduceIte, List.length_map, hc, List.length_replicate]
  have hg := fun k => @trim1_grow _ DVal.c DVal.pure [.v (.int .i64 0), .v (.int .i64 0), .v (.string ByteArray.empty)] rfl xs k 66 3 true true
  refine LoopK.mk 1 [0, 3, 4] (A := Nat) (fun k => ⟨23, [(0, .c (.sl (xs.map DVal.c))), (3, .c (.ref 0)), (4, .c (.v (.int .i64 k)))], [⟨66, 3, grow (xs.map DVal.c) [.v (.int .i64 0), .v (.int .i64 0), .v (.string ByteArray.empty)] k, true, true⟩]⟩) (fun k => k ≤ xs.length) (fun k => xs.length - k) 0 ⟨⟨rfl, by have := hg 0; simp only [grow_zero, List.length_map] at this; exact this⟩, by simp only [grow_zero, List.length_map]; rfl, Nat.zero_le _⟩ ?_
  intro k hk
  simp only [go_sem, Nat.reduceAdd, Nat.reduceSub, Nat.reduceMul, Nat.reduceLT, Nat.reduceLeDiff, Nat.reduceEqDiff, Nat.succ_ne_zero, reduceIte, List.length_map]
  refine cndC.mk (fun h => ?_) (fun h => ?_)
  · have hk' : k < xs.length := by simpa using h
    have hset := @grow_setm _ DVal.c xs [.v (.int .i64 0), .v (.int .i64 0), .v (.string ByteArray.empty)] k hk'
    simp only [go_sem] at hset
    simp only [go_sem, Nat.reduceAdd, Nat.reduceSub, Nat.reduceMul, Nat.reduceLT, Nat.reduceLeDiff, Nat.reduceEqDiff, Nat.succ_ne_zero, reduceIte, map_at _ hk', grow_lenm hk, grow_atm hk', hk', hset, wrap_i64 (n := (k : Int) + 1) (by omega) (by omega)]
    refine CallK.mk _ (by simpa only [go_sem] using hx xs[k] (List.getElem_mem hk')) fun _ => ?_
    simp only [go_sem, Nat.reduceAdd, Nat.reduceSub, Nat.reduceMul, Nat.reduceLT, Nat.reduceLeDiff, Nat.reduceEqDiff, Nat.succ_ne_zero, reduceIte, map_at _ hk', grow_lenm hk, grow_atm hk', hk', hset, wrap_i64 (n := (k : Int) + 1) (by omega) (by omega)]
    exact ⟨k + 1, ⟨rfl, hg _⟩, rfl, by omega, by first | omega | (simp only; omega)⟩
  · have hk' : k = xs.length := by simp at h; omega
    subst hk'
    rw [grow_allm]
    simp only [go_sem, Nat.reduceAdd, Nat.reduceSub, Nat.reduceMul, Nat.reduceLT, Nat.reduceLeDiff, Nat.reduceEqDiff, Nat.succ_ne_zero, reduceIte]
    simp [pureE_map DVal.pure]
theorem toValS_spec (xs : List DVal) (hf : fitS fitVal xs) : Ctr Try.prog 40 [.c (.sl (xs.map DVal.c))] [.val (.c (.sl (xs.map DVal.c)))] := (toValS_own xs hf.1 fun x hx => toVal_spec x (hf.2 x hx)).val
theorem toRow_spec (d : DRow) (hf : fitRow d) : Ctr Try.prog 33 [.agg d.c] [.val (.agg d.c)] := by
  rw [fitRow_eq] at hf
  have f0 := hf
  refine Ctr.mk (fn := Try.f33) Try.call33 Try.func33 rfl mixed Try.ntmps33 Try.results33 (by kernel_rfl) rfl fun _ => ?_
  simp only [go_sem, Nat.reduceAdd, Nat.reduceSub, Nat.reduceMul, Nat.reduceLT, Nat.reduceLeDiff, Nat.reduceEqDiff, Nat.succ_ne_zero, reduceIte]
  refine CallK.mk _ (by simpa only [go_sem] using toValS_spec d.l f0) fun _ => ?_
  simp only [go_sem, Nat.reduceAdd, Nat.reduceSub, Nat.reduceMul, Nat.reduceLT, Nat.reduceLeDiff, Nat.reduceEqDiff, Nat.succ_ne_zero, reduceIte]
theorem toRowS_own (xs : List DRow) (hf : xs.length ≤ 1048576) (hx : ∀ x ∈ xs, Ctr Try.prog 33 [.agg x.c] [.val (.agg x.c)]) : Ctr Try.prog 20 [.c (.sl (xs.map DRow.c))] [.own 46 2 (xs.map DRow.c) true] := by
  refine Ctr.mk (fn := Try.f20) Try.call20 Try.func20 rfl mixed Try.ntmps20 Try.results20 (by kernel_rfl) rfl fun _ => ?_
  have hc : (0 : Int) ≤ xs.length ∧ (xs.length : Int) ≤ xs.length ∧ (xs.length : Int) ≤ 2147483648 := by omega
  simp only [go_sem, Nat.reduceAdd, Nat.reduceSub, Nat.reduceMul, Nat.reduceLT, Nat.reduceLeDiff, Nat.reduceEqDiff, Nat.succ_ne_zero, reduceIte, List.length_map, hc, List.length_replicate]
  have hg := fun k => @trim1_grow _ DRow.c DRow.pure [.v (.int .i64 0), .v (.slice none 0 0)] rfl xs k 46 2 true true
  refine LoopK.mk 1 [0, 3, 4] (A := Nat) (fun k => ⟨23, [(0, .c (.sl (xs.map DRow.c))), (3, .c (.ref 0)), (4, .c (.v (.int .i64 k)))], [⟨46, 2, grow (xs.map DRow.c) [.v (.int .i64 0), .v (.slice none 0 0)] k, true, true⟩]⟩) (fun k => k ≤ xs.length) (fun k => xs.length - k) 0 ⟨⟨rfl, by have := hg 0; simp only [grow_zero, List.length_map] at this; exact this⟩, by simp only [grow_zero, List.length_map]; rfl, Nat.zero_le _⟩ ?_
  intro k hk
  simp only [go_sem, Nat.reduceAdd, Nat.reduceSub, Nat.reduceMul, Nat.reduceLT, Nat.reduceLeDiff, Nat.reduceEqDiff, Nat.succ_ne_zero, reduceIte, List.length_map]
  refine cndC.mk (fun h => ?_) (fun h => ?_)
  · have hk' : k < xs.length := by simpa using h
    have hset := @grow_setm _ DRow.c xs [.v (.int .i64 0), .v (.slice none 0 0)] k hk'
    simp only [go_sem] at hset
    simp only [go_sem, Nat.reduceAdd, Nat.reduceSub, Nat.reduceMul, Nat.reduceLT, Nat.reduceLeDiff, Nat.reduceEqDiff, Nat.succ_ne_zero, reduceIte, map_at _ hk', grow_lenm hk, grow_atm hk', hk', hset, wrap_i64 (n := (k : Int) + 1) (by omega) (by omega)]
    refine CallK.mk _ (by simpa only [go_sem] using hx xs[k] (List.getElem_mem hk')) fun _ => ?_
    simp only [go_sem, Nat.reduceAdd, Nat.reduceSub, Nat.reduceMul, Nat.reduceLT, Nat.reduceLeDiff, Nat.reduceEqDiff, Nat.succ_ne_zero, reduceIte, map_at _ hk', grow_lenm hk, grow_atm hk', hk', hset, wrap_i64 (n := (k : Int) + 1) (by omega) (by omega)]
    exact ⟨k + 1, ⟨rfl, hg _⟩, rfl, by omega, by first | omega | (simp only; omega)⟩
  · have hk' : k = xs.length := by simp at h; omega
    subst hk'
    rw [grow_allm]
    simp only [go_sem, Nat.reduceAdd, Nat.reduceSub, Nat.reduceMul, Nat.reduceLT, Nat.reduceLeDiff, Nat.reduceEqDiff, Nat.succ_ne_zero, reduceIte]
    simp [pureE_map DRow.pure]
theorem toRowS_spec (xs : List DRow) (hf : fitS fitRow xs) : Ctr Try.prog 20 [.c (.sl (xs.map DRow.c))] [.val (.c (.sl (xs.map DRow.c)))] := (toRowS_own xs hf.1 fun x hx => toRow_spec x (hf.2 x hx)).val
theorem toPredS_own (xs : List DPred) (hf : xs.length ≤ 1048576) (hx : ∀ x ∈ xs, Ctr Try.prog 51 [.agg x.c] [.val (.agg x.c)]) : Ctr Try.prog 57 [.c (.sl (xs.map DPred.c))] [.own 69 7 (xs.map DPred.c) true] := by
  refine Ctr.mk (fn := Try.f57) Try.call57 Try.func57 rfl mixed Try.ntmps57 Try.results57 (by kernel_rfl) rfl fun _ => ?_
  have hc : (0 : Int) ≤ xs.length ∧ (xs.length : Int) ≤ xs.length ∧ (xs.length : Int) ≤ 2147483648 := by omega
  simp only [go_sem, Nat.reduceAdd, Nat.reduceSub, Nat.reduceMul, Nat.reduceLT, Nat.reduceLeDiff, Nat.reduceEqDiff, Nat.succ_ne_zero, reduceIte, List.length_map, hc, List.length_replicate]
  have hg := fun k => @trim1_grow _ DPred.c DPred.pure [.v (.int .i64 0), .v (.int .i64 0), .v (.int .i64 0), .v (.int .i64 0), .v (.int .i64 0), .v (.string ByteArray.empty), .v (.slice none 0 0)] rfl xs k 69 7 true true
  refine LoopK.mk 1 [0, 3, 4] (A := Nat) (fun k => ⟨23, [(0, .c (.sl (xs.map DPred.c))), (3, .c (.ref 0)), (4, .c (.v (.int .i64 k)))], [⟨69, 7, grow (xs.map DPred.c) [.v (.int .i64 0), .v (.int .i64 0), .v (.int .i64 0), .v (.int .i64 0), .v (.int .i64 0), .v (.string ByteArray.empty), .v (.slice none 0 0)] k, true, true⟩]⟩) (fun k => k ≤ xs.length) (fun k => xs.length - k) 0 ⟨⟨rfl, by have := hg 0; simp only [grow_zero, List.length_map] at this; exact this⟩, by simp only [grow_zero, List.length_map]; rfl, Nat.zero_le _⟩ ?_
  intro k hk
  simp only [go_sem, Nat.reduceAdd, Nat.reduceSub, Nat.reduceMul, Nat.reduceLT, Nat.reduceLeDiff, Nat.reduceEqDiff, Nat.succ_ne_zero, reduceIte, List.length_map]
  refine cndC.mk (fun h => ?_) (fun h => ?_)
  · have hk' : k < xs.length := by simpa using h
    have hset := @grow_setm _ DPred.c xs [.v (.int .i64 0), .v (.int .i64 0), .v (.int .i64 0), .v (.int .i64 0), .v (.int .i64 0), .v (.string ByteArray.empty), .v (.slice none 0 0)] k hk'
    simp only [go_sem] at hset
    simp only [go_sem, Nat.reduceAdd, Nat.reduceSub, Nat.reduceMul, Nat.reduceLT, Nat.reduceLeDiff, Nat.reduceEqDiff, Nat.succ_ne_zero, reduceIte, map_at _ hk', grow_lenm hk, grow_atm hk', hk', hset, wrap_i64 (n := (k : Int) + 1) (by omega) (by omega)]
    refine CallK.mk _ (by simpa only [go_sem] using hx xs[k] (List.getElem_mem hk')) fun _ => ?_
    simp only [go_sem, Nat.reduceAdd, Nat.reduceSub, Nat.reduceMul, Nat.reduceLT, Nat.reduceLeDiff, Nat.reduceEqDiff, Nat.succ_ne_zero, reduceIte, map_at _ hk', grow_lenm hk, grow_atm hk', hk', hset, wrap_i64 (n := (k : Int) + 1) (by omega) (by omega)]
    exact ⟨k + 1, ⟨rfl, hg _⟩, rfl, by omega, by first | omega | (simp only; omega)⟩
  · have hk' : k = xs.length := by simp at h; omega
    subst hk'
    rw [grow_allm]
    simp only [go_sem, Nat.reduceAdd, Nat.reduceSub, Nat.reduceMul, Nat.reduceLT, Nat.reduceLeDiff, Nat.reduceEqDiff, Nat.succ_ne_zero, reduceIte]
    simp [pureE_map DPred.pure]
theorem toPred_of (d : DPred) (hf : fitPred d) (hx : ∀ x ∈ d.l, Ctr Try.prog 51 [.agg x.c] [.val (.agg x.c)]) : Ctr Try.prog 51 [.agg d.c] [.val (.agg d.c)] := by
  rw [fitPred_eq] at hf
  obtain ⟨f0, f1⟩ := hf
  refine Ctr.mk (fn := Try.f51) Try.call51 Try.func51 rfl mixed Try.ntmps51 Try.results51 (by kernel_rfl) rfl fun _ => ?_
  simp only [go_sem, Nat.reduceAdd, Nat.reduceSub, Nat.reduceMul, Nat.reduceLT, Nat.reduceLeDiff, Nat.reduceEqDiff, Nat.succ_ne_zero, reduceIte]
  refine CallK.mk _ (by simpa only [go_sem] using toVal_spec d.v f0) fun _ => ?_
  simp only [go_sem, Nat.reduceAdd, Nat.reduceSub, Nat.reduceMul, Nat.reduceLT, Nat.reduceLeDiff, Nat.reduceEqDiff, Nat.succ_ne_zero, reduceIte]
  refine CallK.mk _ (by simpa only [go_sem] using (toPredS_own d.l f1.1 hx).val) fun _ => ?_
  simp only [go_sem, Nat.reduceAdd, Nat.reduceSub, Nat.reduceMul, Nat.reduceLT, Nat.reduceLeDiff, Nat.reduceEqDiff, Nat.succ_ne_zero, reduceIte]
theorem toPred_fuel : ∀ (n : Nat) (d : DPred), SizeOf.sizeOf d ≤ n → fitPred d → Ctr Try.prog 51 [.agg d.c] [.val (.agg d.c)]
  | 0, d, h, _ => by cases d; simp at h
  | n + 1, d, h, hf => toPred_of d hf fun x hx => toPred_fuel n x (by
    have h1 : SizeOf.sizeOf x < SizeOf.sizeOf d.l := List.sizeOf_lt_of_mem hx
    have h2 : SizeOf.sizeOf d.l < SizeOf.sizeOf d := by cases d; simp [DPred.l]; omega
    omega) (by rw [fitPred_eq] at hf; exact (hf.2).2 x hx)
theorem toPred_spec (d : DPred) (hf : fitPred d) : Ctr Try.prog 51 [.agg d.c] [.val (.agg d.c)] := toPred_fuel _ d (Nat.le_refl _) hf
theorem toPredS_spec (xs : List DPred) (hf : fitS fitPred xs) : Ctr Try.prog 57 [.c (.sl (xs.map DPred.c))] [.val (.c (.sl (xs.map DPred.c)))] := (toPredS_own xs hf.1 fun x hx => toPred_spec x (hf.2 x hx)).val
theorem toQuery_spec (d : DQuery) (hf : fitQuery d) : Ctr Try.prog 41 [.agg d.c] [.val (.agg d.c)] := by
  rw [fitQuery_eq] at hf
  obtain ⟨f0, f1⟩ := hf
  refine Ctr.mk (fn := Try.f41) Try.call41 Try.func41 rfl mixed Try.ntmps41 Try.results41 (by kernel_rfl) rfl fun _ => ?_
  simp only [go_sem, Nat.reduceAdd, Nat.reduceSub, Nat.reduceMul, Nat.reduceLT, Nat.reduceLeDiff, Nat.reduceEqDiff, Nat.succ_ne_zero, reduceIte]
  refine CallK.mk _ (by simpa only [go_sem] using toPred_spec d.p f0) fun _ => ?_
  simp only [go_sem, Nat.reduceAdd, Nat.reduceSub, Nat.reduceMul, Nat.reduceLT, Nat.reduceLeDiff, Nat.reduceEqDiff, Nat.succ_ne_zero, reduceIte]
  refine CallK.mk _ (by simpa only [go_sem] using toIntS_spec d.out f1) fun _ => ?_
  simp only [go_sem, Nat.reduceAdd, Nat.reduceSub, Nat.reduceMul, Nat.reduceLT, Nat.reduceLeDiff, Nat.reduceEqDiff, Nat.succ_ne_zero, reduceIte]
theorem toResult_spec (d : DResult) (hf : fitResult d) : Ctr Try.prog 42 [.agg d.c] [.val (.agg d.c)] := by
  rw [fitResult_eq] at hf
  obtain ⟨f0, f1⟩ := hf
  refine Ctr.mk (fn := Try.f42) Try.call42 Try.func42 rfl mixed Try.ntmps42 Try.results42 (by kernel_rfl) rfl fun _ => ?_
  simp only [go_sem, Nat.reduceAdd, Nat.reduceSub, Nat.reduceMul, Nat.reduceLT, Nat.reduceLeDiff, Nat.reduceEqDiff, Nat.succ_ne_zero, reduceIte]
  refine CallK.mk _ (by simpa only [go_sem] using toRowS_spec d.rows f0) fun _ => ?_
  simp only [go_sem, Nat.reduceAdd, Nat.reduceSub, Nat.reduceMul, Nat.reduceLT, Nat.reduceLeDiff, Nat.reduceEqDiff, Nat.succ_ne_zero, reduceIte]
  refine CallK.mk _ (by simpa only [go_sem] using toVal_spec d.v f1) fun _ => ?_
  simp only [go_sem, Nat.reduceAdd, Nat.reduceSub, Nat.reduceMul, Nat.reduceLT, Nat.reduceLeDiff, Nat.reduceEqDiff, Nat.succ_ne_zero, reduceIte]
theorem toDeed_spec (d : DDeed) (hf : fitDeed d) : Ctr Try.prog 27 [.agg d.c] [.val (.agg d.c)] := by
  rw [fitDeed_eq] at hf
  obtain ⟨f0, f1, f2⟩ := hf
  refine Ctr.mk (fn := Try.f27) Try.call27 Try.func27 rfl mixed Try.ntmps27 Try.results27 (by kernel_rfl) rfl fun _ => ?_
  simp only [go_sem, Nat.reduceAdd, Nat.reduceSub, Nat.reduceMul, Nat.reduceLT, Nat.reduceLeDiff, Nat.reduceEqDiff, Nat.succ_ne_zero, reduceIte]
  refine CallK.mk _ (by simpa only [go_sem] using toValS_spec d.r f0) fun _ => ?_
  simp only [go_sem, Nat.reduceAdd, Nat.reduceSub, Nat.reduceMul, Nat.reduceLT, Nat.reduceLeDiff, Nat.reduceEqDiff, Nat.succ_ne_zero, reduceIte]
  refine CallK.mk _ (by simpa only [go_sem] using toQuery_spec d.q f1) fun _ => ?_
  simp only [go_sem, Nat.reduceAdd, Nat.reduceSub, Nat.reduceMul, Nat.reduceLT, Nat.reduceLeDiff, Nat.reduceEqDiff, Nat.succ_ne_zero, reduceIte]
  refine CallK.mk _ (by simpa only [go_sem] using toResult_spec d.res f2) fun _ => ?_
  simp only [go_sem, Nat.reduceAdd, Nat.reduceSub, Nat.reduceMul, Nat.reduceLT, Nat.reduceLeDiff, Nat.reduceEqDiff, Nat.succ_ne_zero, reduceIte]
theorem toDeedS_own (xs : List DDeed) (hf : xs.length ≤ 1048576) (hx : ∀ x ∈ xs, Ctr Try.prog 27 [.agg x.c] [.val (.agg x.c)]) : Ctr Try.prog 12 [.c (.sl (xs.map DDeed.c))] [.own 75 25 (xs.map DDeed.c) true] := by
  refine Ctr.mk (fn := Try.f12) Try.call12 Try.func12 rfl mixed Try.ntmps12 Try.results12 (by kernel_rfl) rfl fun _ => ?_
  have hc : (0 : Int) ≤ xs.length ∧ (xs.length : Int) ≤ xs.length ∧ (xs.length : Int) ≤ 2147483648 := by omega
  simp only [go_sem, Nat.reduceAdd, Nat.reduceSub, Nat.reduceMul, Nat.reduceLT, Nat.reduceLeDiff, Nat.reduceEqDiff, Nat.succ_ne_zero, reduceIte, List.length_map, hc, List.length_replicate]
  have hg := fun k => @trim1_grow _ DDeed.c DDeed.pure [.v (.int .i64 0), .v (.int .i64 0), .v (.slice none 0 0), .v (.int .i64 0), .v (.int .i64 0), .v (.int .i64 0), .v (.int .i64 0), .v (.int .i64 0), .v (.int .i64 0), .v (.int .i64 0), .v (.string ByteArray.empty), .v (.slice none 0 0), .v (.int .i64 0), .v (.slice none 0 0), .v (.slice none 0 0), .v (.int .i64 0), .v (.bool false), .v (.int .i64 0), .v (.int .i64 0), .v (.string ByteArray.empty), .v (.int .i64 0), .v (.int .i64 0), .v (.int .i64 0), .v (.int .i64 0), .v (.int .i64 0)] rfl xs k 75 25 true true
  refine LoopK.mk 1 [0, 3, 4] (A := Nat) (fun k => ⟨23, [(0, .c (.sl (xs.map DDeed.c))), (3, .c (.ref 0)), (4, .c (.v (.int .i64 k)))], [⟨75, 25, grow (xs.map DDeed.c) [.v (.int .i64 0), .v (.int .i64 0), .v (.slice none 0 0), .v (.int .i64 0), .v (.int .i64 0), .v (.int .i64 0), .v (.int .i64 0), .v (.int .i64 0), .v (.int .i64 0), .v (.int .i64 0), .v (.string ByteArray.empty), .v (.slice none 0 0), .v (.int .i64 0), .v (.slice none 0 0), .v (.slice none 0 0), .v (.int .i64 0), .v (.bool false), .v (.int .i64 0), .v (.int .i64 0), .v (.string ByteArray.empty), .v (.int .i64 0), .v (.int .i64 0), .v (.int .i64 0), .v (.int .i64 0), .v (.int .i64 0)] k, true, true⟩]⟩) (fun k => k ≤ xs.length) (fun k => xs.length - k) 0 ⟨⟨rfl, by have := hg 0; simp only [grow_zero, List.length_map] at this; exact this⟩, by simp only [grow_zero, List.length_map]; rfl, Nat.zero_le _⟩ ?_
  intro k hk
  simp only [go_sem, Nat.reduceAdd, Nat.reduceSub, Nat.reduceMul, Nat.reduceLT, Nat.reduceLeDiff, Nat.reduceEqDiff, Nat.succ_ne_zero, reduceIte, List.length_map]
  refine cndC.mk (fun h => ?_) (fun h => ?_)
  · have hk' : k < xs.length := by simpa using h
    have hset := @grow_setm _ DDeed.c xs [.v (.int .i64 0), .v (.int .i64 0), .v (.slice none 0 0), .v (.int .i64 0), .v (.int .i64 0), .v (.int .i64 0), .v (.int .i64 0), .v (.int .i64 0), .v (.int .i64 0), .v (.int .i64 0), .v (.string ByteArray.empty), .v (.slice none 0 0), .v (.int .i64 0), .v (.slice none 0 0), .v (.slice none 0 0), .v (.int .i64 0), .v (.bool false), .v (.int .i64 0), .v (.int .i64 0), .v (.string ByteArray.empty), .v (.int .i64 0), .v (.int .i64 0), .v (.int .i64 0), .v (.int .i64 0), .v (.int .i64 0)] k hk'
    simp only [go_sem] at hset
    simp only [go_sem, Nat.reduceAdd, Nat.reduceSub, Nat.reduceMul, Nat.reduceLT, Nat.reduceLeDiff, Nat.reduceEqDiff, Nat.succ_ne_zero, reduceIte, map_at _ hk', grow_lenm hk, grow_atm hk', hk', hset, wrap_i64 (n := (k : Int) + 1) (by omega) (by omega)]
    refine CallK.mk _ (by simpa only [go_sem] using hx xs[k] (List.getElem_mem hk')) fun _ => ?_
    simp only [go_sem, Nat.reduceAdd, Nat.reduceSub, Nat.reduceMul, Nat.reduceLT, Nat.reduceLeDiff, Nat.reduceEqDiff, Nat.succ_ne_zero, reduceIte, map_at _ hk', grow_lenm hk, grow_atm hk', hk', hset, wrap_i64 (n := (k : Int) + 1) (by omega) (by omega)]
    exact ⟨k + 1, ⟨rfl, hg _⟩, rfl, by omega, by first | omega | (simp only; omega)⟩
  · have hk' : k = xs.length := by simp at h; omega
    subst hk'
    rw [grow_allm]
    simp only [go_sem, Nat.reduceAdd, Nat.reduceSub, Nat.reduceMul, Nat.reduceLT, Nat.reduceLeDiff, Nat.reduceEqDiff, Nat.succ_ne_zero, reduceIte]
    simp [pureE_map DDeed.pure]
theorem toDeedS_spec (xs : List DDeed) (hf : fitS fitDeed xs) : Ctr Try.prog 12 [.c (.sl (xs.map DDeed.c))] [.val (.c (.sl (xs.map DDeed.c)))] := (toDeedS_own xs hf.1 fun x hx => toDeed_spec x (hf.2 x hx)).val
theorem toTable_spec (d : DTable) (hf : fitTable d) : Ctr Try.prog 7 [.agg d.c] [.val (.agg d.c)] := by
  rw [fitTable_eq] at hf
  obtain ⟨f0, f1⟩ := hf
  refine Ctr.mk (fn := Try.f7) Try.call7 Try.func7 rfl mixed Try.ntmps7 Try.results7 (by kernel_rfl) rfl fun _ => ?_
  simp only [go_sem, Nat.reduceAdd, Nat.reduceSub, Nat.reduceMul, Nat.reduceLT, Nat.reduceLeDiff, Nat.reduceEqDiff, Nat.succ_ne_zero, reduceIte]
  refine CallK.mk _ (by simpa only [go_sem] using toIntS_spec d.cols f0) fun _ => ?_
  simp only [go_sem, Nat.reduceAdd, Nat.reduceSub, Nat.reduceMul, Nat.reduceLT, Nat.reduceLeDiff, Nat.reduceEqDiff, Nat.succ_ne_zero, reduceIte]
  refine CallK.mk _ (by simpa only [go_sem] using toRowS_spec d.l f1) fun _ => ?_
  simp only [go_sem, Nat.reduceAdd, Nat.reduceSub, Nat.reduceMul, Nat.reduceLT, Nat.reduceLeDiff, Nat.reduceEqDiff, Nat.succ_ne_zero, reduceIte]
theorem eqIntS_spec (xs : List Int) : Ctr Try.prog 23 [.c (.sl (xs.map intC)), .c (.sl (xs.map intC))] [.val (.c (.v (.bool true)))] := by
  refine Ctr.mk (fn := Try.f23) Try.call23 Try.func23 rfl mixed Try.ntmps23 Try.results23 (by kernel_rfl) rfl fun hw => ?_
  have hlen : xs.length ≤ 9223372036854775807 := by have := hw.1.1; simpa [Go.maxLen] using this
  simp only [go_sem, Nat.reduceAdd, Nat.reduceSub, Nat.reduceMul, Nat.reduceLT, Nat.reduceLeDiff, Nat.reduceEqDiff, Nat.succ_ne_zero, reduceIte, List.length_map, bne_self_eq_false, beq_self_eq_true]
  refine LoopK.mk 0 [0, 1, 5] (A := Nat) (fun k => ⟨26, [(0, .c (.sl (xs.map intC))), (1, .c (.sl (xs.map intC))), (5, .c (.v (.int .i64 k)))], []⟩) (fun k => k ≤ xs.length) (fun k => xs.length - k) 0 ⟨⟨rfl, rfl⟩, rfl, Nat.zero_le _⟩ ?_
  intro k hk
  simp only [go_sem, Nat.reduceAdd, Nat.reduceSub, Nat.reduceMul, Nat.reduceLT, Nat.reduceLeDiff, Nat.reduceEqDiff, Nat.succ_ne_zero, reduceIte, List.length_map]
  refine cndC.mk (fun h => ?_) (fun h => ?_)
  · have hk' : k < xs.length := by simpa using h
    simp only [go_sem, Nat.reduceAdd, Nat.reduceSub, Nat.reduceMul, Nat.reduceLT, Nat.reduceLeDiff, Nat.reduceEqDiff, Nat.succ_ne_zero, reduceIte]
    refine DrawK.mk ?_
    simp only [go_sem, Nat.reduceAdd, Nat.reduceSub, Nat.reduceMul, Nat.reduceLT, Nat.reduceLeDiff, Nat.reduceEqDiff, Nat.succ_ne_zero, reduceIte, List.length_map, bne_self_eq_false, beq_self_eq_true, map_at _ hk', hk', wrap_i64 (n := (k : Int) + 1) (by omega) (by omega)]
    exact ⟨k + 1, ⟨rfl, rfl⟩, rfl, by omega, by first | omega | (simp only; omega)⟩
  · simp only [go_sem, Nat.reduceAdd, Nat.reduceSub, Nat.reduceMul, Nat.reduceLT, Nat.reduceLeDiff, Nat.reduceEqDiff, Nat.succ_ne_zero, reduceIte]
theorem eqVal_spec (d : DVal) : Ctr Try.prog 52 [.agg d.c, .agg d.c] [.val (.c (.v (.bool true)))] := by
  refine Ctr.mk (fn := Try.f52) Try.call52 Try.func52 rfl mixed Try.ntmps52 Try.results52 (by kernel_rfl) rfl fun _ => ?_
  simp only [go_sem, Nat.reduceAdd, Nat.reduceSub, Nat.reduceMul, Nat.reduceLT, Nat.reduceLeDiff, Nat.reduceEqDiff, Nat.succ_ne_zero, reduceIte, bne_self_eq_false, beq_self_eq_true]
theorem eqValS_of (xs : List DVal) (hx : ∀ x ∈ xs, Ctr Try.prog 52 [.agg x.c, .agg x.c] [.val (.c (.v (.bool true)))]) : Ctr Try.prog 43 [.c (.sl (xs.map DVal.c)), .c (.sl (xs.map DVal.c))] [.val (.c (.v (.bool true)))] := by
  refine Ctr.mk (fn := Try.f43) Try.call43 Try.func43 rfl mixed Try.ntmps43 Try.results43 (by kernel_rfl) rfl fun hw => ?_
  have hlen : xs.length ≤ 9223372036854775807 := by have := hw.1.1; simpa [Go.maxLen] using this
  simp only [go_sem, Nat.reduceAdd, Nat.reduceSub, Nat.reduceMul, Nat.reduceLT, Nat.reduceLeDiff, Nat.reduceEqDiff, Nat.succ_ne_zero, reduceIte, List.length_map, bne_self_eq_false, beq_self_eq_true]
  refine LoopK.mk 0 [0, 1, 5] (A := Nat) (fun k => ⟨27, [(0, .c (.sl (xs.map DVal.c))), (1, .c (.sl (xs.map DVal.c))), (5, .c (.v (.int .i64 k)))], []⟩) (fun k => k ≤ xs.length) (fun k => xs.length - k) 0 ⟨⟨rfl, rfl⟩, rfl, Nat.zero_le _⟩ ?_
  intro k hk
  simp only [go_sem, Nat.reduceAdd, Nat.reduceSub, Nat.reduceMul, Nat.reduceLT, Nat.reduceLeDiff, Nat.reduceEqDiff, Nat.succ_ne_zero, reduceIte, List.length_map]
  refine cndC.mk (fun h => ?_) (fun h => ?_)
  · have hk' : k < xs.length := by simpa using h
    simp only [go_sem, Nat.reduceAdd, Nat.reduceSub, Nat.reduceMul, Nat.reduceLT, Nat.reduceLeDiff, Nat.reduceEqDiff, Nat.succ_ne_zero, reduceIte]
    refine DrawK.mk ?_
    simp only [go_sem, Nat.reduceAdd, Nat.reduceSub, Nat.reduceMul, Nat.reduceLT, Nat.reduceLeDiff, Nat.reduceEqDiff, Nat.succ_ne_zero, reduceIte, List.length_map, bne_self_eq_false, beq_self_eq_true, map_at _ hk', hk', wrap_i64 (n := (k : Int) + 1) (by omega) (by omega)]
    refine CallF.mk _ (by simpa only [go_sem] using hx xs[k] (List.getElem_mem hk')) ?_
    simp only [go_sem, Nat.reduceAdd, Nat.reduceSub, Nat.reduceMul, Nat.reduceLT, Nat.reduceLeDiff, Nat.reduceEqDiff, Nat.succ_ne_zero, reduceIte, map_at _ hk', wrap_i64 (n := (k : Int) + 1) (by omega) (by omega)]
    exact ⟨k + 1, ⟨rfl, rfl⟩, rfl, by omega, by first | omega | (simp only; omega)⟩
  · simp only [go_sem, Nat.reduceAdd, Nat.reduceSub, Nat.reduceMul, Nat.reduceLT, Nat.reduceLeDiff, Nat.reduceEqDiff, Nat.succ_ne_zero, reduceIte]
theorem eqValS_spec (xs : List DVal) : Ctr Try.prog 43 [.c (.sl (xs.map DVal.c)), .c (.sl (xs.map DVal.c))] [.val (.c (.v (.bool true)))] := eqValS_of xs fun x _ => eqVal_spec x
theorem eqRow_spec (d : DRow) : Ctr Try.prog 36 [.agg d.c, .agg d.c] [.val (.c (.v (.bool true)))] := by
  refine Ctr.mk (fn := Try.f36) Try.call36 Try.func36 rfl mixed Try.ntmps36 Try.results36 (by kernel_rfl) rfl fun _ => ?_
  simp only [go_sem, Nat.reduceAdd, Nat.reduceSub, Nat.reduceMul, Nat.reduceLT, Nat.reduceLeDiff, Nat.reduceEqDiff, Nat.succ_ne_zero, reduceIte, bne_self_eq_false, beq_self_eq_true]
  refine CallK.mk _ (by simpa only [go_sem] using eqValS_spec d.l) fun _ => ?_
  simp only [go_sem, Nat.reduceAdd, Nat.reduceSub, Nat.reduceMul, Nat.reduceLT, Nat.reduceLeDiff, Nat.reduceEqDiff, Nat.succ_ne_zero, reduceIte, bne_self_eq_false, beq_self_eq_true]
theorem eqRowS_of (xs : List DRow) (hx : ∀ x ∈ xs, Ctr Try.prog 36 [.agg x.c, .agg x.c] [.val (.c (.v (.bool true)))]) : Ctr Try.prog 24 [.c (.sl (xs.map DRow.c)), .c (.sl (xs.map DRow.c))] [.val (.c (.v (.bool true)))] := by
  refine Ctr.mk (fn := Try.f24) Try.call24 Try.func24 rfl mixed Try.ntmps24 Try.results24 (by kernel_rfl) rfl fun hw => ?_
  have hlen : xs.length ≤ 9223372036854775807 := by have := hw.1.1; simpa [Go.maxLen] using this
  simp only [go_sem, Nat.reduceAdd, Nat.reduceSub, Nat.reduceMul, Nat.reduceLT, Nat.reduceLeDiff, Nat.reduceEqDiff, Nat.succ_ne_zero, reduceIte, List.length_map, bne_self_eq_false, beq_self_eq_true]
  refine LoopK.mk 0 [0, 1, 5] (A := Nat) (fun k => ⟨27, [(0, .c (.sl (xs.map DRow.c))), (1, .c (.sl (xs.map DRow.c))), (5, .c (.v (.int .i64 k)))], []⟩) (fun k => k ≤ xs.length) (fun k => xs.length - k) 0 ⟨⟨rfl, rfl⟩, rfl, Nat.zero_le _⟩ ?_
  intro k hk
  simp only [go_sem, Nat.reduceAdd, Nat.reduceSub, Nat.reduceMul, Nat.reduceLT, Nat.reduceLeDiff, Nat.reduceEqDiff, Nat.succ_ne_zero, reduceIte, List.length_map]
  refine cndC.mk (fun h => ?_) (fun h => ?_)
  · have hk' : k < xs.length := by simpa using h
    simp only [go_sem, Nat.reduceAdd, Nat.reduceSub, Nat.reduceMul, Nat.reduceLT, Nat.reduceLeDiff, Nat.reduceEqDiff, Nat.succ_ne_zero, reduceIte]
    refine DrawK.mk ?_
    simp only [go_sem, Nat.reduceAdd, Nat.reduceSub, Nat.reduceMul, Nat.reduceLT, Nat.reduceLeDiff, Nat.reduceEqDiff, Nat.succ_ne_zero, reduceIte, List.length_map, bne_self_eq_false, beq_self_eq_true, map_at _ hk', hk', wrap_i64 (n := (k : Int) + 1) (by omega) (by omega)]
    refine CallF.mk _ (by simpa only [go_sem] using hx xs[k] (List.getElem_mem hk')) ?_
    simp only [go_sem, Nat.reduceAdd, Nat.reduceSub, Nat.reduceMul, Nat.reduceLT, Nat.reduceLeDiff, Nat.reduceEqDiff, Nat.succ_ne_zero, reduceIte, map_at _ hk', wrap_i64 (n := (k : Int) + 1) (by omega) (by omega)]
    exact ⟨k + 1, ⟨rfl, rfl⟩, rfl, by omega, by first | omega | (simp only; omega)⟩
  · simp only [go_sem, Nat.reduceAdd, Nat.reduceSub, Nat.reduceMul, Nat.reduceLT, Nat.reduceLeDiff, Nat.reduceEqDiff, Nat.succ_ne_zero, reduceIte]
theorem eqRowS_spec (xs : List DRow) : Ctr Try.prog 24 [.c (.sl (xs.map DRow.c)), .c (.sl (xs.map DRow.c))] [.val (.c (.v (.bool true)))] := eqRowS_of xs fun x _ => eqRow_spec x
theorem eqPredS_of (xs : List DPred) (hx : ∀ x ∈ xs, Ctr Try.prog 53 [.agg x.c, .agg x.c] [.val (.c (.v (.bool true)))]) : Ctr Try.prog 58 [.c (.sl (xs.map DPred.c)), .c (.sl (xs.map DPred.c))] [.val (.c (.v (.bool true)))] := by
  refine Ctr.mk (fn := Try.f58) Try.call58 Try.func58 rfl mixed Try.ntmps58 Try.results58 (by kernel_rfl) rfl fun hw => ?_
  have hlen : xs.length ≤ 9223372036854775807 := by have := hw.1.1; simpa [Go.maxLen] using this
  simp only [go_sem, Nat.reduceAdd, Nat.reduceSub, Nat.reduceMul, Nat.reduceLT, Nat.reduceLeDiff, Nat.reduceEqDiff, Nat.succ_ne_zero, reduceIte, List.length_map, bne_self_eq_false, beq_self_eq_true]
  refine LoopK.mk 0 [0, 1, 5] (A := Nat) (fun k => ⟨27, [(0, .c (.sl (xs.map DPred.c))), (1, .c (.sl (xs.map DPred.c))), (5, .c (.v (.int .i64 k)))], []⟩) (fun k => k ≤ xs.length) (fun k => xs.length - k) 0 ⟨⟨rfl, rfl⟩, rfl, Nat.zero_le _⟩ ?_
  intro k hk
  simp only [go_sem, Nat.reduceAdd, Nat.reduceSub, Nat.reduceMul, Nat.reduceLT, Nat.reduceLeDiff, Nat.reduceEqDiff, Nat.succ_ne_zero, reduceIte, List.length_map]
  refine cndC.mk (fun h => ?_) (fun h => ?_)
  · have hk' : k < xs.length := by simpa using h
    simp only [go_sem, Nat.reduceAdd, Nat.reduceSub, Nat.reduceMul, Nat.reduceLT, Nat.reduceLeDiff, Nat.reduceEqDiff, Nat.succ_ne_zero, reduceIte]
    refine DrawK.mk ?_
    simp only [go_sem, Nat.reduceAdd, Nat.reduceSub, Nat.reduceMul, Nat.reduceLT, Nat.reduceLeDiff, Nat.reduceEqDiff, Nat.succ_ne_zero, reduceIte, List.length_map, bne_self_eq_false, beq_self_eq_true, map_at _ hk', hk', wrap_i64 (n := (k : Int) + 1) (by omega) (by omega)]
    refine CallF.mk _ (by simpa only [go_sem] using hx xs[k] (List.getElem_mem hk')) ?_
    simp only [go_sem, Nat.reduceAdd, Nat.reduceSub, Nat.reduceMul, Nat.reduceLT, Nat.reduceLeDiff, Nat.reduceEqDiff, Nat.succ_ne_zero, reduceIte, map_at _ hk', wrap_i64 (n := (k : Int) + 1) (by omega) (by omega)]
    exact ⟨k + 1, ⟨rfl, rfl⟩, rfl, by omega, by first | omega | (simp only; omega)⟩
  · simp only [go_sem, Nat.reduceAdd, Nat.reduceSub, Nat.reduceMul, Nat.reduceLT, Nat.reduceLeDiff, Nat.reduceEqDiff, Nat.succ_ne_zero, reduceIte]
theorem eqPred_of (d : DPred) (hx : ∀ x ∈ d.l, Ctr Try.prog 53 [.agg x.c, .agg x.c] [.val (.c (.v (.bool true)))]) : Ctr Try.prog 53 [.agg d.c, .agg d.c] [.val (.c (.v (.bool true)))] := by
  refine Ctr.mk (fn := Try.f53) Try.call53 Try.func53 rfl mixed Try.ntmps53 Try.results53 (by kernel_rfl) rfl fun _ => ?_
  simp only [go_sem, Nat.reduceAdd, Nat.reduceSub, Nat.reduceMul, Nat.reduceLT, Nat.reduceLeDiff, Nat.reduceEqDiff, Nat.succ_ne_zero, reduceIte, bne_self_eq_false, beq_self_eq_true]
  refine CallK.mk _ (by simpa only [go_sem] using eqVal_spec d.v) fun _ => ?_
  simp only [go_sem, Nat.reduceAdd, Nat.reduceSub, Nat.reduceMul, Nat.reduceLT, Nat.reduceLeDiff, Nat.reduceEqDiff, Nat.succ_ne_zero, reduceIte, bne_self_eq_false, beq_self_eq_true]
  refine CallK.mk _ (by simpa only [go_sem] using eqPredS_of d.l hx) fun _ => ?_
  simp only [go_sem, Nat.reduceAdd, Nat.reduceSub, Nat.reduceMul, Nat.reduceLT, Nat.reduceLeDiff, Nat.reduceEqDiff, Nat.succ_ne_zero, reduceIte, bne_self_eq_false, beq_self_eq_true]
theorem eqPred_fuel : ∀ (n : Nat) (d : DPred), SizeOf.sizeOf d ≤ n → Ctr Try.prog 53 [.agg d.c, .agg d.c] [.val (.c (.v (.bool true)))]
  | 0, d, h => by cases d; simp at h
  | n + 1, d, h => eqPred_of d fun x hx => eqPred_fuel n x (by
    have h1 : SizeOf.sizeOf x < SizeOf.sizeOf d.l := List.sizeOf_lt_of_mem hx
    have h2 : SizeOf.sizeOf d.l < SizeOf.sizeOf d := by cases d; simp [DPred.l]; omega
    omega)
theorem eqPred_spec (d : DPred) : Ctr Try.prog 53 [.agg d.c, .agg d.c] [.val (.c (.v (.bool true)))] := eqPred_fuel _ d (Nat.le_refl _)
theorem eqPredS_spec (xs : List DPred) : Ctr Try.prog 58 [.c (.sl (xs.map DPred.c)), .c (.sl (xs.map DPred.c))] [.val (.c (.v (.bool true)))] := eqPredS_of xs fun x _ => eqPred_spec x
theorem eqQuery_spec (d : DQuery) : Ctr Try.prog 44 [.agg d.c, .agg d.c] [.val (.c (.v (.bool true)))] := by
  refine Ctr.mk (fn := Try.f44) Try.call44 Try.func44 rfl mixed Try.ntmps44 Try.results44 (by kernel_rfl) rfl fun _ => ?_
  simp only [go_sem, Nat.reduceAdd, Nat.reduceSub, Nat.reduceMul, Nat.reduceLT, Nat.reduceLeDiff, Nat.reduceEqDiff, Nat.succ_ne_zero, reduceIte, bne_self_eq_false, beq_self_eq_true]
  refine CallK.mk _ (by simpa only [go_sem] using eqPred_spec d.p) fun _ => ?_
  simp only [go_sem, Nat.reduceAdd, Nat.reduceSub, Nat.reduceMul, Nat.reduceLT, Nat.reduceLeDiff, Nat.reduceEqDiff, Nat.succ_ne_zero, reduceIte, bne_self_eq_false, beq_self_eq_true]
  refine CallK.mk _ (by simpa only [go_sem] using eqIntS_spec d.out) fun _ => ?_
  simp only [go_sem, Nat.reduceAdd, Nat.reduceSub, Nat.reduceMul, Nat.reduceLT, Nat.reduceLeDiff, Nat.reduceEqDiff, Nat.succ_ne_zero, reduceIte, bne_self_eq_false, beq_self_eq_true]
theorem eqResult_spec (d : DResult) : Ctr Try.prog 45 [.agg d.c, .agg d.c] [.val (.c (.v (.bool true)))] := by
  refine Ctr.mk (fn := Try.f45) Try.call45 Try.func45 rfl mixed Try.ntmps45 Try.results45 (by kernel_rfl) rfl fun _ => ?_
  simp only [go_sem, Nat.reduceAdd, Nat.reduceSub, Nat.reduceMul, Nat.reduceLT, Nat.reduceLeDiff, Nat.reduceEqDiff, Nat.succ_ne_zero, reduceIte, bne_self_eq_false, beq_self_eq_true]
  refine CallK.mk _ (by simpa only [go_sem] using eqRowS_spec d.rows) fun _ => ?_
  simp only [go_sem, Nat.reduceAdd, Nat.reduceSub, Nat.reduceMul, Nat.reduceLT, Nat.reduceLeDiff, Nat.reduceEqDiff, Nat.succ_ne_zero, reduceIte, bne_self_eq_false, beq_self_eq_true]
  refine CallK.mk _ (by simpa only [go_sem] using eqVal_spec d.v) fun _ => ?_
  simp only [go_sem, Nat.reduceAdd, Nat.reduceSub, Nat.reduceMul, Nat.reduceLT, Nat.reduceLeDiff, Nat.reduceEqDiff, Nat.succ_ne_zero, reduceIte, bne_self_eq_false, beq_self_eq_true]
theorem eqDeed_spec (d : DDeed) : Ctr Try.prog 29 [.agg d.c, .agg d.c] [.val (.c (.v (.bool true)))] := by
  refine Ctr.mk (fn := Try.f29) Try.call29 Try.func29 rfl mixed Try.ntmps29 Try.results29 (by kernel_rfl) rfl fun _ => ?_
  simp only [go_sem, Nat.reduceAdd, Nat.reduceSub, Nat.reduceMul, Nat.reduceLT, Nat.reduceLeDiff, Nat.reduceEqDiff, Nat.succ_ne_zero, reduceIte, bne_self_eq_false, beq_self_eq_true]
  refine CallK.mk _ (by simpa only [go_sem] using eqValS_spec d.r) fun _ => ?_
  simp only [go_sem, Nat.reduceAdd, Nat.reduceSub, Nat.reduceMul, Nat.reduceLT, Nat.reduceLeDiff, Nat.reduceEqDiff, Nat.succ_ne_zero, reduceIte, bne_self_eq_false, beq_self_eq_true]
  refine CallK.mk _ (by simpa only [go_sem] using eqQuery_spec d.q) fun _ => ?_
  simp only [go_sem, Nat.reduceAdd, Nat.reduceSub, Nat.reduceMul, Nat.reduceLT, Nat.reduceLeDiff, Nat.reduceEqDiff, Nat.succ_ne_zero, reduceIte, bne_self_eq_false, beq_self_eq_true]
  refine CallK.mk _ (by simpa only [go_sem] using eqResult_spec d.res) fun _ => ?_
  simp only [go_sem, Nat.reduceAdd, Nat.reduceSub, Nat.reduceMul, Nat.reduceLT, Nat.reduceLeDiff, Nat.reduceEqDiff, Nat.succ_ne_zero, reduceIte, bne_self_eq_false, beq_self_eq_true]
theorem eqDeedS_of (xs : List DDeed) (hx : ∀ x ∈ xs, Ctr Try.prog 29 [.agg x.c, .agg x.c] [.val (.c (.v (.bool true)))]) : Ctr Try.prog 14 [.c (.sl (xs.map DDeed.c)), .c (.sl (xs.map DDeed.c))] [.val (.c (.v (.bool true)))] := by
  refine Ctr.mk (fn := Try.f14) Try.call14 Try.func14 rfl mixed Try.ntmps14 Try.results14 (by kernel_rfl) rfl fun hw => ?_
  have hlen : xs.length ≤ 9223372036854775807 := by have := hw.1.1; simpa [Go.maxLen] using this
  simp only [go_sem, Nat.reduceAdd, Nat.reduceSub, Nat.reduceMul, Nat.reduceLT, Nat.reduceLeDiff, Nat.reduceEqDiff, Nat.succ_ne_zero, reduceIte, List.length_map, bne_self_eq_false, beq_self_eq_true]
  refine LoopK.mk 0 [0, 1, 5] (A := Nat) (fun k => ⟨27, [(0, .c (.sl (xs.map DDeed.c))), (1, .c (.sl (xs.map DDeed.c))), (5, .c (.v (.int .i64 k)))], []⟩) (fun k => k ≤ xs.length) (fun k => xs.length - k) 0 ⟨⟨rfl, rfl⟩, rfl, Nat.zero_le _⟩ ?_
  intro k hk
  simp only [go_sem, Nat.reduceAdd, Nat.reduceSub, Nat.reduceMul, Nat.reduceLT, Nat.reduceLeDiff, Nat.reduceEqDiff, Nat.succ_ne_zero, reduceIte, List.length_map]
  refine cndC.mk (fun h => ?_) (fun h => ?_)
  · have hk' : k < xs.length := by simpa using h
    simp only [go_sem, Nat.reduceAdd, Nat.reduceSub, Nat.reduceMul, Nat.reduceLT, Nat.reduceLeDiff, Nat.reduceEqDiff, Nat.succ_ne_zero, reduceIte]
    refine DrawK.mk ?_
    simp only [go_sem, Nat.reduceAdd, Nat.reduceSub, Nat.reduceMul, Nat.reduceLT, Nat.reduceLeDiff, Nat.reduceEqDiff, Nat.succ_ne_zero, reduceIte, List.length_map, bne_self_eq_false, beq_self_eq_true, map_at _ hk', hk', wrap_i64 (n := (k : Int) + 1) (by omega) (by omega)]
    refine CallF.mk _ (by simpa only [go_sem] using hx xs[k] (List.getElem_mem hk')) ?_
    simp only [go_sem, Nat.reduceAdd, Nat.reduceSub, Nat.reduceMul, Nat.reduceLT, Nat.reduceLeDiff, Nat.reduceEqDiff, Nat.succ_ne_zero, reduceIte, map_at _ hk', wrap_i64 (n := (k : Int) + 1) (by omega) (by omega)]
    exact ⟨k + 1, ⟨rfl, rfl⟩, rfl, by omega, by first | omega | (simp only; omega)⟩
  · simp only [go_sem, Nat.reduceAdd, Nat.reduceSub, Nat.reduceMul, Nat.reduceLT, Nat.reduceLeDiff, Nat.reduceEqDiff, Nat.succ_ne_zero, reduceIte]
theorem eqDeedS_spec (xs : List DDeed) : Ctr Try.prog 14 [.c (.sl (xs.map DDeed.c)), .c (.sl (xs.map DDeed.c))] [.val (.c (.v (.bool true)))] := eqDeedS_of xs fun x _ => eqDeed_spec x
theorem eqTable_spec (d : DTable) : Ctr Try.prog 9 [.agg d.c, .agg d.c] [.val (.c (.v (.bool true)))] := by
  refine Ctr.mk (fn := Try.f9) Try.call9 Try.func9 rfl mixed Try.ntmps9 Try.results9 (by kernel_rfl) rfl fun _ => ?_
  simp only [go_sem, Nat.reduceAdd, Nat.reduceSub, Nat.reduceMul, Nat.reduceLT, Nat.reduceLeDiff, Nat.reduceEqDiff, Nat.succ_ne_zero, reduceIte, bne_self_eq_false, beq_self_eq_true]
  refine CallK.mk _ (by simpa only [go_sem] using eqIntS_spec d.cols) fun _ => ?_
  simp only [go_sem, Nat.reduceAdd, Nat.reduceSub, Nat.reduceMul, Nat.reduceLT, Nat.reduceLeDiff, Nat.reduceEqDiff, Nat.succ_ne_zero, reduceIte, bne_self_eq_false, beq_self_eq_true]
  refine CallK.mk _ (by simpa only [go_sem] using eqRowS_spec d.l) fun _ => ?_
  simp only [go_sem, Nat.reduceAdd, Nat.reduceSub, Nat.reduceMul, Nat.reduceLT, Nat.reduceLeDiff, Nat.reduceEqDiff, Nat.succ_ne_zero, reduceIte, bne_self_eq_false, beq_self_eq_true]

end Go.Proofs.Ytlnaidkchbklcaa
