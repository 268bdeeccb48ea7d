/- Contracts of the sz/to/eq functions: by program (gen_data.py). -/
import Derived.Test.YtekkkcelnaomoaaGreatDa
import Derived.Test.YtekkkcelnaomoaaGreatTy
namespace Go.Proofs.YtekkkcelnaomoaaGreat
set_option linter.unusedSimpArgs false
set_option linter.unusedVariables false
open Go.Vm

set_option maxHeartbeats 1000000
set_option maxRecDepth 10000

theorem szIntS_spec (xs : List Int) (l : Int) (hl : 0 ≤ l) : Ctr Tryz.prog 18 [.c (.sl (xs.map intC)), .c (.v (.int .i64 l))] [.val (.c (.v (.int .i64 (szI xs.length l))))] := by
  refine Ctr.mk (fn := Tryz.f18) Tryz.call18 Tryz.func18 rfl mixed Tryz.ntmps18 Tryz.results18 (by kernel_rfl) rfl fun hw => ?_
  have hlen : xs.length ≤ 9223372036854775807 := by have := hw.1.1; simpa [Go.maxLen] using this
  have hl2 : l ≤ 9223372036854775807 := i64_le hw.2.1
  simp only [go_sem, Nat.reduceAdd, Nat.reduceSub, Nat.reduceMul, Nat.reduceLT, Nat.reduceLeDiff, Nat.reduceEqDiff, Nat.succ_ne_zero, reduceIte, List.length_map, wrap_i64 (n := l - xs.length) (by omega) (by omega)]
  refine cndC.mk (fun h => ?_) (fun h => ?_)
  · have h' : l - xs.length < 0 := by simpa using h
    simp only [go_sem, Nat.reduceAdd, Nat.reduceSub, Nat.reduceMul, Nat.reduceLT, Nat.reduceLeDiff, Nat.reduceEqDiff, Nat.succ_ne_zero, reduceIte]
    simp [szI, h']
  · have h' : ¬ l - xs.length < 0 := by simpa using h
    simp only [go_sem, Nat.reduceAdd, Nat.reduceSub, Nat.reduceMul, Nat.reduceLT, Nat.reduceLeDiff, Nat.reduceEqDiff, Nat.succ_ne_zero, reduceIte]
    simp [szI, h']
theorem szByteS_spec (xs : List Int) (l : Int) (hl : 0 ≤ l) : Ctr Tryz.prog 79 [.c (.sl (xs.map byteC)), .c (.v (.int .i64 l))] [.val (.c (.v (.int .i64 (szI xs.length l))))] := by
  refine Ctr.mk (fn := Tryz.f79) Tryz.call79 Tryz.func79 rfl mixed Tryz.ntmps79 Tryz.results79 (by kernel_rfl) rfl fun hw => ?_
  have hlen : xs.length ≤ 9223372036854775807 := by have := hw.1.1; simpa [Go.maxLen] using this
  have hl2 : l ≤ 9223372036854775807 := i64_le hw.2.1
  simp only [go_sem, Nat.reduceAdd, Nat.reduceSub, Nat.reduceMul, Nat.reduceLT, Nat.reduceLeDiff, Nat.reduceEqDiff, Nat.succ_ne_zero, reduceIte, List.length_map, wrap_i64 (n := l - xs.length) (by omega) (by omega)]
  refine cndC.mk (fun h => ?_) (fun h => ?_)
  · have h' : l - xs.length < 0 := by simpa using h
    simp only [go_sem, Nat.reduceAdd, Nat.reduceSub, Nat.reduceMul, Nat.reduceLT, Nat.reduceLeDiff, Nat.reduceEqDiff, Nat.succ_ne_zero, reduceIte]
    simp [szI, h']
  · have h' : ¬ l - xs.length < 0 := by simpa using h
    simp only [go_sem, Nat.reduceAdd, Nat.reduceSub, Nat.reduceMul, Nat.reduceLT, Nat.reduceLeDiff, Nat.reduceEqDiff, Nat.succ_ne_zero, reduceIte]
    simp [szI, h']
theorem szVal_spec (d : DVal) (l : Int) (hl : 0 ≤ l) : Ctr Tryz.prog 82 [.agg d.c, .c (.v (.int .i64 l))] [.val (.c (.v (.int .i64 (szVal d l))))] := by
  refine Ctr.mk (fn := Tryz.f82) Tryz.call82 Tryz.func82 rfl mixed Tryz.ntmps82 Tryz.results82 (by kernel_rfl) rfl fun hw => ?_
  rw [szVal_eq]
  have hl2 : l ≤ 9223372036854775807 := i64_le hw.2.1
  have hs : d.s.size ≤ 9223372036854775807 := str_le hw.1.2.2.1
  simp only [go_sem, Nat.reduceAdd, Nat.reduceSub, Nat.reduceMul, Nat.reduceLT, Nat.reduceLeDiff, Nat.reduceEqDiff, Nat.succ_ne_zero, reduceIte, wrap_i64 (n := l - d.s.size) (by omega) (by omega)]
  refine cndC.mk (fun h => ?_) (fun h => ?_)
  · have h0 : l - d.s.size < 0 := by simpa using h
    simp only [go_sem, Nat.reduceAdd, Nat.reduceSub, Nat.reduceMul, Nat.reduceLT, Nat.reduceLeDiff, Nat.reduceEqDiff, Nat.succ_ne_zero, reduceIte]
    simp [szI, sq, h0]
  · have h0 : ¬ l - d.s.size < 0 := by simpa using h
    simp only [go_sem, Nat.reduceAdd, Nat.reduceSub, Nat.reduceMul, Nat.reduceLT, Nat.reduceLeDiff, Nat.reduceEqDiff, Nat.succ_ne_zero, reduceIte]
    simp [szI, sq, h0]
theorem szValS_of (xs : List DVal) (hx : ∀ x ∈ xs, ∀ l, 0 ≤ l → Ctr Tryz.prog 82 [.agg x.c, .c (.v (.int .i64 l))] [.val (.c (.v (.int .i64 (szVal x l))))]) (l : Int) (hl : 0 ≤ l) : Ctr Tryz.prog 58 [.c (.sl (xs.map DVal.c)), .c (.v (.int .i64 l))] [.val (.c (.v (.int .i64 (szS szVal xs l))))] := by
  refine Ctr.mk (fn := Tryz.f58) Tryz.call58 Tryz.func58 rfl mixed Tryz.ntmps58 Tryz.results58 (by kernel_rfl) rfl fun hw => ?_
  have hlen : xs.length ≤ 9223372036854775807 := by have := hw.1.1; simpa [Go.maxLen] using this
  have hl2 : l ≤ 9223372036854775807 := i64_le hw.2.1
  simp only [go_sem, Nat.reduceAdd, Nat.reduceSub, Nat.reduceMul, Nat.reduceLT, Nat.reduceLeDiff, Nat.reduceEqDiff, Nat.succ_ne_zero, reduceIte, List.length_map, wrap_i64 (n := l - xs.length) (by omega) (by omega)]
  refine cndC.mk (fun h => ?_) (fun h => ?_)
  · have h' : l - xs.length < 0 := by simpa using h
    simp only [go_sem, Nat.reduceAdd, Nat.reduceSub, Nat.reduceMul, Nat.reduceLT, Nat.reduceLeDiff, Nat.reduceEqDiff, Nat.succ_ne_zero, reduceIte]
    simp [szS, sq, szI, h']
  · have h' : ¬ l - xs.length < 0 := by simpa using h
    simp only [go_sem, Nat.reduceAdd, Nat.reduceSub, Nat.reduceMul, Nat.reduceLT, Nat.reduceLeDiff, Nat.reduceEqDiff, Nat.succ_ne_zero, reduceIte]
    refine LoopK.mk 0 [0, 1, 5] (A := Nat × Int) (fun x => ⟨27, [(0, .c (.sl (xs.map DVal.c))), (1, .c (.v (.int .i64 x.2))), (5, .c (.v (.int .i64 x.1)))], []⟩) (fun x => x.1 ≤ xs.length ∧ 0 ≤ x.2 ∧ szL szVal (xs.drop x.1) x.2 = szS szVal xs l) (fun x => xs.length - x.1)
      (0, l - xs.length) ⟨⟨rfl, rfl⟩, rfl, Nat.zero_le _, by simp only; omega, by simp [szS, sq, szI, h']⟩ ?_
    rintro ⟨k, m⟩ ⟨hk, hm0, hm⟩
    simp only at hk hm hm0
    simp only [go_sem, Nat.reduceAdd, Nat.reduceSub, Nat.reduceMul, Nat.reduceLT, Nat.reduceLeDiff, Nat.reduceEqDiff, Nat.succ_ne_zero, reduceIte, List.length_map]
    refine cndC.mk (fun h => ?_) (fun h => ?_)
    · have hk' : k < xs.length := by simpa using h
      simp only [go_sem, Nat.reduceAdd, Nat.reduceSub, Nat.reduceMul, Nat.reduceLT, Nat.reduceLeDiff, Nat.reduceEqDiff, Nat.succ_ne_zero, reduceIte, map_at _ hk']
      refine CallK.mk _ (by simpa only [go_sem] using hx xs[k] (List.getElem_mem hk') m hm0) fun _ => ?_
      simp only [go_sem, Nat.reduceAdd, Nat.reduceSub, Nat.reduceMul, Nat.reduceLT, Nat.reduceLeDiff, Nat.reduceEqDiff, Nat.succ_ne_zero, reduceIte]
      rw [List.drop_eq_getElem_cons hk'] at hm
      simp only [szL] at hm
      refine cndC.mk (fun h => ?_) (fun h => ?_)
      · have h' : szVal xs[k] m < 0 := by simpa using h
        simp only [go_sem, Nat.reduceAdd, Nat.reduceSub, Nat.reduceMul, Nat.reduceLT, Nat.reduceLeDiff, Nat.reduceEqDiff, Nat.succ_ne_zero, reduceIte]
        rw [sq_neg h'] at hm
        rw [hm]
      · have h' : ¬ szVal xs[k] m < 0 := by simpa using h
        rw [sq_pos h'] at hm
        simp only [go_sem, Nat.reduceAdd, Nat.reduceSub, Nat.reduceMul, Nat.reduceLT, Nat.reduceLeDiff, Nat.reduceEqDiff, Nat.succ_ne_zero, reduceIte, wrap_i64 (n := (k : Int) + 1) (by omega) (by omega)]
        exact ⟨(k + 1, szVal xs[k] m), ⟨rfl, rfl⟩, rfl, ⟨by simp only; omega, (by omega : (0 : Int) ≤ szVal xs[k] m), hm⟩, by simp only; omega⟩
    · have hk' : k = xs.length := by simp at h; omega
      subst hk'
      simp only [go_sem, Nat.reduceAdd, Nat.reduceSub, Nat.reduceMul, Nat.reduceLT, Nat.reduceLeDiff, Nat.reduceEqDiff, Nat.succ_ne_zero, reduceIte]
      simp [szL] at hm
      rw [hm]
theorem szValS_spec (xs : List DVal) (l : Int) (hl : 0 ≤ l) : Ctr Tryz.prog 58 [.c (.sl (xs.map DVal.c)), .c (.v (.int .i64 l))] [.val (.c (.v (.int .i64 (szS szVal xs l))))] := szValS_of xs (fun x _ l hl => szVal_spec x l hl) l hl
theorem szRow_spec (d : DRow) (l : Int) (hl : 0 ≤ l) : Ctr Tryz.prog 22 [.agg d.c, .c (.v (.int .i64 l))] [.val (.c (.v (.int .i64 (szRow d l))))] := by
  refine Ctr.mk (fn := Tryz.f22) Tryz.call22 Tryz.func22 rfl mixed Tryz.ntmps22 Tryz.results22 (by kernel_rfl) rfl fun hw => ?_
  rw [szRow_eq]
  simp only [go_sem, Nat.reduceAdd, Nat.reduceSub, Nat.reduceMul, Nat.reduceLT, Nat.reduceLeDiff, Nat.reduceEqDiff, Nat.succ_ne_zero, reduceIte]
  refine CallK.mk _ (by simpa only [go_sem] using szValS_spec d.l _ (by omega)) fun _ => ?_
  simp only [go_sem, Nat.reduceAdd, Nat.reduceSub, Nat.reduceMul, Nat.reduceLT, Nat.reduceLeDiff, Nat.reduceEqDiff, Nat.succ_ne_zero, reduceIte]
  refine cndC.mk (fun h => ?_) (fun h => ?_)
  · have h0 : szS szVal d.l (l) < 0 := by simpa using h
    simp only [go_sem, Nat.reduceAdd, Nat.reduceSub, Nat.reduceMul, Nat.reduceLT, Nat.reduceLeDiff, Nat.reduceEqDiff, Nat.succ_ne_zero, reduceIte]
    simp [sq, h0]
  · have h0 : ¬ szS szVal d.l (l) < 0 := by simpa using h
    simp only [go_sem, Nat.reduceAdd, Nat.reduceSub, Nat.reduceMul, Nat.reduceLT, Nat.reduceLeDiff, Nat.reduceEqDiff, Nat.succ_ne_zero, reduceIte]
    simp [sq, h0]
theorem szRowS_of (xs : List DRow) (hx : ∀ x ∈ xs, ∀ l, 0 ≤ l → Ctr Tryz.prog 22 [.agg x.c, .c (.v (.int .i64 l))] [.val (.c (.v (.int .i64 (szRow x l))))]) (l : Int) (hl : 0 ≤ l) : Ctr Tryz.prog 5 [.c (.sl (xs.map DRow.c)), .c (.v (.int .i64 l))] [.val (.c (.v (.int .i64 (szS szRow xs l))))] := by
  refine Ctr.mk (fn := Tryz.f5) Tryz.call5 Tryz.func5 rfl mixed Tryz.ntmps5 Tryz.results5 (by kernel_rfl) rfl fun hw => ?_
  have hlen : xs.length ≤ 9223372036854775807 := by have := hw.1.1; simpa [Go.maxLen] using this
  have hl2 : l ≤ 9223372036854775807 := i64_le hw.2.1
  simp only [go_sem, Nat.reduceAdd, Nat.reduceSub, Nat.reduceMul, Nat.reduceLT, Nat.reduceLeDiff, Nat.reduceEqDiff, Nat.succ_ne_zero, reduceIte, List.length_map, wrap_i64 (n := l - xs.length) (by omega) (by omega)]
  refine cndC.mk (fun h => ?_) (fun h => ?_)
  · have h' : l - xs.length < 0 := by simpa using h
    simp only [go_sem, Nat.reduceAdd, Nat.reduceSub, Nat.reduceMul, Nat.reduceLT, Nat.reduceLeDiff, Nat.reduceEqDiff, Nat.succ_ne_zero, reduceIte]
    simp [szS, sq, szI, h']
  · have h' : ¬ l - xs.length < 0 := by simpa using h
    simp only [go_sem, Nat.reduceAdd, Nat.reduceSub, Nat.reduceMul, Nat.reduceLT, Nat.reduceLeDiff, Nat.reduceEqDiff, Nat.succ_ne_zero, reduceIte]
    refine LoopK.mk 0 [0, 1, 5] (A := Nat × Int) (fun x => ⟨27, [(0, .c (.sl (xs.map DRow.c))), (1, .c (.v (.int .i64 x.2))), (5, .c (.v (.int .i64 x.1)))], []⟩) (fun x => x.1 ≤ xs.length ∧ 0 ≤ x.2 ∧ szL szRow (xs.drop x.1) x.2 = szS szRow xs l) (fun x => xs.length - x.1)
      (0, l - xs.length) ⟨⟨rfl, rfl⟩, rfl, Nat.zero_le _, by simp only; omega, by simp [szS, sq, szI, h']⟩ ?_
    rintro ⟨k, m⟩ ⟨hk, hm0, hm⟩
    simp only at hk hm hm0
    simp only [go_sem, Nat.reduceAdd, Nat.reduceSub, Nat.reduceMul, Nat.reduceLT, Nat.reduceLeDiff, Nat.reduceEqDiff, Nat.succ_ne_zero, reduceIte, List.length_map]
    refine cndC.mk (fun h => ?_) (fun h => ?_)
    · have hk' : k < xs.length := by simpa using h
      simp only [go_sem, Nat.reduceAdd, Nat.reduceSub, Nat.reduceMul, Nat.reduceLT, Nat.reduceLeDiff, Nat.reduceEqDiff, Nat.succ_ne_zero, reduceIte, map_at _ hk']
      refine CallK.mk _ (by simpa only [go_sem] using hx xs[k] (List.getElem_mem hk') m hm0) fun _ => ?_
      simp only [go_sem, Nat.reduceAdd, Nat.reduceSub, Nat.reduceMul, Nat.reduceLT, Nat.reduceLeDiff, Nat.reduceEqDiff, Nat.succ_ne_zero, reduceIte]
      rw [List.drop_eq_getElem_cons hk'] at hm
      simp only [szL] at hm
      refine cndC.mk (fun h => ?_) (fun h => ?_)
      · have h' : szRow xs[k] m < 0 := by simpa using h
        simp only [go_sem, Nat.reduceAdd, Nat.reduceSub, Nat.reduceMul, Nat.reduceLT, Nat.reduceLeDiff, Nat.reduceEqDiff, Nat.succ_ne_zero, reduceIte]
        rw [sq_neg h'] at hm
        rw [hm]
      · have h' : ¬ szRow xs[k] m < 0 := by simpa using h
        rw [sq_pos h'] at hm
        simp only [go_sem, Nat.reduceAdd, Nat.reduceSub, Nat.reduceMul, Nat.reduceLT, Nat.reduceLeDiff, Nat.reduceEqDiff, Nat.succ_ne_zero, reduceIte, wrap_i64 (n := (k : Int) + 1) (by omega) (by omega)]
        exact ⟨(k + 1, szRow xs[k] m), ⟨rfl, rfl⟩, rfl, ⟨by simp only; omega, (by omega : (0 : Int) ≤ szRow xs[k] m), hm⟩, by simp only; omega⟩
    · have hk' : k = xs.length := by simp at h; omega
      subst hk'
      simp only [go_sem, Nat.reduceAdd, Nat.reduceSub, Nat.reduceMul, Nat.reduceLT, Nat.reduceLeDiff, Nat.reduceEqDiff, Nat.succ_ne_zero, reduceIte]
      simp [szL] at hm
      rw [hm]
theorem szRowS_spec (xs : List DRow) (l : Int) (hl : 0 ≤ l) : Ctr Tryz.prog 5 [.c (.sl (xs.map DRow.c)), .c (.v (.int .i64 l))] [.val (.c (.v (.int .i64 (szS szRow xs l))))] := szRowS_of xs (fun x _ l hl => szRow_spec x l hl) l hl
theorem szPredS_of (xs : List DPred) (hx : ∀ x ∈ xs, ∀ l, 0 ≤ l → Ctr Tryz.prog 96 [.agg x.c, .c (.v (.int .i64 l))] [.val (.c (.v (.int .i64 (szPred x l))))]) (l : Int) (hl : 0 ≤ l) : Ctr Tryz.prog 102 [.c (.sl (xs.map DPred.c)), .c (.v (.int .i64 l))] [.val (.c (.v (.int .i64 (szS szPred xs l))))] := by
  refine Ctr.mk (fn := Tryz.f102) Tryz.call102 Tryz.func102 rfl mixed Tryz.ntmps102 Tryz.results102 (by kernel_rfl) rfl fun hw => ?_
  have hlen : xs.length ≤ 9223372036854775807 := by have := hw.1.1; simpa [Go.maxLen] using this
  have hl2 : l ≤ 9223372036854775807 := i64_le hw.2.1
  simp only [go_sem, Nat.reduceAdd, Nat.reduceSub, Nat.reduceMul, Nat.reduceLT, Nat.reduceLeDiff, Nat.reduceEqDiff, Nat.succ_ne_zero, reduceIte, List.length_map, wrap_i64 (n := l - xs.length) (by omega) (by omega)]
  refine cndC.mk (fun h => ?_) (fun h => ?_)
  · have h' : l - xs.length < 0 := by simpa using h
    simp only [go_sem, Nat.reduceAdd, Nat.reduceSub, Nat.reduceMul, Nat.reduceLT, Nat.reduceLeDiff, Nat.reduceEqDiff, Nat.succ_ne_zero, reduceIte]
    simp [szS, sq, szI, h']
  · have h' : ¬ l - xs.length < 0 := by simpa using h
    simp only [go_sem, Nat.reduceAdd, Nat.reduceSub, Nat.reduceMul, Nat.reduceLT, Nat.reduceLeDiff, Nat.reduceEqDiff, Nat.succ_ne_zero, reduceIte]
    refine LoopK.mk 0 [0, 1, 5] (A := Nat × Int) (fun x => ⟨27, [(0, .c (.sl (xs.map DPred.c))), (1, .c (.v (.int .i64 x.2))), (5, .c (.v (.int .i64 x.1)))], []⟩) (fun x => x.1 ≤ xs.length ∧ 0 ≤ x.2 ∧ szL szPred (xs.drop x.1) x.2 = szS szPred xs l) (fun x => xs.length - x.1)
      (0, l - xs.length) ⟨⟨rfl, rfl⟩, rfl, Nat.zero_le _, by simp only; omega, by simp [szS, sq, szI, h']⟩ ?_
    rintro ⟨k, m⟩ ⟨hk, hm0, hm⟩
    simp only at hk hm hm0
    simp only [go_sem, Nat.reduceAdd, Nat.reduceSub, Nat.reduceMul, Nat.reduceLT, Nat.reduceLeDiff, Nat.reduceEqDiff, Nat.succ_ne_zero, reduceIte, List.length_map]
    refine cndC.mk (fun h => ?_) (fun h => ?_)
    · have hk' : k < xs.length := by simpa using h
      simp only [go_sem, Nat.reduceAdd, Nat.reduceSub, Nat.reduceMul, Nat.reduceLT, Nat.reduceLeDiff, Nat.reduceEqDiff, Nat.succ_ne_zero, reduceIte, map_at _ hk']
      refine CallK.mk _ (by simpa only [go_sem] using hx xs[k] (List.getElem_mem hk') m hm0) fun _ => ?_
      simp only [go_sem, Nat.reduceAdd, Nat.reduceSub, Nat.reduceMul, Nat.reduceLT, Nat.reduceLeDiff, Nat.reduceEqDiff, Nat.succ_ne_zero, reduceIte]
      rw [List.drop_eq_getElem_cons hk'] at hm
      simp only [szL] at hm
      refine cndC.mk (fun h => ?_) (fun h => ?_)
      · have h' : szPred xs[k] m < 0 := by simpa using h
        simp only [go_sem, Nat.reduceAdd, Nat.reduceSub, Nat.reduceMul, Nat.reduceLT, Nat.reduceLeDiff, Nat.reduceEqDiff, Nat.succ_ne_zero, reduceIte]
        rw [sq_neg h'] at hm
        rw [hm]
      · have h' : ¬ szPred xs[k] m < 0 := by simpa using h
        rw [sq_pos h'] at hm
        simp only [go_sem, Nat.reduceAdd, Nat.reduceSub, Nat.reduceMul, Nat.reduceLT, Nat.reduceLeDiff, Nat.reduceEqDiff, Nat.succ_ne_zero, reduceIte, wrap_i64 (n := (k : Int) + 1) (by omega) (by omega)]
        exact ⟨(k + 1, szPred xs[k] m), ⟨rfl, rfl⟩, rfl, ⟨by simp only; omega, (by omega : (0 : Int) ≤ szPred xs[k] m), hm⟩, by simp only; omega⟩
    · have hk' : k = xs.length := by simp at h; omega
      subst hk'
      simp only [go_sem, Nat.reduceAdd, Nat.reduceSub, Nat.reduceMul, Nat.reduceLT, Nat.reduceLeDiff, Nat.reduceEqDiff, Nat.succ_ne_zero, reduceIte]
      simp [szL] at hm
      rw [hm]
theorem szPred_of (d : DPred) (hx : ∀ x ∈ d.l, ∀ l, 0 ≤ l → Ctr Tryz.prog 96 [.agg x.c, .c (.v (.int .i64 l))] [.val (.c (.v (.int .i64 (szPred x l))))]) (l : Int) (hl : 0 ≤ l) : Ctr Tryz.prog 96 [.agg d.c, .c (.v (.int .i64 l))] [.val (.c (.v (.int .i64 (szPred d l))))] := by
  refine Ctr.mk (fn := Tryz.f96) Tryz.call96 Tryz.func96 rfl mixed Tryz.ntmps96 Tryz.results96 (by kernel_rfl) rfl fun hw => ?_
  rw [szPred_eq]
  simp only [go_sem, Nat.reduceAdd, Nat.reduceSub, Nat.reduceMul, Nat.reduceLT, Nat.reduceLeDiff, Nat.reduceEqDiff, Nat.succ_ne_zero, reduceIte]
  refine CallK.mk _ (by simpa only [go_sem] using szVal_spec d.v _ (by omega)) fun _ => ?_
  simp only [go_sem, Nat.reduceAdd, Nat.reduceSub, Nat.reduceMul, Nat.reduceLT, Nat.reduceLeDiff, Nat.reduceEqDiff, Nat.succ_ne_zero, reduceIte]
  refine cndC.mk (fun h => ?_) (fun h => ?_)
  · have h0 : szVal d.v (l) < 0 := by simpa using h
    simp only [go_sem, Nat.reduceAdd, Nat.reduceSub, Nat.reduceMul, Nat.reduceLT, Nat.reduceLeDiff, Nat.reduceEqDiff, Nat.succ_ne_zero, reduceIte]
    simp [sq, h0]
  · have h0 : ¬ szVal d.v (l) < 0 := by simpa using h
    simp only [go_sem, Nat.reduceAdd, Nat.reduceSub, Nat.reduceMul, Nat.reduceLT, Nat.reduceLeDiff, Nat.reduceEqDiff, Nat.succ_ne_zero, reduceIte]
    refine CallK.mk _ (by simpa only [go_sem] using szPredS_of d.l hx _ (by omega)) fun _ => ?_
    simp only [go_sem, Nat.reduceAdd, Nat.reduceSub, Nat.reduceMul, Nat.reduceLT, Nat.reduceLeDiff, Nat.reduceEqDiff, Nat.succ_ne_zero, reduceIte]
    refine cndC.mk (fun h => ?_) (fun h => ?_)
    · have h1 : szS szPred d.l (szVal d.v (l)) < 0 := by simpa using h
      simp only [go_sem, Nat.reduceAdd, Nat.reduceSub, Nat.reduceMul, Nat.reduceLT, Nat.reduceLeDiff, Nat.reduceEqDiff, Nat.succ_ne_zero, reduceIte]
      simp [sq, h0, h1]
    · have h1 : ¬ szS szPred d.l (szVal d.v (l)) < 0 := by simpa using h
      simp only [go_sem, Nat.reduceAdd, Nat.reduceSub, Nat.reduceMul, Nat.reduceLT, Nat.reduceLeDiff, Nat.reduceEqDiff, Nat.succ_ne_zero, reduceIte]
      simp [sq, h0, h1]
theorem szPred_fuel : ∀ (n : Nat) (d : DPred), SizeOf.sizeOf d ≤ n → ∀ l, 0 ≤ l → Ctr Tryz.prog 96 [.agg d.c, .c (.v (.int .i64 l))] [.val (.c (.v (.int .i64 (szPred d l))))]
  | 0, d, h => by cases d; simp at h
  | n + 1, d, h => szPred_of d fun x hx => szPred_fuel n x (by
    have h1 : SizeOf.sizeOf x < SizeOf.sizeOf d.l := List.sizeOf_lt_of_mem hx
    have h2 : SizeOf.sizeOf d.l < SizeOf.sizeOf d := by cases d; simp [DPred.l]; omega
    omega)
theorem szPred_spec (d : DPred) (l : Int) (hl : 0 ≤ l) : Ctr Tryz.prog 96 [.agg d.c, .c (.v (.int .i64 l))] [.val (.c (.v (.int .i64 (szPred d l))))] := szPred_fuel _ d (Nat.le_refl _) l hl
theorem szPredS_spec (xs : List DPred) (l : Int) (hl : 0 ≤ l) : Ctr Tryz.prog 102 [.c (.sl (xs.map DPred.c)), .c (.v (.int .i64 l))] [.val (.c (.v (.int .i64 (szS szPred xs l))))] := szPredS_of xs (fun x _ l hl => szPred_spec x l hl) l hl
theorem szQuery_spec (d : DQuery) (l : Int) (hl : 0 ≤ l) : Ctr Tryz.prog 80 [.agg d.c, .c (.v (.int .i64 l))] [.val (.c (.v (.int .i64 (szQuery d l))))] := by
  refine Ctr.mk (fn := Tryz.f80) Tryz.call80 Tryz.func80 rfl mixed Tryz.ntmps80 Tryz.results80 (by kernel_rfl) rfl fun hw => ?_
  rw [szQuery_eq]
  simp only [go_sem, Nat.reduceAdd, Nat.reduceSub, Nat.reduceMul, Nat.reduceLT, Nat.reduceLeDiff, Nat.reduceEqDiff, Nat.succ_ne_zero, reduceIte]
  refine CallK.mk _ (by simpa only [go_sem] using szPred_spec d.p _ (by omega)) fun _ => ?_
  simp only [go_sem, Nat.reduceAdd, Nat.reduceSub, Nat.reduceMul, Nat.reduceLT, Nat.reduceLeDiff, Nat.reduceEqDiff, Nat.succ_ne_zero, reduceIte]
  refine cndC.mk (fun h => ?_) (fun h => ?_)
  · have h0 : szPred d.p (l) < 0 := by simpa using h
    simp only [go_sem, Nat.reduceAdd, Nat.reduceSub, Nat.reduceMul, Nat.reduceLT, Nat.reduceLeDiff, Nat.reduceEqDiff, Nat.succ_ne_zero, reduceIte]
    simp [sq, h0]
  · have h0 : ¬ szPred d.p (l) < 0 := by simpa using h
    simp only [go_sem, Nat.reduceAdd, Nat.reduceSub, Nat.reduceMul, Nat.reduceLT, Nat.reduceLeDiff, Nat.reduceEqDiff, Nat.succ_ne_zero, reduceIte]
    refine CallK.mk _ (by simpa only [go_sem] using szIntS_spec d.out _ (by omega)) fun _ => ?_
    simp only [go_sem, Nat.reduceAdd, Nat.reduceSub, Nat.reduceMul, Nat.reduceLT, Nat.reduceLeDiff, Nat.reduceEqDiff, Nat.succ_ne_zero, reduceIte]
    refine cndC.mk (fun h => ?_) (fun h => ?_)
    · have h1 : szI d.out.length (szPred d.p (l)) < 0 := by simpa using h
      simp only [go_sem, Nat.reduceAdd, Nat.reduceSub, Nat.reduceMul, Nat.reduceLT, Nat.reduceLeDiff, Nat.reduceEqDiff, Nat.succ_ne_zero, reduceIte]
      simp [sq, h0, h1]
    · have h1 : ¬ szI d.out.length (szPred d.p (l)) < 0 := by simpa using h
      simp only [go_sem, Nat.reduceAdd, Nat.reduceSub, Nat.reduceMul, Nat.reduceLT, Nat.reduceLeDiff, Nat.reduceEqDiff, Nat.succ_ne_zero, reduceIte]
      simp [sq, h0, h1]
theorem szResult_spec (d : DResult) (l : Int) (hl : 0 ≤ l) : Ctr Tryz.prog 81 [.agg d.c, .c (.v (.int .i64 l))] [.val (.c (.v (.int .i64 (szResult d l))))] := by
  refine Ctr.mk (fn := Tryz.f81) Tryz.call81 Tryz.func81 rfl mixed Tryz.ntmps81 Tryz.results81 (by kernel_rfl) rfl fun hw => ?_
  rw [szResult_eq]
  simp only [go_sem, Nat.reduceAdd, Nat.reduceSub, Nat.reduceMul, Nat.reduceLT, Nat.reduceLeDiff, Nat.reduceEqDiff, Nat.succ_ne_zero, reduceIte]
  refine CallK.mk _ (by simpa only [go_sem] using szRowS_spec d.rows _ (by omega)) fun _ => ?_
  simp only [go_sem, Nat.reduceAdd, Nat.reduceSub, Nat.reduceMul, Nat.reduceLT, Nat.reduceLeDiff, Nat.reduceEqDiff, Nat.succ_ne_zero, reduceIte]
  refine cndC.mk (fun h => ?_) (fun h => ?_)
  · have h0 : szS szRow d.rows (l) < 0 := by simpa using h
    simp only [go_sem, Nat.reduceAdd, Nat.reduceSub, Nat.reduceMul, Nat.reduceLT, Nat.reduceLeDiff, Nat.reduceEqDiff, Nat.succ_ne_zero, reduceIte]
    simp [sq, h0]
  · have h0 : ¬ szS szRow d.rows (l) < 0 := by simpa using h
    simp only [go_sem, Nat.reduceAdd, Nat.reduceSub, Nat.reduceMul, Nat.reduceLT, Nat.reduceLeDiff, Nat.reduceEqDiff, Nat.succ_ne_zero, reduceIte]
    refine CallK.mk _ (by simpa only [go_sem] using szVal_spec d.v _ (by omega)) fun _ => ?_
    simp only [go_sem, Nat.reduceAdd, Nat.reduceSub, Nat.reduceMul, Nat.reduceLT, Nat.reduceLeDiff, Nat.reduceEqDiff, Nat.succ_ne_zero, reduceIte]
    refine cndC.mk (fun h => ?_) (fun h => ?_)
    · have h1 : szVal d.v (szS szRow d.rows (l)) < 0 := by simpa using h
      simp only [go_sem, Nat.reduceAdd, Nat.reduceSub, Nat.reduceMul, Nat.reduceLT, Nat.reduceLeDiff, Nat.reduceEqDiff, Nat.succ_ne_zero, reduceIte]
      simp [sq, h0, h1]
    · have h1 : ¬ szVal d.v (szS szRow d.rows (l)) < 0 := by simpa using h
      simp only [go_sem, Nat.reduceAdd, Nat.reduceSub, Nat.reduceMul, Nat.reduceLT, Nat.reduceLeDiff, Nat.reduceEqDiff, Nat.succ_ne_zero, reduceIte]
      simp [sq, h0, h1]
theorem szSlot_spec (d : DSlot) (l : Int) (hl : 0 ≤ l) : Ctr Tryz.prog 101 [.agg d.c, .c (.v (.int .i64 l))] [.val (.c (.v (.int .i64 (szSlot d l))))] := by
  refine Ctr.mk (fn := Tryz.f101) Tryz.call101 Tryz.func101 rfl mixed Tryz.ntmps101 Tryz.results101 (by kernel_rfl) rfl fun hw => ?_
  rw [szSlot_eq]
  simp only [go_sem, Nat.reduceAdd, Nat.reduceSub, Nat.reduceMul, Nat.reduceLT, Nat.reduceLeDiff, Nat.reduceEqDiff, Nat.succ_ne_zero, reduceIte]
  refine CallK.mk _ (by simpa only [go_sem] using szValS_spec d.l _ (by omega)) fun _ => ?_
  simp only [go_sem, Nat.reduceAdd, Nat.reduceSub, Nat.reduceMul, Nat.reduceLT, Nat.reduceLeDiff, Nat.reduceEqDiff, Nat.succ_ne_zero, reduceIte]
  refine cndC.mk (fun h => ?_) (fun h => ?_)
  · have h0 : szS szVal d.l (l) < 0 := by simpa using h
    simp only [go_sem, Nat.reduceAdd, Nat.reduceSub, Nat.reduceMul, Nat.reduceLT, Nat.reduceLeDiff, Nat.reduceEqDiff, Nat.succ_ne_zero, reduceIte]
    simp [sq, h0]
  · have h0 : ¬ szS szVal d.l (l) < 0 := by simpa using h
    simp only [go_sem, Nat.reduceAdd, Nat.reduceSub, Nat.reduceMul, Nat.reduceLT, Nat.reduceLeDiff, Nat.reduceEqDiff, Nat.succ_ne_zero, reduceIte]
    simp [sq, h0]
theorem szSlotS_of (xs : List DSlot) (hx : ∀ x ∈ xs, ∀ l, 0 ≤ l → Ctr Tryz.prog 101 [.agg x.c, .c (.v (.int .i64 l))] [.val (.c (.v (.int .i64 (szSlot x l))))]) (l : Int) (hl : 0 ≤ l) : Ctr Tryz.prog 95 [.c (.sl (xs.map DSlot.c)), .c (.v (.int .i64 l))] [.val (.c (.v (.int .i64 (szS szSlot xs l))))] := by
  refine Ctr.mk (fn := Tryz.f95) Tryz.call95 Tryz.func95 rfl mixed Tryz.ntmps95 Tryz.results95 (by kernel_rfl) rfl fun hw => ?_
  have hlen : xs.length ≤ 9223372036854775807 := by have := hw.1.1; simpa [Go.maxLen] using this
  have hl2 : l ≤ 9223372036854775807 := i64_le hw.2.1
  simp only [go_sem, Nat.reduceAdd, Nat.reduceSub, Nat.reduceMul, Nat.reduceLT, Nat.reduceLeDiff, Nat.reduceEqDiff, Nat.succ_ne_zero, reduceIte, List.length_map, wrap_i64 (n := l - xs.length) (by omega) (by omega)]
  refine cndC.mk (fun h => ?_) (fun h => ?_)
  · have h' : l - xs.length < 0 := by simpa using h
    simp only [go_sem, Nat.reduceAdd, Nat.reduceSub, Nat.reduceMul, Nat.reduceLT, Nat.reduceLeDiff, Nat.reduceEqDiff, Nat.succ_ne_zero, reduceIte]
    simp [szS, sq, szI, h']
  · have h' : ¬ l - xs.length < 0 := by simpa using h
    simp only [go_sem, Nat.reduceAdd, Nat.reduceSub, Nat.reduceMul, Nat.reduceLT, Nat.reduceLeDiff, Nat.reduceEqDiff, Nat.succ_ne_zero, reduceIte]
    refine LoopK.mk 0 [0, 1, 5] (A := Nat × Int) (fun x => ⟨27, [(0, .c (.sl (xs.map DSlot.c))), (1, .c (.v (.int .i64 x.2))), (5, .c (.v (.int .i64 x.1)))], []⟩) (fun x => x.1 ≤ xs.length ∧ 0 ≤ x.2 ∧ szL szSlot (xs.drop x.1) x.2 = szS szSlot xs l) (fun x => xs.length - x.1)
      (0, l - xs.length) ⟨⟨rfl, rfl⟩, rfl, Nat.zero_le _, by simp only; omega, by simp [szS, sq, szI, h']⟩ ?_
    rintro ⟨k, m⟩ ⟨hk, hm0, hm⟩
    simp only at hk hm hm0
    simp only [go_sem, Nat.reduceAdd, Nat.reduceSub, Nat.reduceMul, Nat.reduceLT, Nat.reduceLeDiff, Nat.reduceEqDiff, Nat.succ_ne_zero, reduceIte, List.length_map]
    refine cndC.mk (fun h => ?_) (fun h => ?_)
    · have hk' : k < xs.length := by simpa using h
      simp only [go_sem, Nat.reduceAdd, Nat.reduceSub, Nat.reduceMul, Nat.reduceLT, Nat.reduceLeDiff, Nat.reduceEqDiff, Nat.succ_ne_zero, reduceIte, map_at _ hk']
      refine CallK.mk _ (by simpa only [go_sem] using hx xs[k] (List.getElem_mem hk') m hm0) fun _ => ?_
      simp only [go_sem, Nat.reduceAdd, Nat.reduceSub, Nat.reduceMul, Nat.reduceLT, Nat.reduceLeDiff, Nat.reduceEqDiff, Nat.succ_ne_zero, reduceIte]
      rw [List.drop_eq_getElem_cons hk'] at hm
      simp only [szL] at hm
      refine cndC.mk (fun h => ?_) (fun h => ?_)
      · have h' : szSlot xs[k] m < 0 := by simpa using h
        simp only [go_sem, Nat.reduceAdd, Nat.reduceSub, Nat.reduceMul, Nat.reduceLT, Nat.reduceLeDiff, Nat.reduceEqDiff, Nat.succ_ne_zero, reduceIte]
        rw [sq_neg h'] at hm
        rw [hm]
      · have h' : ¬ szSlot xs[k] m < 0 := by simpa using h
        rw [sq_pos h'] at hm
        simp only [go_sem, Nat.reduceAdd, Nat.reduceSub, Nat.reduceMul, Nat.reduceLT, Nat.reduceLeDiff, Nat.reduceEqDiff, Nat.succ_ne_zero, reduceIte, wrap_i64 (n := (k : Int) + 1) (by omega) (by omega)]
        exact ⟨(k + 1, szSlot xs[k] m), ⟨rfl, rfl⟩, rfl, ⟨by simp only; omega, (by omega : (0 : Int) ≤ szSlot xs[k] m), hm⟩, by simp only; omega⟩
    · have hk' : k = xs.length := by simp at h; omega
      subst hk'
      simp only [go_sem, Nat.reduceAdd, Nat.reduceSub, Nat.reduceMul, Nat.reduceLT, Nat.reduceLeDiff, Nat.reduceEqDiff, Nat.succ_ne_zero, reduceIte]
      simp [szL] at hm
      rw [hm]
theorem szSlotS_spec (xs : List DSlot) (l : Int) (hl : 0 ≤ l) : Ctr Tryz.prog 95 [.c (.sl (xs.map DSlot.c)), .c (.v (.int .i64 l))] [.val (.c (.v (.int .i64 (szS szSlot xs l))))] := szSlotS_of xs (fun x _ l hl => szSlot_spec x l hl) l hl
theorem szChunk_spec (d : DChunk) (l : Int) (hl : 0 ≤ l) : Ctr Tryz.prog 78 [.agg d.c, .c (.v (.int .i64 l))] [.val (.c (.v (.int .i64 (szChunk d l))))] := by
  refine Ctr.mk (fn := Tryz.f78) Tryz.call78 Tryz.func78 rfl mixed Tryz.ntmps78 Tryz.results78 (by kernel_rfl) rfl fun hw => ?_
  rw [szChunk_eq]
  simp only [go_sem, Nat.reduceAdd, Nat.reduceSub, Nat.reduceMul, Nat.reduceLT, Nat.reduceLeDiff, Nat.reduceEqDiff, Nat.succ_ne_zero, reduceIte]
  refine CallK.mk _ (by simpa only [go_sem] using szSlotS_spec d.l _ (by omega)) fun _ => ?_
  simp only [go_sem, Nat.reduceAdd, Nat.reduceSub, Nat.reduceMul, Nat.reduceLT, Nat.reduceLeDiff, Nat.reduceEqDiff, Nat.succ_ne_zero, reduceIte]
  refine cndC.mk (fun h => ?_) (fun h => ?_)
  · have h0 : szS szSlot d.l (l) < 0 := by simpa using h
    simp only [go_sem, Nat.reduceAdd, Nat.reduceSub, Nat.reduceMul, Nat.reduceLT, Nat.reduceLeDiff, Nat.reduceEqDiff, Nat.succ_ne_zero, reduceIte]
    simp [sq, h0]
  · have h0 : ¬ szS szSlot d.l (l) < 0 := by simpa using h
    simp only [go_sem, Nat.reduceAdd, Nat.reduceSub, Nat.reduceMul, Nat.reduceLT, Nat.reduceLeDiff, Nat.reduceEqDiff, Nat.succ_ne_zero, reduceIte]
    simp [sq, h0]
theorem szBuf_spec (d : DBuf) (l : Int) (hl : 0 ≤ l) : Ctr Tryz.prog 55 [.agg d.c, .c (.v (.int .i64 l))] [.val (.c (.v (.int .i64 (szBuf d l))))] := by
  refine Ctr.mk (fn := Tryz.f55) Tryz.call55 Tryz.func55 rfl mixed Tryz.ntmps55 Tryz.results55 (by kernel_rfl) rfl fun hw => ?_
  rw [szBuf_eq]
  simp only [go_sem, Nat.reduceAdd, Nat.reduceSub, Nat.reduceMul, Nat.reduceLT, Nat.reduceLeDiff, Nat.reduceEqDiff, Nat.succ_ne_zero, reduceIte]
  refine CallK.mk _ (by simpa only [go_sem] using szChunk_spec d.c0 _ (by omega)) fun _ => ?_
  simp only [go_sem, Nat.reduceAdd, Nat.reduceSub, Nat.reduceMul, Nat.reduceLT, Nat.reduceLeDiff, Nat.reduceEqDiff, Nat.succ_ne_zero, reduceIte]
  refine cndC.mk (fun h => ?_) (fun h => ?_)
  · have h0 : szChunk d.c0 (l) < 0 := by simpa using h
    simp only [go_sem, Nat.reduceAdd, Nat.reduceSub, Nat.reduceMul, Nat.reduceLT, Nat.reduceLeDiff, Nat.reduceEqDiff, Nat.succ_ne_zero, reduceIte]
    simp [sq, h0]
  · have h0 : ¬ szChunk d.c0 (l) < 0 := by simpa using h
    simp only [go_sem, Nat.reduceAdd, Nat.reduceSub, Nat.reduceMul, Nat.reduceLT, Nat.reduceLeDiff, Nat.reduceEqDiff, Nat.succ_ne_zero, reduceIte]
    refine CallK.mk _ (by simpa only [go_sem] using szByteS_spec d.g _ (by omega)) fun _ => ?_
    simp only [go_sem, Nat.reduceAdd, Nat.reduceSub, Nat.reduceMul, Nat.reduceLT, Nat.reduceLeDiff, Nat.reduceEqDiff, Nat.succ_ne_zero, reduceIte]
    refine cndC.mk (fun h => ?_) (fun h => ?_)
    · have h1 : szI d.g.length (szChunk d.c0 (l)) < 0 := by simpa using h
      simp only [go_sem, Nat.reduceAdd, Nat.reduceSub, Nat.reduceMul, Nat.reduceLT, Nat.reduceLeDiff, Nat.reduceEqDiff, Nat.succ_ne_zero, reduceIte]
      simp [sq, h0, h1]
    · have h1 : ¬ szI d.g.length (szChunk d.c0 (l)) < 0 := by simpa using h
      simp only [go_sem, Nat.reduceAdd, Nat.reduceSub, Nat.reduceMul, Nat.reduceLT, Nat.reduceLeDiff, Nat.reduceEqDiff, Nat.succ_ne_zero, reduceIte]
      simp [sq, h0, h1]
theorem szBufS_of (xs : List DBuf) (hx : ∀ x ∈ xs, ∀ l, 0 ≤ l → Ctr Tryz.prog 55 [.agg x.c, .c (.v (.int .i64 l))] [.val (.c (.v (.int .i64 (szBuf x l))))]) (l : Int) (hl : 0 ≤ l) : Ctr Tryz.prog 17 [.c (.sl (xs.map DBuf.c)), .c (.v (.int .i64 l))] [.val (.c (.v (.int .i64 (szS szBuf xs l))))] := by
  refine Ctr.mk (fn := Tryz.f17) Tryz.call17 Tryz.func17 rfl mixed Tryz.ntmps17 Tryz.results17 (by kernel_rfl) rfl fun hw => ?_
  have hlen : xs.length ≤ 9223372036854775807 := by have := hw.1.1; simpa [Go.maxLen] using this
  have hl2 : l ≤ 9223372036854775807 := i64_le hw.2.1
  simp only [go_sem, Nat.reduceAdd, Nat.reduceSub, Nat.reduceMul, Nat.reduceLT, Nat.reduceLeDiff, Nat.reduceEqDiff, Nat.succ_ne_zero, reduceIte, List.length_map, wrap_i64 (n := l - xs.length) (by omega) (by omega)]
  refine cndC.mk (fun h => ?_) (fun h => ?_)
  · have h' : l - xs.length < 0 := by simpa using h
    simp only [go_sem, Nat.reduceAdd, Nat.reduceSub, Nat.reduceMul, Nat.reduceLT, Nat.reduceLeDiff, Nat.reduceEqDiff, Nat.succ_ne_zero, reduceIte]
    simp [szS, sq, szI, h']
  · have h' : ¬ l - xs.length < 0 := by simpa using h
    simp only [go_sem, Nat.reduceAdd, Nat.reduceSub, Nat.reduceMul, Nat.reduceLT, Nat.reduceLeDiff, Nat.reduceEqDiff, Nat.succ_ne_zero, reduceIte]
    refine LoopK.mk 0 [0, 1, 5] (A := Nat × Int) (fun x => ⟨27, [(0, .c (.sl (xs.map DBuf.c))), (1, .c (.v (.int .i64 x.2))), (5, .c (.v (.int .i64 x.1)))], []⟩) (fun x => x.1 ≤ xs.length ∧ 0 ≤ x.2 ∧ szL szBuf (xs.drop x.1) x.2 = szS szBuf xs l) (fun x => xs.length - x.1)
      (0, l - xs.length) ⟨⟨rfl, rfl⟩, rfl, Nat.zero_le _, by simp only; omega, by simp [szS, sq, szI, h']⟩ ?_
    rintro ⟨k, m⟩ ⟨hk, hm0, hm⟩
    simp only at hk hm hm0
    simp only [go_sem, Nat.reduceAdd, Nat.reduceSub, Nat.reduceMul, Nat.reduceLT, Nat.reduceLeDiff, Nat.reduceEqDiff, Nat.succ_ne_zero, reduceIte, List.length_map]
    refine cndC.mk (fun h => ?_) (fun h => ?_)
    · have hk' : k < xs.length := by simpa using h
      simp only [go_sem, Nat.reduceAdd, Nat.reduceSub, Nat.reduceMul, Nat.reduceLT, Nat.reduceLeDiff, Nat.reduceEqDiff, Nat.succ_ne_zero, reduceIte, map_at _ hk']
      refine CallK.mk _ (by simpa only [go_sem] using hx xs[k] (List.getElem_mem hk') m hm0) fun _ => ?_
      simp only [go_sem, Nat.reduceAdd, Nat.reduceSub, Nat.reduceMul, Nat.reduceLT, Nat.reduceLeDiff, Nat.reduceEqDiff, Nat.succ_ne_zero, reduceIte]
      rw [List.drop_eq_getElem_cons hk'] at hm
      simp only [szL] at hm
      refine cndC.mk (fun h => ?_) (fun h => ?_)
      · have h' : szBuf xs[k] m < 0 := by simpa using h
        simp only [go_sem, Nat.reduceAdd, Nat.reduceSub, Nat.reduceMul, Nat.reduceLT, Nat.reduceLeDiff, Nat.reduceEqDiff, Nat.succ_ne_zero, reduceIte]
        rw [sq_neg h'] at hm
        rw [hm]
      · have h' : ¬ szBuf xs[k] m < 0 := by simpa using h
        rw [sq_pos h'] at hm
        simp only [go_sem, Nat.reduceAdd, Nat.reduceSub, Nat.reduceMul, Nat.reduceLT, Nat.reduceLeDiff, Nat.reduceEqDiff, Nat.succ_ne_zero, reduceIte, wrap_i64 (n := (k : Int) + 1) (by omega) (by omega)]
        exact ⟨(k + 1, szBuf xs[k] m), ⟨rfl, rfl⟩, rfl, ⟨by simp only; omega, (by omega : (0 : Int) ≤ szBuf xs[k] m), hm⟩, by simp only; omega⟩
    · have hk' : k = xs.length := by simp at h; omega
      subst hk'
      simp only [go_sem, Nat.reduceAdd, Nat.reduceSub, Nat.reduceMul, Nat.reduceLT, Nat.reduceLeDiff, Nat.reduceEqDiff, Nat.succ_ne_zero, reduceIte]
      simp [szL] at hm
      rw [hm]
theorem szBufS_spec (xs : List DBuf) (l : Int) (hl : 0 ≤ l) : Ctr Tryz.prog 17 [.c (.sl (xs.map DBuf.c)), .c (.v (.int .i64 l))] [.val (.c (.v (.int .i64 (szS szBuf xs l))))] := szBufS_of xs (fun x _ l hl => szBuf_spec x l hl) l hl
theorem szDeadS_spec (xs : List DDead) (l : Int) (hl : 0 ≤ l) : Ctr Tryz.prog 19 [.c (.sl (xs.map DDead.c)), .c (.v (.int .i64 l))] [.val (.c (.v (.int .i64 (szI xs.length l))))] := by
  refine Ctr.mk (fn := Tryz.f19) Tryz.call19 Tryz.func19 rfl mixed Tryz.ntmps19 Tryz.results19 (by kernel_rfl) rfl fun hw => ?_
  have hlen : xs.length ≤ 9223372036854775807 := by have := hw.1.1; simpa [Go.maxLen] using this
  have hl2 : l ≤ 9223372036854775807 := i64_le hw.2.1
  simp only [go_sem, Nat.reduceAdd, Nat.reduceSub, Nat.reduceMul, Nat.reduceLT, Nat.reduceLeDiff, Nat.reduceEqDiff, Nat.succ_ne_zero, reduceIte, List.length_map, wrap_i64 (n := l - xs.length) (by omega) (by omega)]
  refine cndC.mk (fun h => ?_) (fun h => ?_)
  · have h' : l - xs.length < 0 := by simpa using h
    simp only [go_sem, Nat.reduceAdd, Nat.reduceSub, Nat.reduceMul, Nat.reduceLT, Nat.reduceLeDiff, Nat.reduceEqDiff, Nat.succ_ne_zero, reduceIte]
    simp [szI, h']
  · have h' : ¬ l - xs.length < 0 := by simpa using h
    simp only [go_sem, Nat.reduceAdd, Nat.reduceSub, Nat.reduceMul, Nat.reduceLT, Nat.reduceLeDiff, Nat.reduceEqDiff, Nat.succ_ne_zero, reduceIte]
    simp [szI, h']
theorem szRefS_spec (xs : List DRef) (l : Int) (hl : 0 ≤ l) : Ctr Tryz.prog 54 [.c (.sl (xs.map DRef.c)), .c (.v (.int .i64 l))] [.val (.c (.v (.int .i64 (szI xs.length l))))] := by
  refine Ctr.mk (fn := Tryz.f54) Tryz.call54 Tryz.func54 rfl mixed Tryz.ntmps54 Tryz.results54 (by kernel_rfl) rfl fun hw => ?_
  have hlen : xs.length ≤ 9223372036854775807 := by have := hw.1.1; simpa [Go.maxLen] using this
  have hl2 : l ≤ 9223372036854775807 := i64_le hw.2.1
  simp only [go_sem, Nat.reduceAdd, Nat.reduceSub, Nat.reduceMul, Nat.reduceLT, Nat.reduceLeDiff, Nat.reduceEqDiff, Nat.succ_ne_zero, reduceIte, List.length_map, wrap_i64 (n := l - xs.length) (by omega) (by omega)]
  refine cndC.mk (fun h => ?_) (fun h => ?_)
  · have h' : l - xs.length < 0 := by simpa using h
    simp only [go_sem, Nat.reduceAdd, Nat.reduceSub, Nat.reduceMul, Nat.reduceLT, Nat.reduceLeDiff, Nat.reduceEqDiff, Nat.succ_ne_zero, reduceIte]
    simp [szI, h']
  · have h' : ¬ l - xs.length < 0 := by simpa using h
    simp only [go_sem, Nat.reduceAdd, Nat.reduceSub, Nat.reduceMul, Nat.reduceLT, Nat.reduceLeDiff, Nat.reduceEqDiff, Nat.succ_ne_zero, reduceIte]
    simp [szI, h']
theorem szDir_spec (d : DDir) (l : Int) (hl : 0 ≤ l) : Ctr Tryz.prog 16 [.agg d.c, .c (.v (.int .i64 l))] [.val (.c (.v (.int .i64 (szDir d l))))] := by
  refine Ctr.mk (fn := Tryz.f16) Tryz.call16 Tryz.func16 rfl mixed Tryz.ntmps16 Tryz.results16 (by kernel_rfl) rfl fun hw => ?_
  rw [szDir_eq]
  simp only [go_sem, Nat.reduceAdd, Nat.reduceSub, Nat.reduceMul, Nat.reduceLT, Nat.reduceLeDiff, Nat.reduceEqDiff, Nat.succ_ne_zero, reduceIte]
  refine CallK.mk _ (by simpa only [go_sem] using szRefS_spec d.l _ (by omega)) fun _ => ?_
  simp only [go_sem, Nat.reduceAdd, Nat.reduceSub, Nat.reduceMul, Nat.reduceLT, Nat.reduceLeDiff, Nat.reduceEqDiff, Nat.succ_ne_zero, reduceIte]
  refine cndC.mk (fun h => ?_) (fun h => ?_)
  · have h0 : szI d.l.length (l) < 0 := by simpa using h
    simp only [go_sem, Nat.reduceAdd, Nat.reduceSub, Nat.reduceMul, Nat.reduceLT, Nat.reduceLeDiff, Nat.reduceEqDiff, Nat.succ_ne_zero, reduceIte]
    simp [sq, h0]
  · have h0 : ¬ szI d.l.length (l) < 0 := by simpa using h
    simp only [go_sem, Nat.reduceAdd, Nat.reduceSub, Nat.reduceMul, Nat.reduceLT, Nat.reduceLeDiff, Nat.reduceEqDiff, Nat.succ_ne_zero, reduceIte]
    simp [sq, h0]
theorem szTask_spec (d : DTask) (l : Int) (hl : 0 ≤ l) : Ctr Tryz.prog 56 [.agg d.c, .c (.v (.int .i64 l))] [.val (.c (.v (.int .i64 (szTask d l))))] := by
  refine Ctr.mk (fn := Tryz.f56) Tryz.call56 Tryz.func56 rfl mixed Tryz.ntmps56 Tryz.results56 (by kernel_rfl) rfl fun hw => ?_
  rw [szTask_eq]
  simp only [go_sem, Nat.reduceAdd, Nat.reduceSub, Nat.reduceMul, Nat.reduceLT, Nat.reduceLeDiff, Nat.reduceEqDiff, Nat.succ_ne_zero, reduceIte]
  refine CallK.mk _ (by simpa only [go_sem] using szValS_spec d.r _ (by omega)) fun _ => ?_
  simp only [go_sem, Nat.reduceAdd, Nat.reduceSub, Nat.reduceMul, Nat.reduceLT, Nat.reduceLeDiff, Nat.reduceEqDiff, Nat.succ_ne_zero, reduceIte]
  refine cndC.mk (fun h => ?_) (fun h => ?_)
  · have h0 : szS szVal d.r (l) < 0 := by simpa using h
    simp only [go_sem, Nat.reduceAdd, Nat.reduceSub, Nat.reduceMul, Nat.reduceLT, Nat.reduceLeDiff, Nat.reduceEqDiff, Nat.succ_ne_zero, reduceIte]
    simp [sq, h0]
  · have h0 : ¬ szS szVal d.r (l) < 0 := by simpa using h
    simp only [go_sem, Nat.reduceAdd, Nat.reduceSub, Nat.reduceMul, Nat.reduceLT, Nat.reduceLeDiff, Nat.reduceEqDiff, Nat.succ_ne_zero, reduceIte]
    refine CallK.mk _ (by simpa only [go_sem] using szQuery_spec d.q _ (by omega)) fun _ => ?_
    simp only [go_sem, Nat.reduceAdd, Nat.reduceSub, Nat.reduceMul, Nat.reduceLT, Nat.reduceLeDiff, Nat.reduceEqDiff, Nat.succ_ne_zero, reduceIte]
    refine cndC.mk (fun h => ?_) (fun h => ?_)
    · have h1 : szQuery d.q (szS szVal d.r (l)) < 0 := by simpa using h
      simp only [go_sem, Nat.reduceAdd, Nat.reduceSub, Nat.reduceMul, Nat.reduceLT, Nat.reduceLeDiff, Nat.reduceEqDiff, Nat.succ_ne_zero, reduceIte]
      simp [sq, h0, h1]
    · have h1 : ¬ szQuery d.q (szS szVal d.r (l)) < 0 := by simpa using h
      simp only [go_sem, Nat.reduceAdd, Nat.reduceSub, Nat.reduceMul, Nat.reduceLT, Nat.reduceLeDiff, Nat.reduceEqDiff, Nat.succ_ne_zero, reduceIte]
      refine CallK.mk _ (by simpa only [go_sem] using szRefS_spec d.l _ (by omega)) fun _ => ?_
      simp only [go_sem, Nat.reduceAdd, Nat.reduceSub, Nat.reduceMul, Nat.reduceLT, Nat.reduceLeDiff, Nat.reduceEqDiff, Nat.succ_ne_zero, reduceIte]
      refine cndC.mk (fun h => ?_) (fun h => ?_)
      · have h2 : szI d.l.length (szQuery d.q (szS szVal d.r (l))) < 0 := by simpa using h
        simp only [go_sem, Nat.reduceAdd, Nat.reduceSub, Nat.reduceMul, Nat.reduceLT, Nat.reduceLeDiff, Nat.reduceEqDiff, Nat.succ_ne_zero, reduceIte]
        simp [sq, h0, h1, h2]
      · have h2 : ¬ szI d.l.length (szQuery d.q (szS szVal d.r (l))) < 0 := by simpa using h
        simp only [go_sem, Nat.reduceAdd, Nat.reduceSub, Nat.reduceMul, Nat.reduceLT, Nat.reduceLeDiff, Nat.reduceEqDiff, Nat.succ_ne_zero, reduceIte]
        refine CallK.mk _ (by simpa only [go_sem] using szRowS_spec d.got _ (by omega)) fun _ => ?_
        simp only [go_sem, Nat.reduceAdd, Nat.reduceSub, Nat.reduceMul, Nat.reduceLT, Nat.reduceLeDiff, Nat.reduceEqDiff, Nat.succ_ne_zero, reduceIte]
        refine cndC.mk (fun h => ?_) (fun h => ?_)
        · have h3 : szS szRow d.got (szI d.l.length (szQuery d.q (szS szVal d.r (l)))) < 0 := by simpa using h
          simp only [go_sem, Nat.reduceAdd, Nat.reduceSub, Nat.reduceMul, Nat.reduceLT, Nat.reduceLeDiff, Nat.reduceEqDiff, Nat.succ_ne_zero, reduceIte]
          simp [sq, h0, h1, h2, h3]
        · have h3 : ¬ szS szRow d.got (szI d.l.length (szQuery d.q (szS szVal d.r (l)))) < 0 := by simpa using h
          simp only [go_sem, Nat.reduceAdd, Nat.reduceSub, Nat.reduceMul, Nat.reduceLT, Nat.reduceLeDiff, Nat.reduceEqDiff, Nat.succ_ne_zero, reduceIte]
          simp [sq, h0, h1, h2, h3]
theorem szTaskS_of (xs : List DTask) (hx : ∀ x ∈ xs, ∀ l, 0 ≤ l → Ctr Tryz.prog 56 [.agg x.c, .c (.v (.int .i64 l))] [.val (.c (.v (.int .i64 (szTask x l))))]) (l : Int) (hl : 0 ≤ l) : Ctr Tryz.prog 20 [.c (.sl (xs.map DTask.c)), .c (.v (.int .i64 l))] [.val (.c (.v (.int .i64 (szS szTask xs l))))] := by
  refine Ctr.mk (fn := Tryz.f20) Tryz.call20 Tryz.func20 rfl mixed Tryz.ntmps20 Tryz.results20 (by kernel_rfl) rfl fun hw => ?_
  have hlen : xs.length ≤ 9223372036854775807 := by have := hw.1.1; simpa [Go.maxLen] using this
  have hl2 : l ≤ 9223372036854775807 := i64_le hw.2.1
  simp only [go_sem, Nat.reduceAdd, Nat.reduceSub, Nat.reduceMul, Nat.reduceLT, Nat.reduceLeDiff, Nat.reduceEqDiff, Nat.succ_ne_zero, reduceIte, List.length_map, wrap_i64 (n := l - xs.length) (by omega) (by omega)]
  refine cndC.mk (fun h => ?_) (fun h => ?_)
  · have h' : l - xs.length < 0 := by simpa using h
    simp only [go_sem, Nat.reduceAdd, Nat.reduceSub, Nat.reduceMul, Nat.reduceLT, Nat.reduceLeDiff, Nat.reduceEqDiff, Nat.succ_ne_zero, reduceIte]
    simp [szS, sq, szI, h']
  · have h' : ¬ l - xs.length < 0 := by simpa using h
    simp only [go_sem, Nat.reduceAdd, Nat.reduceSub, Nat.reduceMul, Nat.reduceLT, Nat.reduceLeDiff, Nat.reduceEqDiff, Nat.succ_ne_zero, reduceIte]
    refine LoopK.mk 0 [0, 1, 5] (A := Nat × Int) (fun x => ⟨27, [(0, .c (.sl (xs.map DTask.c))), (1, .c (.v (.int .i64 x.2))), (5, .c (.v (.int .i64 x.1)))], []⟩) (fun x => x.1 ≤ xs.length ∧ 0 ≤ x.2 ∧ szL szTask (xs.drop x.1) x.2 = szS szTask xs l) (fun x => xs.length - x.1)
      (0, l - xs.length) ⟨⟨rfl, rfl⟩, rfl, Nat.zero_le _, by simp only; omega, by simp [szS, sq, szI, h']⟩ ?_
    rintro ⟨k, m⟩ ⟨hk, hm0, hm⟩
    simp only at hk hm hm0
    simp only [go_sem, Nat.reduceAdd, Nat.reduceSub, Nat.reduceMul, Nat.reduceLT, Nat.reduceLeDiff, Nat.reduceEqDiff, Nat.succ_ne_zero, reduceIte, List.length_map]
    refine cndC.mk (fun h => ?_) (fun h => ?_)
    · have hk' : k < xs.length := by simpa using h
      simp only [go_sem, Nat.reduceAdd, Nat.reduceSub, Nat.reduceMul, Nat.reduceLT, Nat.reduceLeDiff, Nat.reduceEqDiff, Nat.succ_ne_zero, reduceIte, map_at _ hk']
      refine CallK.mk _ (by simpa only [go_sem] using hx xs[k] (List.getElem_mem hk') m hm0) fun _ => ?_
      simp only [go_sem, Nat.reduceAdd, Nat.reduceSub, Nat.reduceMul, Nat.reduceLT, Nat.reduceLeDiff, Nat.reduceEqDiff, Nat.succ_ne_zero, reduceIte]
      rw [List.drop_eq_getElem_cons hk'] at hm
      simp only [szL] at hm
      refine cndC.mk (fun h => ?_) (fun h => ?_)
      · have h' : szTask xs[k] m < 0 := by simpa using h
        simp only [go_sem, Nat.reduceAdd, Nat.reduceSub, Nat.reduceMul, Nat.reduceLT, Nat.reduceLeDiff, Nat.reduceEqDiff, Nat.succ_ne_zero, reduceIte]
        rw [sq_neg h'] at hm
        rw [hm]
      · have h' : ¬ szTask xs[k] m < 0 := by simpa using h
        rw [sq_pos h'] at hm
        simp only [go_sem, Nat.reduceAdd, Nat.reduceSub, Nat.reduceMul, Nat.reduceLT, Nat.reduceLeDiff, Nat.reduceEqDiff, Nat.succ_ne_zero, reduceIte, wrap_i64 (n := (k : Int) + 1) (by omega) (by omega)]
        exact ⟨(k + 1, szTask xs[k] m), ⟨rfl, rfl⟩, rfl, ⟨by simp only; omega, (by omega : (0 : Int) ≤ szTask xs[k] m), hm⟩, by simp only; omega⟩
    · have hk' : k = xs.length := by simp at h; omega
      subst hk'
      simp only [go_sem, Nat.reduceAdd, Nat.reduceSub, Nat.reduceMul, Nat.reduceLT, Nat.reduceLeDiff, Nat.reduceEqDiff, Nat.succ_ne_zero, reduceIte]
      simp [szL] at hm
      rw [hm]
theorem szTaskS_spec (xs : List DTask) (l : Int) (hl : 0 ≤ l) : Ctr Tryz.prog 20 [.c (.sl (xs.map DTask.c)), .c (.v (.int .i64 l))] [.val (.c (.v (.int .i64 (szS szTask xs l))))] := szTaskS_of xs (fun x _ l hl => szTask_spec x l hl) l hl
theorem szDeed_spec (d : DDeed) (l : Int) (hl : 0 ≤ l) : Ctr Tryz.prog 57 [.agg d.c, .c (.v (.int .i64 l))] [.val (.c (.v (.int .i64 (szDeed d l))))] := by
  refine Ctr.mk (fn := Tryz.f57) Tryz.call57 Tryz.func57 rfl mixed Tryz.ntmps57 Tryz.results57 (by kernel_rfl) rfl fun hw => ?_
  rw [szDeed_eq]
  simp only [go_sem, Nat.reduceAdd, Nat.reduceSub, Nat.reduceMul, Nat.reduceLT, Nat.reduceLeDiff, Nat.reduceEqDiff, Nat.succ_ne_zero, reduceIte]
  refine CallK.mk _ (by simpa only [go_sem] using szValS_spec d.r _ (by omega)) fun _ => ?_
  simp only [go_sem, Nat.reduceAdd, Nat.reduceSub, Nat.reduceMul, Nat.reduceLT, Nat.reduceLeDiff, Nat.reduceEqDiff, Nat.succ_ne_zero, reduceIte]
  refine cndC.mk (fun h => ?_) (fun h => ?_)
  · have h0 : szS szVal d.r (l) < 0 := by simpa using h
    simp only [go_sem, Nat.reduceAdd, Nat.reduceSub, Nat.reduceMul, Nat.reduceLT, Nat.reduceLeDiff, Nat.reduceEqDiff, Nat.succ_ne_zero, reduceIte]
    simp [sq, h0]
  · have h0 : ¬ szS szVal d.r (l) < 0 := by simpa using h
    simp only [go_sem, Nat.reduceAdd, Nat.reduceSub, Nat.reduceMul, Nat.reduceLT, Nat.reduceLeDiff, Nat.reduceEqDiff, Nat.succ_ne_zero, reduceIte]
    refine CallK.mk _ (by simpa only [go_sem] using szQuery_spec d.q _ (by omega)) fun _ => ?_
    simp only [go_sem, Nat.reduceAdd, Nat.reduceSub, Nat.reduceMul, Nat.reduceLT, Nat.reduceLeDiff, Nat.reduceEqDiff, Nat.succ_ne_zero, reduceIte]
    refine cndC.mk (fun h => ?_) (fun h => ?_)
    · have h1 : szQuery d.q (szS szVal d.r (l)) < 0 := by simpa using h
      simp only [go_sem, Nat.reduceAdd, Nat.reduceSub, Nat.reduceMul, Nat.reduceLT, Nat.reduceLeDiff, Nat.reduceEqDiff, Nat.succ_ne_zero, reduceIte]
      simp [sq, h0, h1]
    · have h1 : ¬ szQuery d.q (szS szVal d.r (l)) < 0 := by simpa using h
      simp only [go_sem, Nat.reduceAdd, Nat.reduceSub, Nat.reduceMul, Nat.reduceLT, Nat.reduceLeDiff, Nat.reduceEqDiff, Nat.succ_ne_zero, reduceIte]
      refine CallK.mk _ (by simpa only [go_sem] using szResult_spec d.res _ (by omega)) fun _ => ?_
      simp only [go_sem, Nat.reduceAdd, Nat.reduceSub, Nat.reduceMul, Nat.reduceLT, Nat.reduceLeDiff, Nat.reduceEqDiff, Nat.succ_ne_zero, reduceIte]
      refine cndC.mk (fun h => ?_) (fun h => ?_)
      · have h2 : szResult d.res (szQuery d.q (szS szVal d.r (l))) < 0 := by simpa using h
        simp only [go_sem, Nat.reduceAdd, Nat.reduceSub, Nat.reduceMul, Nat.reduceLT, Nat.reduceLeDiff, Nat.reduceEqDiff, Nat.succ_ne_zero, reduceIte]
        simp [sq, h0, h1, h2]
      · have h2 : ¬ szResult d.res (szQuery d.q (szS szVal d.r (l))) < 0 := by simpa using h
        simp only [go_sem, Nat.reduceAdd, Nat.reduceSub, Nat.reduceMul, Nat.reduceLT, Nat.reduceLeDiff, Nat.reduceEqDiff, Nat.succ_ne_zero, reduceIte]
        simp [sq, h0, h1, h2]
theorem szDeedS_of (xs : List DDeed) (hx : ∀ x ∈ xs, ∀ l, 0 ≤ l → Ctr Tryz.prog 57 [.agg x.c, .c (.v (.int .i64 l))] [.val (.c (.v (.int .i64 (szDeed x l))))]) (l : Int) (hl : 0 ≤ l) : Ctr Tryz.prog 21 [.c (.sl (xs.map DDeed.c)), .c (.v (.int .i64 l))] [.val (.c (.v (.int .i64 (szS szDeed xs l))))] := by
  refine Ctr.mk (fn := Tryz.f21) Tryz.call21 Tryz.func21 rfl mixed Tryz.ntmps21 Tryz.results21 (by kernel_rfl) rfl fun hw => ?_
  have hlen : xs.length ≤ 9223372036854775807 := by have := hw.1.1; simpa [Go.maxLen] using this
  have hl2 : l ≤ 9223372036854775807 := i64_le hw.2.1
  simp only [go_sem, Nat.reduceAdd, Nat.reduceSub, Nat.reduceMul, Nat.reduceLT, Nat.reduceLeDiff, Nat.reduceEqDiff, Nat.succ_ne_zero, reduceIte, List.length_map, wrap_i64 (n := l - xs.length) (by omega) (by omega)]
  refine cndC.mk (fun h => ?_) (fun h => ?_)
  · have h' : l - xs.length < 0 := by simpa using h
    simp only [go_sem, Nat.reduceAdd, Nat.reduceSub, Nat.reduceMul, Nat.reduceLT, Nat.reduceLeDiff, Nat.reduceEqDiff, Nat.succ_ne_zero, reduceIte]
    simp [szS, sq, szI, h']
  · have h' : ¬ l - xs.length < 0 := by simpa using h
    simp only [go_sem, Nat.reduceAdd, Nat.reduceSub, Nat.reduceMul, Nat.reduceLT, Nat.reduceLeDiff, Nat.reduceEqDiff, Nat.succ_ne_zero, reduceIte]
    refine LoopK.mk 0 [0, 1, 5] (A := Nat × Int) (fun x => ⟨27, [(0, .c (.sl (xs.map DDeed.c))), (1, .c (.v (.int .i64 x.2))), (5, .c (.v (.int .i64 x.1)))], []⟩) (fun x => x.1 ≤ xs.length ∧ 0 ≤ x.2 ∧ szL szDeed (xs.drop x.1) x.2 = szS szDeed xs l) (fun x => xs.length - x.1)
      (0, l - xs.length) ⟨⟨rfl, rfl⟩, rfl, Nat.zero_le _, by simp only; omega, by simp [szS, sq, szI, h']⟩ ?_
    rintro ⟨k, m⟩ ⟨hk, hm0, hm⟩
    simp only at hk hm hm0
    simp only [go_sem, Nat.reduceAdd, Nat.reduceSub, Nat.reduceMul, Nat.reduceLT, Nat.reduceLeDiff, Nat.reduceEqDiff, Nat.succ_ne_zero, reduceIte, List.length_map]
    refine cndC.mk (fun h => ?_) (fun h => ?_)
    · have hk' : k < xs.length := by simpa using h
      simp only [go_sem, Nat.reduceAdd, Nat.reduceSub, Nat.reduceMul, Nat.reduceLT, Nat.reduceLeDiff, Nat.reduceEqDiff, Nat.succ_ne_zero, reduceIte, map_at _ hk']
      refine CallK.mk _ (by simpa only [go_sem] using hx xs[k] (List.getElem_mem hk') m hm0) fun _ => ?_
      simp only [go_sem, Nat.reduceAdd, Nat.reduceSub, Nat.reduceMul, Nat.reduceLT, Nat.reduceLeDiff, Nat.reduceEqDiff, Nat.succ_ne_zero, reduceIte]
      rw [List.drop_eq_getElem_cons hk'] at hm
      simp only [szL] at hm
      refine cndC.mk (fun h => ?_) (fun h => ?_)
      · have h' : szDeed xs[k] m < 0 := by simpa using h
        simp only [go_sem, Nat.reduceAdd, Nat.reduceSub, Nat.reduceMul, Nat.reduceLT, Nat.reduceLeDiff, Nat.reduceEqDiff, Nat.succ_ne_zero, reduceIte]
        rw [sq_neg h'] at hm
        rw [hm]
      · have h' : ¬ szDeed xs[k] m < 0 := by simpa using h
        rw [sq_pos h'] at hm
        simp only [go_sem, Nat.reduceAdd, Nat.reduceSub, Nat.reduceMul, Nat.reduceLT, Nat.reduceLeDiff, Nat.reduceEqDiff, Nat.succ_ne_zero, reduceIte, wrap_i64 (n := (k : Int) + 1) (by omega) (by omega)]
        exact ⟨(k + 1, szDeed xs[k] m), ⟨rfl, rfl⟩, rfl, ⟨by simp only; omega, (by omega : (0 : Int) ≤ szDeed xs[k] m), hm⟩, by simp only; omega⟩
    · have hk' : k = xs.length := by simp at h; omega
      subst hk'
      simp only [go_sem, Nat.reduceAdd, Nat.reduceSub, Nat.reduceMul, Nat.reduceLT, Nat.reduceLeDiff, Nat.reduceEqDiff, Nat.succ_ne_zero, reduceIte]
      simp [szL] at hm
      rw [hm]
theorem szDeedS_spec (xs : List DDeed) (l : Int) (hl : 0 ≤ l) : Ctr Tryz.prog 21 [.c (.sl (xs.map DDeed.c)), .c (.v (.int .i64 l))] [.val (.c (.v (.int .i64 (szS szDeed xs l))))] := szDeedS_of xs (fun x _ l hl => szDeed_spec x l hl) l hl
theorem szConf_spec (d : DConf) (l : Int) (hl : 0 ≤ l) : Ctr Tryz.prog 15 [.agg d.c, .c (.v (.int .i64 l))] [.val (.c (.v (.int .i64 (szConf d l))))] := by
  refine Ctr.mk (fn := Tryz.f15) Tryz.call15 Tryz.func15 rfl mixed Tryz.ntmps15 Tryz.results15 (by kernel_rfl) rfl fun hw => ?_
  rw [szConf_eq]
  simp only [go_sem, Nat.reduceAdd, Nat.reduceSub, Nat.reduceMul, Nat.reduceLT, Nat.reduceLeDiff, Nat.reduceEqDiff, Nat.succ_ne_zero, reduceIte]
  refine CallK.mk _ (by simpa only [go_sem] using szIntS_spec d.cols _ (by omega)) fun _ => ?_
  simp only [go_sem, Nat.reduceAdd, Nat.reduceSub, Nat.reduceMul, Nat.reduceLT, Nat.reduceLeDiff, Nat.reduceEqDiff, Nat.succ_ne_zero, reduceIte]
  refine cndC.mk (fun h => ?_) (fun h => ?_)
  · have h0 : szI d.cols.length (l) < 0 := by simpa using h
    simp only [go_sem, Nat.reduceAdd, Nat.reduceSub, Nat.reduceMul, Nat.reduceLT, Nat.reduceLeDiff, Nat.reduceEqDiff, Nat.succ_ne_zero, reduceIte]
    simp [sq, h0]
  · have h0 : ¬ szI d.cols.length (l) < 0 := by simpa using h
    simp only [go_sem, Nat.reduceAdd, Nat.reduceSub, Nat.reduceMul, Nat.reduceLT, Nat.reduceLeDiff, Nat.reduceEqDiff, Nat.succ_ne_zero, reduceIte]
    simp [sq, h0]
theorem szWorld_spec (d : DWorld) (l : Int) (hl : 0 ≤ l) : Ctr Tryz.prog 4 [.agg d.c, .c (.v (.int .i64 l))] [.val (.c (.v (.int .i64 (szWorld d l))))] := by
  refine Ctr.mk (fn := Tryz.f4) Tryz.call4 Tryz.func4 rfl mixed Tryz.ntmps4 Tryz.results4 (by kernel_rfl) rfl fun hw => ?_
  rw [szWorld_eq]
  simp only [go_sem, Nat.reduceAdd, Nat.reduceSub, Nat.reduceMul, Nat.reduceLT, Nat.reduceLeDiff, Nat.reduceEqDiff, Nat.succ_ne_zero, reduceIte]
  refine CallK.mk _ (by simpa only [go_sem] using szConf_spec d.c0 _ (by omega)) fun _ => ?_
  simp only [go_sem, Nat.reduceAdd, Nat.reduceSub, Nat.reduceMul, Nat.reduceLT, Nat.reduceLeDiff, Nat.reduceEqDiff, Nat.succ_ne_zero, reduceIte]
  refine cndC.mk (fun h => ?_) (fun h => ?_)
  · have h0 : szConf d.c0 (l) < 0 := by simpa using h
    simp only [go_sem, Nat.reduceAdd, Nat.reduceSub, Nat.reduceMul, Nat.reduceLT, Nat.reduceLeDiff, Nat.reduceEqDiff, Nat.succ_ne_zero, reduceIte]
    simp [sq, h0]
  · have h0 : ¬ szConf d.c0 (l) < 0 := by simpa using h
    simp only [go_sem, Nat.reduceAdd, Nat.reduceSub, Nat.reduceMul, Nat.reduceLT, Nat.reduceLeDiff, Nat.reduceEqDiff, Nat.succ_ne_zero, reduceIte]
    refine CallK.mk _ (by simpa only [go_sem] using szDir_spec d.d _ (by omega)) fun _ => ?_
    simp only [go_sem, Nat.reduceAdd, Nat.reduceSub, Nat.reduceMul, Nat.reduceLT, Nat.reduceLeDiff, Nat.reduceEqDiff, Nat.succ_ne_zero, reduceIte]
    refine cndC.mk (fun h => ?_) (fun h => ?_)
    · have h1 : szDir d.d (szConf d.c0 (l)) < 0 := by simpa using h
      simp only [go_sem, Nat.reduceAdd, Nat.reduceSub, Nat.reduceMul, Nat.reduceLT, Nat.reduceLeDiff, Nat.reduceEqDiff, Nat.succ_ne_zero, reduceIte]
      simp [sq, h0, h1]
    · have h1 : ¬ szDir d.d (szConf d.c0 (l)) < 0 := by simpa using h
      simp only [go_sem, Nat.reduceAdd, Nat.reduceSub, Nat.reduceMul, Nat.reduceLT, Nat.reduceLeDiff, Nat.reduceEqDiff, Nat.succ_ne_zero, reduceIte]
      refine CallK.mk _ (by simpa only [go_sem] using szBufS_spec d.b _ (by omega)) fun _ => ?_
      simp only [go_sem, Nat.reduceAdd, Nat.reduceSub, Nat.reduceMul, Nat.reduceLT, Nat.reduceLeDiff, Nat.reduceEqDiff, Nat.succ_ne_zero, reduceIte]
      refine cndC.mk (fun h => ?_) (fun h => ?_)
      · have h2 : szS szBuf d.b (szDir d.d (szConf d.c0 (l))) < 0 := by simpa using h
        simp only [go_sem, Nat.reduceAdd, Nat.reduceSub, Nat.reduceMul, Nat.reduceLT, Nat.reduceLeDiff, Nat.reduceEqDiff, Nat.succ_ne_zero, reduceIte]
        simp [sq, h0, h1, h2]
      · have h2 : ¬ szS szBuf d.b (szDir d.d (szConf d.c0 (l))) < 0 := by simpa using h
        simp only [go_sem, Nat.reduceAdd, Nat.reduceSub, Nat.reduceMul, Nat.reduceLT, Nat.reduceLeDiff, Nat.reduceEqDiff, Nat.succ_ne_zero, reduceIte]
        refine CallK.mk _ (by simpa only [go_sem] using szIntS_spec d.m _ (by omega)) fun _ => ?_
        simp only [go_sem, Nat.reduceAdd, Nat.reduceSub, Nat.reduceMul, Nat.reduceLT, Nat.reduceLeDiff, Nat.reduceEqDiff, Nat.succ_ne_zero, reduceIte]
        refine cndC.mk (fun h => ?_) (fun h => ?_)
        · have h3 : szI d.m.length (szS szBuf d.b (szDir d.d (szConf d.c0 (l)))) < 0 := by simpa using h
          simp only [go_sem, Nat.reduceAdd, Nat.reduceSub, Nat.reduceMul, Nat.reduceLT, Nat.reduceLeDiff, Nat.reduceEqDiff, Nat.succ_ne_zero, reduceIte]
          simp [sq, h0, h1, h2, h3]
        · have h3 : ¬ szI d.m.length (szS szBuf d.b (szDir d.d (szConf d.c0 (l)))) < 0 := by simpa using h
          simp only [go_sem, Nat.reduceAdd, Nat.reduceSub, Nat.reduceMul, Nat.reduceLT, Nat.reduceLeDiff, Nat.reduceEqDiff, Nat.succ_ne_zero, reduceIte]
          refine CallK.mk _ (by simpa only [go_sem] using szDeadS_spec d.x _ (by omega)) fun _ => ?_
          simp only [go_sem, Nat.reduceAdd, Nat.reduceSub, Nat.reduceMul, Nat.reduceLT, Nat.reduceLeDiff, Nat.reduceEqDiff, Nat.succ_ne_zero, reduceIte]
          refine cndC.mk (fun h => ?_) (fun h => ?_)
          · have h4 : szI d.x.length (szI d.m.length (szS szBuf d.b (szDir d.d (szConf d.c0 (l))))) < 0 := by simpa using h
            simp only [go_sem, Nat.reduceAdd, Nat.reduceSub, Nat.reduceMul, Nat.reduceLT, Nat.reduceLeDiff, Nat.reduceEqDiff, Nat.succ_ne_zero, reduceIte]
            simp [sq, h0, h1, h2, h3, h4]
          · have h4 : ¬ szI d.x.length (szI d.m.length (szS szBuf d.b (szDir d.d (szConf d.c0 (l))))) < 0 := by simpa using h
            simp only [go_sem, Nat.reduceAdd, Nat.reduceSub, Nat.reduceMul, Nat.reduceLT, Nat.reduceLeDiff, Nat.reduceEqDiff, Nat.succ_ne_zero, reduceIte]
            refine CallK.mk _ (by simpa only [go_sem] using szIntS_spec d.p _ (by omega)) fun _ => ?_
            simp only [go_sem, Nat.reduceAdd, Nat.reduceSub, Nat.reduceMul, Nat.reduceLT, Nat.reduceLeDiff, Nat.reduceEqDiff, Nat.succ_ne_zero, reduceIte]
            refine cndC.mk (fun h => ?_) (fun h => ?_)
            · have h5 : szI d.p.length (szI d.x.length (szI d.m.length (szS szBuf d.b (szDir d.d (szConf d.c0 (l)))))) < 0 := by simpa using h
              simp only [go_sem, Nat.reduceAdd, Nat.reduceSub, Nat.reduceMul, Nat.reduceLT, Nat.reduceLeDiff, Nat.reduceEqDiff, Nat.succ_ne_zero, reduceIte]
              simp [sq, h0, h1, h2, h3, h4, h5]
            · have h5 : ¬ szI d.p.length (szI d.x.length (szI d.m.length (szS szBuf d.b (szDir d.d (szConf d.c0 (l)))))) < 0 := by simpa using h
              simp only [go_sem, Nat.reduceAdd, Nat.reduceSub, Nat.reduceMul, Nat.reduceLT, Nat.reduceLeDiff, Nat.reduceEqDiff, Nat.succ_ne_zero, reduceIte]
              refine CallK.mk _ (by simpa only [go_sem] using szTaskS_spec d.tasks _ (by omega)) fun _ => ?_
              simp only [go_sem, Nat.reduceAdd, Nat.reduceSub, Nat.reduceMul, Nat.reduceLT, Nat.reduceLeDiff, Nat.reduceEqDiff, Nat.succ_ne_zero, reduceIte]
              refine cndC.mk (fun h => ?_) (fun h => ?_)
              · have h6 : szS szTask d.tasks (szI d.p.length (szI d.x.length (szI d.m.length (szS szBuf d.b (szDir d.d (szConf d.c0 (l))))))) < 0 := by simpa using h
                simp only [go_sem, Nat.reduceAdd, Nat.reduceSub, Nat.reduceMul, Nat.reduceLT, Nat.reduceLeDiff, Nat.reduceEqDiff, Nat.succ_ne_zero, reduceIte]
                simp [sq, h0, h1, h2, h3, h4, h5, h6]
              · have h6 : ¬ szS szTask d.tasks (szI d.p.length (szI d.x.length (szI d.m.length (szS szBuf d.b (szDir d.d (szConf d.c0 (l))))))) < 0 := by simpa using h
                simp only [go_sem, Nat.reduceAdd, Nat.reduceSub, Nat.reduceMul, Nat.reduceLT, Nat.reduceLeDiff, Nat.reduceEqDiff, Nat.succ_ne_zero, reduceIte]
                refine CallK.mk _ (by simpa only [go_sem] using szDeedS_spec d.deeds _ (by omega)) fun _ => ?_
                simp only [go_sem, Nat.reduceAdd, Nat.reduceSub, Nat.reduceMul, Nat.reduceLT, Nat.reduceLeDiff, Nat.reduceEqDiff, Nat.succ_ne_zero, reduceIte]
                refine cndC.mk (fun h => ?_) (fun h => ?_)
                · have h7 : szS szDeed d.deeds (szS szTask d.tasks (szI d.p.length (szI d.x.length (szI d.m.length (szS szBuf d.b (szDir d.d (szConf d.c0 (l)))))))) < 0 := by simpa using h
                  simp only [go_sem, Nat.reduceAdd, Nat.reduceSub, Nat.reduceMul, Nat.reduceLT, Nat.reduceLeDiff, Nat.reduceEqDiff, Nat.succ_ne_zero, reduceIte]
                  simp [sq, h0, h1, h2, h3, h4, h5, h6, h7]
                · have h7 : ¬ szS szDeed d.deeds (szS szTask d.tasks (szI d.p.length (szI d.x.length (szI d.m.length (szS szBuf d.b (szDir d.d (szConf d.c0 (l)))))))) < 0 := by simpa using h
                  simp only [go_sem, Nat.reduceAdd, Nat.reduceSub, Nat.reduceMul, Nat.reduceLT, Nat.reduceLeDiff, Nat.reduceEqDiff, Nat.succ_ne_zero, reduceIte]
                  simp [sq, h0, h1, h2, h3, h4, h5, h6, h7]
theorem toIntS_own (xs : List Int) (hf : xs.length ≤ 1048576) : Ctr Tryz.prog 29 [.c (.sl (xs.map intC))] [.own 3 1 (xs.map intC) true] := by
  refine Ctr.mk (fn := Tryz.f29) Tryz.call29 Tryz.func29 rfl mixed Tryz.ntmps29 Tryz.results29 (by kernel_rfl) rfl fun _ => ?_
  have hc : (0 : Int) ≤ xs.length ∧ (xs.length : Int) ≤ xs.length ∧ (xs.length : Int) ≤ 2147483648 := by omega
  simp only [go_sem, Nat.reduceAdd, Nat.reduceSub, Nat.reduceMul, Nat.reduceLT, Nat.reduceLeDiff, Nat.reduceEqDiff, Nat.succ_ne_zero, reduceIte, List.length_map, hc, List.length_replicate]
  have hg := fun k => @trim1_grow _ intC intC.pure [.v (.int .i64 0)] rfl xs k 3 1 true true
  refine LoopK.mk 1 [0, 3, 4] (A := Nat) (fun k => ⟨22, [(0, .c (.sl (xs.map intC))), (3, .c (.ref 0)), (4, .c (.v (.int .i64 k)))], [⟨3, 1, grow (xs.map intC) [.v (.int .i64 0)] k, true, true⟩]⟩) (fun k => k ≤ xs.length) (fun k => xs.length - k) 0 ⟨⟨rfl, by have := hg 0; simp only [grow_zero, List.length_map] at this; exact this⟩, by simp only [grow_zero, List.length_map]; rfl, Nat.zero_le _⟩ ?_
  intro k hk
  simp only [go_sem, Nat.reduceAdd, Nat.reduceSub, Nat.reduceMul, Nat.reduceLT, Nat.reduceLeDiff, Nat.reduceEqDiff, Nat.succ_ne_zero, reduceIte, List.length_map]
  refine cndC.mk (fun h => ?_) (fun h => ?_)
  · have hk' : k < xs.length := by simpa using h
    have hset := @grow_setm _ intC xs [.v (.int .i64 0)] k hk'
    simp only [go_sem] at hset
    simp only [go_sem, Nat.reduceAdd, Nat.reduceSub, Nat.reduceMul, Nat.reduceLT, Nat.reduceLeDiff, Nat.reduceEqDiff, Nat.succ_ne_zero, reduceIte, map_at _ hk', grow_lenm hk, grow_atm hk', hk', hset, wrap_i64 (n := (k : Int) + 1) (by omega) (by omega)]
    exact ⟨k + 1, ⟨rfl, hg _⟩, rfl, by omega, by first | omega | (simp only; omega)⟩
  · have hk' : k = xs.length := by simp at h; omega
    subst hk'
    rw [grow_allm]
    simp only [go_sem, Nat.reduceAdd, Nat.reduceSub, Nat.reduceMul, Nat.reduceLT, Nat.reduceLeDiff, Nat.reduceEqDiff, Nat.succ_ne_zero, reduceIte]
    simp [nrE_of_pure (pureE_map intC.pure)]
theorem toByteS_own (xs : List Int) (hf : xs.length ≤ 1048576) : Ctr Tryz.prog 85 [.c (.sl (xs.map byteC))] [.own 5 1 (xs.map byteC) true] := by
  refine Ctr.mk (fn := Tryz.f85) Tryz.call85 Tryz.func85 rfl mixed Tryz.ntmps85 Tryz.results85 (by kernel_rfl) rfl fun _ => ?_
  have hc : (0 : Int) ≤ xs.length ∧ (xs.length : Int) ≤ xs.length ∧ (xs.length : Int) ≤ 2147483648 := by omega
  simp only [go_sem, Nat.reduceAdd, Nat.reduceSub, Nat.reduceMul, Nat.reduceLT, Nat.reduceLeDiff, Nat.reduceEqDiff, Nat.succ_ne_zero, reduceIte, List.length_map, hc, List.length_replicate]
  have hg := fun k => @trim1_grow _ byteC byteC.pure [.v (.int .u8 0)] rfl xs k 5 1 true true
  refine LoopK.mk 1 [0, 3, 4] (A := Nat) (fun k => ⟨22, [(0, .c (.sl (xs.map byteC))), (3, .c (.ref 0)), (4, .c (.v (.int .i64 k)))], [⟨5, 1, grow (xs.map byteC) [.v (.int .u8 0)] k, true, true⟩]⟩) (fun k => k ≤ xs.length) (fun k => xs.length - k) 0 ⟨⟨rfl, by have := hg 0; simp only [grow_zero, List.length_map] at this; exact this⟩, by simp only [grow_zero, List.length_map]; rfl, Nat.zero_le _⟩ ?_
  intro k hk
  simp only [go_sem, Nat.reduceAdd, Nat.reduceSub, Nat.reduceMul, Nat.reduceLT, Nat.reduceLeDiff, Nat.reduceEqDiff, Nat.succ_ne_zero, reduceIte, List.length_map]
  refine cndC.mk (fun h => ?_) (fun h => ?_)
  · have hk' : k < xs.length := by simpa using h
    have hset := @grow_setm _ byteC xs [.v (.int .u8 0)] k hk'
    simp only [go_sem] at hset
    simp only [go_sem, Nat.reduceAdd, Nat.reduceSub, Nat.reduceMul, Nat.reduceLT, Nat.reduceLeDiff, Nat.reduceEqDiff, Nat.succ_ne_zero, reduceIte, map_at _ hk', grow_lenm hk, grow_atm hk', hk', hset, wrap_i64 (n := (k : Int) + 1) (by omega) (by omega)]
    exact ⟨k + 1, ⟨rfl, hg _⟩, rfl, by omega, by first | omega | (simp only; omega)⟩
  · have hk' : k = xs.length := by simp at h; omega
    subst hk'
    rw [grow_allm]
    simp only [go_sem, Nat.reduceAdd, Nat.reduceSub, Nat.reduceMul, Nat.reduceLT, Nat.reduceLeDiff, Nat.reduceEqDiff, Nat.succ_ne_zero, reduceIte]
    simp [nrE_of_pure (pureE_map byteC.pure)]
theorem toIntS_spec (xs : List Int) (hf : xs.length ≤ 1048576) : Ctr Tryz.prog 29 [.c (.sl (xs.map intC))] [.val (.c (.sl (xs.map intC)))] := (toIntS_own xs hf).val (pureE_map intC.pure)
theorem toByteS_spec (xs : List Int) (hf : xs.length ≤ 1048576) : Ctr Tryz.prog 85 [.c (.sl (xs.map byteC))] [.val (.c (.sl (xs.map byteC)))] := (toByteS_own xs hf).val (pureE_map byteC.pure)
theorem toVal_spec (d : DVal) (hf : fitVal d) : Ctr Tryz.prog 88 [.agg d.c] [.val (.agg d.c)] := by
  rw [fitVal_eq] at hf
  have f0 := hf
  refine Ctr.mk (fn := Tryz.f88) Tryz.call88 Tryz.func88 rfl mixed Tryz.ntmps88 Tryz.results88 (by kernel_rfl) rfl fun _ => ?_
  simp only [go_sem, Nat.reduceAdd, Nat.reduceSub, Nat.reduceMul, Nat.reduceLT, Nat.reduceLeDiff, Nat.reduceEqDiff, Nat.succ_ne_zero, reduceIte]
theorem toValS_own (xs : List DVal) (hf : xs.length ≤ 1048576) (hx : ∀ x ∈ xs, Ctr Tryz.prog 88 [.agg x.c] [.val (.agg x.c)]) : Ctr Tryz.prog 65 [.c (.sl (xs.map DVal.c))] [.own 131 3 (xs.map DVal.c) true] := by
  refine Ctr.mk (fn := Tryz.f65) Tryz.call65 Tryz.func65 rfl mixed Tryz.ntmps65 Tryz.results65 (by kernel_rfl) rfl fun _ => ?_
  have hc : (0 : Int) ≤ xs.length ∧ (xs.length : Int) ≤ xs.length ∧ (xs.length : Int) ≤ 2147483648 := by omega
  simp only [go_sem, Nat.reduceAdd, Nat.reduceSub, Nat.reduceMul, Nat.reduceLT, Nat.reduceLeDiff, Nat.reduceEqDiff, Nat.succ_ne_zero, reduceIte, List.length_map, hc, List.length_replicate]
  have hg := fun k => @trim1_grow _ DVal.c DVal.pure [.v (.int .i64 0), .v (.int .i64 0), .v (.string ByteArray.empty)] rfl xs k 131 3 true true
  refine LoopK.mk 1 [0, 3, 4] (A := Nat) (fun k => ⟨23, [(0, .c (.sl (xs.map DVal.c))), (3, .c (.ref 0)), (4, .c (.v (.int .i64 k)))], [⟨131, 3, grow (xs.map DVal.c) [.v (.int .i64 0), .v (.int .i64 0), .v (.string ByteArray.empty)] k, true, true⟩]⟩) (fun k => k ≤ xs.length) (fun k => xs.length - k) 0 ⟨⟨rfl, by have := hg 0; simp only [grow_zero, List.length_map] at this; exact this⟩, by simp only [grow_zero, List.length_map]; rfl, Nat.zero_le _⟩ ?_
  intro k hk
  simp only [go_sem, Nat.reduceAdd, Nat.reduceSub, Nat.reduceMul, Nat.reduceLT, Nat.reduceLeDiff, Nat.reduceEqDiff, Nat.succ_ne_zero, reduceIte, List.length_map]
  refine cndC.mk (fun h => ?_) (fun h => ?_)
  · have hk' : k < xs.length := by simpa using h
    have hset := @grow_setm _ DVal.c xs [.v (.int .i64 0), .v (.int .i64 0), .v (.string ByteArray.empty)] k hk'
    simp only [go_sem] at hset
    simp only [go_sem, Nat.reduceAdd, Nat.reduceSub, Nat.reduceMul, Nat.reduceLT, Nat.reduceLeDiff, Nat.reduceEqDiff, Nat.succ_ne_zero, reduceIte, map_at _ hk', grow_lenm hk, grow_atm hk', hk', hset, wrap_i64 (n := (k : Int) + 1) (by omega) (by omega)]
    refine CallK.mk _ (by simpa only [go_sem] using hx xs[k] (List.getElem_mem hk')) fun _ => ?_
    simp only [go_sem, Nat.reduceAdd, Nat.reduceSub, Nat.reduceMul, Nat.reduceLT, Nat.reduceLeDiff, Nat.reduceEqDiff, Nat.succ_ne_zero, reduceIte, map_at _ hk', grow_lenm hk, grow_atm hk', hk', hset, wrap_i64 (n := (k : Int) + 1) (by omega) (by omega)]
    exact ⟨k + 1, ⟨rfl, hg _⟩, rfl, by omega, by first | omega | (simp only; omega)⟩
  · have hk' : k = xs.length := by simp at h; omega
    subst hk'
    rw [grow_allm]
    simp only [go_sem, Nat.reduceAdd, Nat.reduceSub, Nat.reduceMul, Nat.reduceLT, Nat.reduceLeDiff, Nat.reduceEqDiff, Nat.succ_ne_zero, reduceIte]
    simp [nrE_of_pure (pureE_map DVal.pure)]
theorem toValS_spec (xs : List DVal) (hf : fitS fitVal xs) : Ctr Tryz.prog 65 [.c (.sl (xs.map DVal.c))] [.val (.c (.sl (xs.map DVal.c)))] := (toValS_own xs hf.1 fun x hx => toVal_spec x (hf.2 x hx)).val (pureE_map DVal.pure)
theorem toRow_spec (d : DRow) (hf : fitRow d) : Ctr Tryz.prog 33 [.agg d.c] [.val (.agg d.c)] := by
  rw [fitRow_eq] at hf
  have f0 := hf
  refine Ctr.mk (fn := Tryz.f33) Tryz.call33 Tryz.func33 rfl mixed Tryz.ntmps33 Tryz.results33 (by kernel_rfl) rfl fun _ => ?_
  simp only [go_sem, Nat.reduceAdd, Nat.reduceSub, Nat.reduceMul, Nat.reduceLT, Nat.reduceLeDiff, Nat.reduceEqDiff, Nat.succ_ne_zero, reduceIte]
  refine CallK.mk _ (by simpa only [go_sem] using toValS_spec d.l f0) fun _ => ?_
  simp only [go_sem, Nat.reduceAdd, Nat.reduceSub, Nat.reduceMul, Nat.reduceLT, Nat.reduceLeDiff, Nat.reduceEqDiff, Nat.succ_ne_zero, reduceIte]
theorem toRowS_own (xs : List DRow) (hf : xs.length ≤ 1048576) (hx : ∀ x ∈ xs, Ctr Tryz.prog 33 [.agg x.c] [.val (.agg x.c)]) : Ctr Tryz.prog 8 [.c (.sl (xs.map DRow.c))] [.own 70 2 (xs.map DRow.c) true] := by
  refine Ctr.mk (fn := Tryz.f8) Tryz.call8 Tryz.func8 rfl mixed Tryz.ntmps8 Tryz.results8 (by kernel_rfl) rfl fun _ => ?_
  have hc : (0 : Int) ≤ xs.length ∧ (xs.length : Int) ≤ xs.length ∧ (xs.length : Int) ≤ 2147483648 := by omega
  simp only [go_sem, Nat.reduceAdd, Nat.reduceSub, Nat.reduceMul, Nat.reduceLT, Nat.reduceLeDiff, Nat.reduceEqDiff, Nat.succ_ne_zero, reduceIte, List.length_map, hc, List.length_replicate]
  have hg := fun k => @trim1_grow _ DRow.c DRow.pure [.v (.int .i64 0), .v (.slice none 0 0)] rfl xs k 70 2 true true
  refine LoopK.mk 1 [0, 3, 4] (A := Nat) (fun k => ⟨23, [(0, .c (.sl (xs.map DRow.c))), (3, .c (.ref 0)), (4, .c (.v (.int .i64 k)))], [⟨70, 2, grow (xs.map DRow.c) [.v (.int .i64 0), .v (.slice none 0 0)] k, true, true⟩]⟩) (fun k => k ≤ xs.length) (fun k => xs.length - k) 0 ⟨⟨rfl, by have := hg 0; simp only [grow_zero, List.length_map] at this; exact this⟩, by simp only [grow_zero, List.length_map]; rfl, Nat.zero_le _⟩ ?_
  intro k hk
  simp only [go_sem, Nat.reduceAdd, Nat.reduceSub, Nat.reduceMul, Nat.reduceLT, Nat.reduceLeDiff, Nat.reduceEqDiff, Nat.succ_ne_zero, reduceIte, List.length_map]
  refine cndC.mk (fun h => ?_) (fun h => ?_)
  · have hk' : k < xs.length := by simpa using h
    have hset := @grow_setm _ DRow.c xs [.v (.int .i64 0), .v (.slice none 0 0)] k hk'
    simp only [go_sem] at hset
    simp only [go_sem, Nat.reduceAdd, Nat.reduceSub, Nat.reduceMul, Nat.reduceLT, Nat.reduceLeDiff, Nat.reduceEqDiff, Nat.succ_ne_zero, reduceIte, map_at _ hk', grow_lenm hk, grow_atm hk', hk', hset, wrap_i64 (n := (k : Int) + 1) (by omega) (by omega)]
    refine CallK.mk _ (by simpa only [go_sem] using hx xs[k] (List.getElem_mem hk')) fun _ => ?_
    simp only [go_sem, Nat.reduceAdd, Nat.reduceSub, Nat.reduceMul, Nat.reduceLT, Nat.reduceLeDiff, Nat.reduceEqDiff, Nat.succ_ne_zero, reduceIte, map_at _ hk', grow_lenm hk, grow_atm hk', hk', hset, wrap_i64 (n := (k : Int) + 1) (by omega) (by omega)]
    exact ⟨k + 1, ⟨rfl, hg _⟩, rfl, by omega, by first | omega | (simp only; omega)⟩
  · have hk' : k = xs.length := by simp at h; omega
    subst hk'
    rw [grow_allm]
    simp only [go_sem, Nat.reduceAdd, Nat.reduceSub, Nat.reduceMul, Nat.reduceLT, Nat.reduceLeDiff, Nat.reduceEqDiff, Nat.succ_ne_zero, reduceIte]
    simp [nrE_of_pure (pureE_map DRow.pure)]
theorem toRowS_spec (xs : List DRow) (hf : fitS fitRow xs) : Ctr Tryz.prog 8 [.c (.sl (xs.map DRow.c))] [.val (.c (.sl (xs.map DRow.c)))] := (toRowS_own xs hf.1 fun x hx => toRow_spec x (hf.2 x hx)).val (pureE_map DRow.pure)
theorem toPredS_own (xs : List DPred) (hf : xs.length ≤ 1048576) (hx : ∀ x ∈ xs, Ctr Tryz.prog 98 [.agg x.c] [.val (.agg x.c)]) : Ctr Tryz.prog 104 [.c (.sl (xs.map DPred.c))] [.own 134 7 (xs.map DPred.c) true] := by
  refine Ctr.mk (fn := Tryz.f104) Tryz.call104 Tryz.func104 rfl mixed Tryz.ntmps104 Tryz.results104 (by kernel_rfl) rfl fun _ => ?_
  have hc : (0 : Int) ≤ xs.length ∧ (xs.length : Int) ≤ xs.length ∧ (xs.length : Int) ≤ 2147483648 := by omega
  simp only [go_sem, Nat.reduceAdd, Nat.reduceSub, Nat.reduceMul, Nat.reduceLT, Nat.reduceLeDiff, Nat.reduceEqDiff, Nat.succ_ne_zero, reduceIte, List.length_map, hc, List.length_replicate]
  have hg := fun k => @trim1_grow _ DPred.c DPred.pure [.v (.int .i64 0), .v (.int .i64 0), .v (.int .i64 0), .v (.int .i64 0), .v (.int .i64 0), .v (.string ByteArray.empty), .v (.slice none 0 0)] rfl xs k 134 7 true true
  refine LoopK.mk 1 [0, 3, 4] (A := Nat) (fun k => ⟨23, [(0, .c (.sl (xs.map DPred.c))), (3, .c (.ref 0)), (4, .c (.v (.int .i64 k)))], [⟨134, 7, grow (xs.map DPred.c) [.v (.int .i64 0), .v (.int .i64 0), .v (.int .i64 0), .v (.int .i64 0), .v (.int .i64 0), .v (.string ByteArray.empty), .v (.slice none 0 0)] k, true, true⟩]⟩) (fun k => k ≤ xs.length) (fun k => xs.length - k) 0 ⟨⟨rfl, by have := hg 0; simp only [grow_zero, List.length_map] at this; exact this⟩, by simp only [grow_zero, List.length_map]; rfl, Nat.zero_le _⟩ ?_
  intro k hk
  simp only [go_sem, Nat.reduceAdd, Nat.reduceSub, Nat.reduceMul, Nat.reduceLT, Nat.reduceLeDiff, Nat.reduceEqDiff, Nat.succ_ne_zero, reduceIte, List.length_map]
  refine cndC.mk (fun h => ?_) (fun h => ?_)
  · have hk' : k < xs.length := by simpa using h
    have hset := @grow_setm _ DPred.c xs [.v (.int .i64 0), .v (.int .i64 0), .v (.int .i64 0), .v (.int .i64 0), .v (.int .i64 0), .v (.string ByteArray.empty), .v (.slice none 0 0)] k hk'
    simp only [go_sem] at hset
    simp only [go_sem, Nat.reduceAdd, Nat.reduceSub, Nat.reduceMul, Nat.reduceLT, Nat.reduceLeDiff, Nat.reduceEqDiff, Nat.succ_ne_zero, reduceIte, map_at _ hk', grow_lenm hk, grow_atm hk', hk', hset, wrap_i64 (n := (k : Int) + 1) (by omega) (by omega)]
    refine CallK.mk _ (by simpa only [go_sem] using hx xs[k] (List.getElem_mem hk')) fun _ => ?_
    simp only [go_sem, Nat.reduceAdd, Nat.reduceSub, Nat.reduceMul, Nat.reduceLT, Nat.reduceLeDiff, Nat.reduceEqDiff, Nat.succ_ne_zero, reduceIte, map_at _ hk', grow_lenm hk, grow_atm hk', hk', hset, wrap_i64 (n := (k : Int) + 1) (by omega) (by omega)]
    exact ⟨k + 1, ⟨rfl, hg _⟩, rfl, by omega, by first | omega | (simp only; omega)⟩
  · have hk' : k = xs.length := by simp at h; omega
    subst hk'
    rw [grow_allm]
    simp only [go_sem, Nat.reduceAdd, Nat.reduceSub, Nat.reduceMul, Nat.reduceLT, Nat.reduceLeDiff, Nat.reduceEqDiff, Nat.succ_ne_zero, reduceIte]
    simp [nrE_of_pure (pureE_map DPred.pure)]
theorem toPred_of (d : DPred) (hf : fitPred d) (hx : ∀ x ∈ d.l, Ctr Tryz.prog 98 [.agg x.c] [.val (.agg x.c)]) : Ctr Tryz.prog 98 [.agg d.c] [.val (.agg d.c)] := by
  rw [fitPred_eq] at hf
  obtain ⟨f0, f1⟩ := hf
  refine Ctr.mk (fn := Tryz.f98) Tryz.call98 Tryz.func98 rfl mixed Tryz.ntmps98 Tryz.results98 (by kernel_rfl) rfl fun _ => ?_
  simp only [go_sem, Nat.reduceAdd, Nat.reduceSub, Nat.reduceMul, Nat.reduceLT, Nat.reduceLeDiff, Nat.reduceEqDiff, Nat.succ_ne_zero, reduceIte]
  refine CallK.mk _ (by simpa only [go_sem] using toVal_spec d.v f0) fun _ => ?_
  simp only [go_sem, Nat.reduceAdd, Nat.reduceSub, Nat.reduceMul, Nat.reduceLT, Nat.reduceLeDiff, Nat.reduceEqDiff, Nat.succ_ne_zero, reduceIte]
  refine CallK.mk _ (by simpa only [go_sem] using (toPredS_own d.l f1.1 hx).val (pureE_map DPred.pure)) fun _ => ?_
  simp only [go_sem, Nat.reduceAdd, Nat.reduceSub, Nat.reduceMul, Nat.reduceLT, Nat.reduceLeDiff, Nat.reduceEqDiff, Nat.succ_ne_zero, reduceIte]
theorem toPred_fuel : ∀ (n : Nat) (d : DPred), SizeOf.sizeOf d ≤ n → fitPred d → Ctr Tryz.prog 98 [.agg d.c] [.val (.agg d.c)]
  | 0, d, h, _ => by cases d; simp at h
  | n + 1, d, h, hf => toPred_of d hf fun x hx => toPred_fuel n x (by
    have h1 : SizeOf.sizeOf x < SizeOf.sizeOf d.l := List.sizeOf_lt_of_mem hx
    have h2 : SizeOf.sizeOf d.l < SizeOf.sizeOf d := by cases d; simp [DPred.l]; omega
    omega) (by rw [fitPred_eq] at hf; exact (hf.2).2 x hx)
theorem toPred_spec (d : DPred) (hf : fitPred d) : Ctr Tryz.prog 98 [.agg d.c] [.val (.agg d.c)] := toPred_fuel _ d (Nat.le_refl _) hf
theorem toPredS_spec (xs : List DPred) (hf : fitS fitPred xs) : Ctr Tryz.prog 104 [.c (.sl (xs.map DPred.c))] [.val (.c (.sl (xs.map DPred.c)))] := (toPredS_own xs hf.1 fun x hx => toPred_spec x (hf.2 x hx)).val (pureE_map DPred.pure)
theorem toQuery_spec (d : DQuery) (hf : fitQuery d) : Ctr Tryz.prog 86 [.agg d.c] [.val (.agg d.c)] := by
  rw [fitQuery_eq] at hf
  obtain ⟨f0, f1⟩ := hf
  refine Ctr.mk (fn := Tryz.f86) Tryz.call86 Tryz.func86 rfl mixed Tryz.ntmps86 Tryz.results86 (by kernel_rfl) rfl fun _ => ?_
  simp only [go_sem, Nat.reduceAdd, Nat.reduceSub, Nat.reduceMul, Nat.reduceLT, Nat.reduceLeDiff, Nat.reduceEqDiff, Nat.succ_ne_zero, reduceIte]
  refine CallK.mk _ (by simpa only [go_sem] using toPred_spec d.p f0) fun _ => ?_
  simp only [go_sem, Nat.reduceAdd, Nat.reduceSub, Nat.reduceMul, Nat.reduceLT, Nat.reduceLeDiff, Nat.reduceEqDiff, Nat.succ_ne_zero, reduceIte]
  refine CallK.mk _ (by simpa only [go_sem] using toIntS_spec d.out f1) fun _ => ?_
  simp only [go_sem, Nat.reduceAdd, Nat.reduceSub, Nat.reduceMul, Nat.reduceLT, Nat.reduceLeDiff, Nat.reduceEqDiff, Nat.succ_ne_zero, reduceIte]
theorem toResult_spec (d : DResult) (hf : fitResult d) : Ctr Tryz.prog 87 [.agg d.c] [.val (.agg d.c)] := by
  rw [fitResult_eq] at hf
  obtain ⟨f0, f1⟩ := hf
  refine Ctr.mk (fn := Tryz.f87) Tryz.call87 Tryz.func87 rfl mixed Tryz.ntmps87 Tryz.results87 (by kernel_rfl) rfl fun _ => ?_
  simp only [go_sem, Nat.reduceAdd, Nat.reduceSub, Nat.reduceMul, Nat.reduceLT, Nat.reduceLeDiff, Nat.reduceEqDiff, Nat.succ_ne_zero, reduceIte]
  refine CallK.mk _ (by simpa only [go_sem] using toRowS_spec d.rows f0) fun _ => ?_
  simp only [go_sem, Nat.reduceAdd, Nat.reduceSub, Nat.reduceMul, Nat.reduceLT, Nat.reduceLeDiff, Nat.reduceEqDiff, Nat.succ_ne_zero, reduceIte]
  refine CallK.mk _ (by simpa only [go_sem] using toVal_spec d.v f1) fun _ => ?_
  simp only [go_sem, Nat.reduceAdd, Nat.reduceSub, Nat.reduceMul, Nat.reduceLT, Nat.reduceLeDiff, Nat.reduceEqDiff, Nat.succ_ne_zero, reduceIte]
theorem toSlot_spec (d : DSlot) (hf : fitSlot d) : Ctr Tryz.prog 103 [.agg d.c] [.val (.agg d.c)] := by
  rw [fitSlot_eq] at hf
  have f0 := hf
  refine Ctr.mk (fn := Tryz.f103) Tryz.call103 Tryz.func103 rfl mixed Tryz.ntmps103 Tryz.results103 (by kernel_rfl) rfl fun _ => ?_
  simp only [go_sem, Nat.reduceAdd, Nat.reduceSub, Nat.reduceMul, Nat.reduceLT, Nat.reduceLeDiff, Nat.reduceEqDiff, Nat.succ_ne_zero, reduceIte]
  refine CallK.mk _ (by simpa only [go_sem] using toValS_spec d.l f0) fun _ => ?_
  simp only [go_sem, Nat.reduceAdd, Nat.reduceSub, Nat.reduceMul, Nat.reduceLT, Nat.reduceLeDiff, Nat.reduceEqDiff, Nat.succ_ne_zero, reduceIte]
theorem toSlotS_own (xs : List DSlot) (hf : xs.length ≤ 1048576) (hx : ∀ x ∈ xs, Ctr Tryz.prog 103 [.agg x.c] [.val (.agg x.c)]) : Ctr Tryz.prog 97 [.c (.sl (xs.map DSlot.c))] [.own 178 2 (xs.map DSlot.c) true] := by
  refine Ctr.mk (fn := Tryz.f97) Tryz.call97 Tryz.func97 rfl mixed Tryz.ntmps97 Tryz.results97 (by kernel_rfl) rfl fun _ => ?_
  have hc : (0 : Int) ≤ xs.length ∧ (xs.length : Int) ≤ xs.length ∧ (xs.length : Int) ≤ 2147483648 := by omega
  simp only [go_sem, Nat.reduceAdd, Nat.reduceSub, Nat.reduceMul, Nat.reduceLT, Nat.reduceLeDiff, Nat.reduceEqDiff, Nat.succ_ne_zero, reduceIte, List.length_map, hc, List.length_replicate]
  have hg := fun k => @trim1_grow _ DSlot.c DSlot.pure [.v (.int .i64 0), .v (.slice none 0 0)] rfl xs k 178 2 true true
  refine LoopK.mk 1 [0, 3, 4] (A := Nat) (fun k => ⟨23, [(0, .c (.sl (xs.map DSlot.c))), (3, .c (.ref 0)), (4, .c (.v (.int .i64 k)))], [⟨178, 2, grow (xs.map DSlot.c) [.v (.int .i64 0), .v (.slice none 0 0)] k, true, true⟩]⟩) (fun k => k ≤ xs.length) (fun k => xs.length - k) 0 ⟨⟨rfl, by have := hg 0; simp only [grow_zero, List.length_map] at this; exact this⟩, by simp only [grow_zero, List.length_map]; rfl, Nat.zero_le _⟩ ?_
  intro k hk
  simp only [go_sem, Nat.reduceAdd, Nat.reduceSub, Nat.reduceMul, Nat.reduceLT, Nat.reduceLeDiff, Nat.reduceEqDiff, Nat.succ_ne_zero, reduceIte, List.length_map]
  refine cndC.mk (fun h => ?_) (fun h => ?_)
  · have hk' : k < xs.length := by simpa using h
    have hset := @grow_setm _ DSlot.c xs [.v (.int .i64 0), .v (.slice none 0 0)] k hk'
    simp only [go_sem] at hset
    simp only [go_sem, Nat.reduceAdd, Nat.reduceSub, Nat.reduceMul, Nat.reduceLT, Nat.reduceLeDiff, Nat.reduceEqDiff, Nat.succ_ne_zero, reduceIte, map_at _ hk', grow_lenm hk, grow_atm hk', hk', hset, wrap_i64 (n := (k : Int) + 1) (by omega) (by omega)]
    refine CallK.mk _ (by simpa only [go_sem] using hx xs[k] (List.getElem_mem hk')) fun _ => ?_
    simp only [go_sem, Nat.reduceAdd, Nat.reduceSub, Nat.reduceMul, Nat.reduceLT, Nat.reduceLeDiff, Nat.reduceEqDiff, Nat.succ_ne_zero, reduceIte, map_at _ hk', grow_lenm hk, grow_atm hk', hk', hset, wrap_i64 (n := (k : Int) + 1) (by omega) (by omega)]
    exact ⟨k + 1, ⟨rfl, hg _⟩, rfl, by omega, by first | omega | (simp only; omega)⟩
  · have hk' : k = xs.length := by simp at h; omega
    subst hk'
    rw [grow_allm]
    simp only [go_sem, Nat.reduceAdd, Nat.reduceSub, Nat.reduceMul, Nat.reduceLT, Nat.reduceLeDiff, Nat.reduceEqDiff, Nat.succ_ne_zero, reduceIte]
    simp [nrE_of_pure (pureE_map DSlot.pure)]
theorem toSlotS_spec (xs : List DSlot) (hf : fitS fitSlot xs) : Ctr Tryz.prog 97 [.c (.sl (xs.map DSlot.c))] [.val (.c (.sl (xs.map DSlot.c)))] := (toSlotS_own xs hf.1 fun x hx => toSlot_spec x (hf.2 x hx)).val (pureE_map DSlot.pure)
theorem toChunk_spec (d : DChunk) (hf : fitChunk d) : Ctr Tryz.prog 84 [.agg d.c] [.val (.agg d.c)] := by
  rw [fitChunk_eq] at hf
  have f0 := hf
  refine Ctr.mk (fn := Tryz.f84) Tryz.call84 Tryz.func84 rfl mixed Tryz.ntmps84 Tryz.results84 (by kernel_rfl) rfl fun _ => ?_
  simp only [go_sem, Nat.reduceAdd, Nat.reduceSub, Nat.reduceMul, Nat.reduceLT, Nat.reduceLeDiff, Nat.reduceEqDiff, Nat.succ_ne_zero, reduceIte]
  refine CallK.mk _ (by simpa only [go_sem] using toSlotS_spec d.l f0) fun _ => ?_
  simp only [go_sem, Nat.reduceAdd, Nat.reduceSub, Nat.reduceMul, Nat.reduceLT, Nat.reduceLeDiff, Nat.reduceEqDiff, Nat.succ_ne_zero, reduceIte]
theorem toBuf_spec (d : DBuf) (hf : fitBuf d) : Ctr Tryz.prog 61 [.agg d.c] [.val (.agg d.c)] := by
  rw [fitBuf_eq] at hf
  obtain ⟨f0, f1⟩ := hf
  refine Ctr.mk (fn := Tryz.f61) Tryz.call61 Tryz.func61 rfl mixed Tryz.ntmps61 Tryz.results61 (by kernel_rfl) rfl fun _ => ?_
  simp only [go_sem, Nat.reduceAdd, Nat.reduceSub, Nat.reduceMul, Nat.reduceLT, Nat.reduceLeDiff, Nat.reduceEqDiff, Nat.succ_ne_zero, reduceIte]
  refine CallK.mk _ (by simpa only [go_sem] using toChunk_spec d.c0 f0) fun _ => ?_
  simp only [go_sem, Nat.reduceAdd, Nat.reduceSub, Nat.reduceMul, Nat.reduceLT, Nat.reduceLeDiff, Nat.reduceEqDiff, Nat.succ_ne_zero, reduceIte]
  refine CallK.mk _ (by simpa only [go_sem] using toByteS_spec d.g f1) fun _ => ?_
  simp only [go_sem, Nat.reduceAdd, Nat.reduceSub, Nat.reduceMul, Nat.reduceLT, Nat.reduceLeDiff, Nat.reduceEqDiff, Nat.succ_ne_zero, reduceIte]
theorem toBufS_own (xs : List DBuf) (hf : xs.length ≤ 1048576) (hx : ∀ x ∈ xs, Ctr Tryz.prog 61 [.agg x.c] [.val (.agg x.c)]) : Ctr Tryz.prog 28 [.c (.sl (xs.map DBuf.c))] [.own 125 5 (xs.map DBuf.c) true] := by
  refine Ctr.mk (fn := Tryz.f28) Tryz.call28 Tryz.func28 rfl mixed Tryz.ntmps28 Tryz.results28 (by kernel_rfl) rfl fun _ => ?_
  have hc : (0 : Int) ≤ xs.length ∧ (xs.length : Int) ≤ xs.length ∧ (xs.length : Int) ≤ 2147483648 := by omega
  simp only [go_sem, Nat.reduceAdd, Nat.reduceSub, Nat.reduceMul, Nat.reduceLT, Nat.reduceLeDiff, Nat.reduceEqDiff, Nat.succ_ne_zero, reduceIte, List.length_map, hc, List.length_replicate]
  have hg := fun k => @trim1_grow _ DBuf.c DBuf.pure [.v (.int .i64 0), .v (.int .i64 0), .v (.int .i64 0), .v (.slice none 0 0), .v (.slice none 0 0)] rfl xs k 125 5 true true
  refine LoopK.mk 1 [0, 3, 4] (A := Nat) (fun k => ⟨23, [(0, .c (.sl (xs.map DBuf.c))), (3, .c (.ref 0)), (4, .c (.v (.int .i64 k)))], [⟨125, 5, grow (xs.map DBuf.c) [.v (.int .i64 0), .v (.int .i64 0), .v (.int .i64 0), .v (.slice none 0 0), .v (.slice none 0 0)] k, true, true⟩]⟩) (fun k => k ≤ xs.length) (fun k => xs.length - k) 0 ⟨⟨rfl, by have := hg 0; simp only [grow_zero, List.length_map] at this; exact this⟩, by simp only [grow_zero, List.length_map]; rfl, Nat.zero_le _⟩ ?_
  intro k hk
  simp only [go_sem, Nat.reduceAdd, Nat.reduceSub, Nat.reduceMul, Nat.reduceLT, Nat.reduceLeDiff, Nat.reduceEqDiff, Nat.succ_ne_zero, reduceIte, List.length_map]
  refine cndC.mk (fun h => ?_) (fun h => ?_)
  · have hk' : k < xs.length := by simpa using h
    have hset := @grow_setm _ DBuf.c xs [.v (.int .i64 0), .v (.int .i64 0), .v (.int .i64 0), .v (.slice none 0 0), .v (.slice none 0 0)] k hk'
    simp only [go_sem] at hset
    simp only [go_sem, Nat.reduceAdd, Nat.reduceSub, Nat.reduceMul, Nat.reduceLT, Nat.reduceLeDiff, Nat.reduceEqDiff, Nat.succ_ne_zero, reduceIte, map_at _ hk', grow_lenm hk, grow_atm hk', hk', hset, wrap_i64 (n := (k : Int) + 1) (by omega) (by omega)]
    refine CallK.mk _ (by simpa only [go_sem] using hx xs[k] (List.getElem_mem hk')) fun _ => ?_
    simp only [go_sem, Nat.reduceAdd, Nat.reduceSub, Nat.reduceMul, Nat.reduceLT, Nat.reduceLeDiff, Nat.reduceEqDiff, Nat.succ_ne_zero, reduceIte, map_at _ hk', grow_lenm hk, grow_atm hk', hk', hset, wrap_i64 (n := (k : Int) + 1) (by omega) (by omega)]
    exact ⟨k + 1, ⟨rfl, hg _⟩, rfl, by omega, by first | omega | (simp only; omega)⟩
  · have hk' : k = xs.length := by simp at h; omega
    subst hk'
    rw [grow_allm]
    simp only [go_sem, Nat.reduceAdd, Nat.reduceSub, Nat.reduceMul, Nat.reduceLT, Nat.reduceLeDiff, Nat.reduceEqDiff, Nat.succ_ne_zero, reduceIte]
    simp [nrE_of_pure (pureE_map DBuf.pure)]
theorem toBufS_spec (xs : List DBuf) (hf : fitS fitBuf xs) : Ctr Tryz.prog 28 [.c (.sl (xs.map DBuf.c))] [.val (.c (.sl (xs.map DBuf.c)))] := (toBufS_own xs hf.1 fun x hx => toBuf_spec x (hf.2 x hx)).val (pureE_map DBuf.pure)
theorem toDead_spec (d : DDead) : Ctr Tryz.prog 62 [.agg d.c] [.val (.agg d.c)] := by
  refine Ctr.mk (fn := Tryz.f62) Tryz.call62 Tryz.func62 rfl mixed Tryz.ntmps62 Tryz.results62 (by kernel_rfl) rfl fun _ => ?_
  simp only [go_sem, Nat.reduceAdd, Nat.reduceSub, Nat.reduceMul, Nat.reduceLT, Nat.reduceLeDiff, Nat.reduceEqDiff, Nat.succ_ne_zero, reduceIte]
theorem toDeadS_own (xs : List DDead) (hf : xs.length ≤ 1048576) (hx : ∀ x ∈ xs, Ctr Tryz.prog 62 [.agg x.c] [.val (.agg x.c)]) : Ctr Tryz.prog 30 [.c (.sl (xs.map DDead.c))] [.own 128 3 (xs.map DDead.c) true] := by
  refine Ctr.mk (fn := Tryz.f30) Tryz.call30 Tryz.func30 rfl mixed Tryz.ntmps30 Tryz.results30 (by kernel_rfl) rfl fun _ => ?_
  have hc : (0 : Int) ≤ xs.length ∧ (xs.length : Int) ≤ xs.length ∧ (xs.length : Int) ≤ 2147483648 := by omega
  simp only [go_sem, Nat.reduceAdd, Nat.reduceSub, Nat.reduceMul, Nat.reduceLT, Nat.reduceLeDiff, Nat.reduceEqDiff, Nat.succ_ne_zero, reduceIte, List.length_map, hc, List.length_replicate]
  have hg := fun k => @trim1_grow _ DDead.c DDead.pure [.v (.int .i64 0), .v (.int .i64 0), .v (.int .i64 0)] rfl xs k 128 3 true true
  refine LoopK.mk 1 [0, 3, 4] (A := Nat) (fun k => ⟨23, [(0, .c (.sl (xs.map DDead.c))), (3, .c (.ref 0)), (4, .c (.v (.int .i64 k)))], [⟨128, 3, grow (xs.map DDead.c) [.v (.int .i64 0), .v (.int .i64 0), .v (.int .i64 0)] k, true, true⟩]⟩) (fun k => k ≤ xs.length) (fun k => xs.length - k) 0 ⟨⟨rfl, by have := hg 0; simp only [grow_zero, List.length_map] at this; exact this⟩, by simp only [grow_zero, List.length_map]; rfl, Nat.zero_le _⟩ ?_
  intro k hk
  simp only [go_sem, Nat.reduceAdd, Nat.reduceSub, Nat.reduceMul, Nat.reduceLT, Nat.reduceLeDiff, Nat.reduceEqDiff, Nat.succ_ne_zero, reduceIte, List.length_map]
  refine cndC.mk (fun h => ?_) (fun h => ?_)
  · have hk' : k < xs.length := by simpa using h
    have hset := @grow_setm _ DDead.c xs [.v (.int .i64 0), .v (.int .i64 0), .v (.int .i64 0)] k hk'
    simp only [go_sem] at hset
    simp only [go_sem, Nat.reduceAdd, Nat.reduceSub, Nat.reduceMul, Nat.reduceLT, Nat.reduceLeDiff, Nat.reduceEqDiff, Nat.succ_ne_zero, reduceIte, map_at _ hk', grow_lenm hk, grow_atm hk', hk', hset, wrap_i64 (n := (k : Int) + 1) (by omega) (by omega)]
    refine CallK.mk _ (by simpa only [go_sem] using hx xs[k] (List.getElem_mem hk')) fun _ => ?_
    simp only [go_sem, Nat.reduceAdd, Nat.reduceSub, Nat.reduceMul, Nat.reduceLT, Nat.reduceLeDiff, Nat.reduceEqDiff, Nat.succ_ne_zero, reduceIte, map_at _ hk', grow_lenm hk, grow_atm hk', hk', hset, wrap_i64 (n := (k : Int) + 1) (by omega) (by omega)]
    exact ⟨k + 1, ⟨rfl, hg _⟩, rfl, by omega, by first | omega | (simp only; omega)⟩
  · have hk' : k = xs.length := by simp at h; omega
    subst hk'
    rw [grow_allm]
    simp only [go_sem, Nat.reduceAdd, Nat.reduceSub, Nat.reduceMul, Nat.reduceLT, Nat.reduceLeDiff, Nat.reduceEqDiff, Nat.succ_ne_zero, reduceIte]
    simp [nrE_of_pure (pureE_map DDead.pure)]
theorem toDeadS_spec (xs : List DDead) (hf : xs.length ≤ 1048576) : Ctr Tryz.prog 30 [.c (.sl (xs.map DDead.c))] [.val (.c (.sl (xs.map DDead.c)))] := (toDeadS_own xs hf fun x _ => toDead_spec x).val (pureE_map DDead.pure)
theorem toRef_spec (d : DRef) : Ctr Tryz.prog 83 [.agg d.c] [.val (.agg d.c)] := by
  refine Ctr.mk (fn := Tryz.f83) Tryz.call83 Tryz.func83 rfl mixed Tryz.ntmps83 Tryz.results83 (by kernel_rfl) rfl fun _ => ?_
  simp only [go_sem, Nat.reduceAdd, Nat.reduceSub, Nat.reduceMul, Nat.reduceLT, Nat.reduceLeDiff, Nat.reduceEqDiff, Nat.succ_ne_zero, reduceIte]
theorem toRefS_own (xs : List DRef) (hf : xs.length ≤ 1048576) (hx : ∀ x ∈ xs, Ctr Tryz.prog 83 [.agg x.c] [.val (.agg x.c)]) : Ctr Tryz.prog 60 [.c (.sl (xs.map DRef.c))] [.own 163 5 (xs.map DRef.c) true] := by
  refine Ctr.mk (fn := Tryz.f60) Tryz.call60 Tryz.func60 rfl mixed Tryz.ntmps60 Tryz.results60 (by kernel_rfl) rfl fun _ => ?_
  have hc : (0 : Int) ≤ xs.length ∧ (xs.length : Int) ≤ xs.length ∧ (xs.length : Int) ≤ 2147483648 := by omega
  simp only [go_sem, Nat.reduceAdd, Nat.reduceSub, Nat.reduceMul, Nat.reduceLT, Nat.reduceLeDiff, Nat.reduceEqDiff, Nat.succ_ne_zero, reduceIte, List.length_map, hc, List.length_replicate]
  have hg := fun k => @trim1_grow _ DRef.c DRef.pure [.v (.int .i64 0), .v (.int .i64 0), .v (.int .i64 0), .v (.int .i64 0), .v (.int .i64 0)] rfl xs k 163 5 true true
  refine LoopK.mk 1 [0, 3, 4] (A := Nat) (fun k => ⟨23, [(0, .c (.sl (xs.map DRef.c))), (3, .c (.ref 0)), (4, .c (.v (.int .i64 k)))], [⟨163, 5, grow (xs.map DRef.c) [.v (.int .i64 0), .v (.int .i64 0), .v (.int .i64 0), .v (.int .i64 0), .v (.int .i64 0)] k, true, true⟩]⟩) (fun k => k ≤ xs.length) (fun k => xs.length - k) 0 ⟨⟨rfl, by have := hg 0; simp only [grow_zero, List.length_map] at this; exact this⟩, by simp only [grow_zero, List.length_map]; rfl, Nat.zero_le _⟩ ?_
  intro k hk
  simp only [go_sem, Nat.reduceAdd, Nat.reduceSub, Nat.reduceMul, Nat.reduceLT, Nat.reduceLeDiff, Nat.reduceEqDiff, Nat.succ_ne_zero, reduceIte, List.length_map]
  refine cndC.mk (fun h => ?_) (fun h => ?_)
  · have hk' : k < xs.length := by simpa using h
    have hset := @grow_setm _ DRef.c xs [.v (.int .i64 0), .v (.int .i64 0), .v (.int .i64 0), .v (.int .i64 0), .v (.int .i64 0)] k hk'
    simp only [go_sem] at hset
    simp only [go_sem, Nat.reduceAdd, Nat.reduceSub, Nat.reduceMul, Nat.reduceLT, Nat.reduceLeDiff, Nat.reduceEqDiff, Nat.succ_ne_zero, reduceIte, map_at _ hk', grow_lenm hk, grow_atm hk', hk', hset, wrap_i64 (n := (k : Int) + 1) (by omega) (by omega)]
    refine CallK.mk _ (by simpa only [go_sem] using hx xs[k] (List.getElem_mem hk')) fun _ => ?_
    simp only [go_sem, Nat.reduceAdd, Nat.reduceSub, Nat.reduceMul, Nat.reduceLT, Nat.reduceLeDiff, Nat.reduceEqDiff, Nat.succ_ne_zero, reduceIte, map_at _ hk', grow_lenm hk, grow_atm hk', hk', hset, wrap_i64 (n := (k : Int) + 1) (by omega) (by omega)]
    exact ⟨k + 1, ⟨rfl, hg _⟩, rfl, by omega, by first | omega | (simp only; omega)⟩
  · have hk' : k = xs.length := by simp at h; omega
    subst hk'
    rw [grow_allm]
    simp only [go_sem, Nat.reduceAdd, Nat.reduceSub, Nat.reduceMul, Nat.reduceLT, Nat.reduceLeDiff, Nat.reduceEqDiff, Nat.succ_ne_zero, reduceIte]
    simp [nrE_of_pure (pureE_map DRef.pure)]
theorem toRefS_spec (xs : List DRef) (hf : xs.length ≤ 1048576) : Ctr Tryz.prog 60 [.c (.sl (xs.map DRef.c))] [.val (.c (.sl (xs.map DRef.c)))] := (toRefS_own xs hf fun x _ => toRef_spec x).val (pureE_map DRef.pure)
theorem toDir_spec (d : DDir) (hf : fitDir d) : Ctr Tryz.prog 27 [.agg d.c] [.val (.agg d.c)] := by
  rw [fitDir_eq] at hf
  have f0 := hf
  refine Ctr.mk (fn := Tryz.f27) Tryz.call27 Tryz.func27 rfl mixed Tryz.ntmps27 Tryz.results27 (by kernel_rfl) rfl fun _ => ?_
  simp only [go_sem, Nat.reduceAdd, Nat.reduceSub, Nat.reduceMul, Nat.reduceLT, Nat.reduceLeDiff, Nat.reduceEqDiff, Nat.succ_ne_zero, reduceIte]
  refine CallK.mk _ (by simpa only [go_sem] using toRefS_spec d.l f0) fun _ => ?_
  simp only [go_sem, Nat.reduceAdd, Nat.reduceSub, Nat.reduceMul, Nat.reduceLT, Nat.reduceLeDiff, Nat.reduceEqDiff, Nat.succ_ne_zero, reduceIte]
theorem toTask_spec (d : DTask) (hf : fitTask d) : Ctr Tryz.prog 63 [.agg d.c] [.val (.agg d.c)] := by
  rw [fitTask_eq] at hf
  obtain ⟨f0, f1, f2, f3⟩ := hf
  refine Ctr.mk (fn := Tryz.f63) Tryz.call63 Tryz.func63 rfl mixed Tryz.ntmps63 Tryz.results63 (by kernel_rfl) rfl fun _ => ?_
  simp only [go_sem, Nat.reduceAdd, Nat.reduceSub, Nat.reduceMul, Nat.reduceLT, Nat.reduceLeDiff, Nat.reduceEqDiff, Nat.succ_ne_zero, reduceIte]
  refine CallK.mk _ (by simpa only [go_sem] using toValS_spec d.r f0) fun _ => ?_
  simp only [go_sem, Nat.reduceAdd, Nat.reduceSub, Nat.reduceMul, Nat.reduceLT, Nat.reduceLeDiff, Nat.reduceEqDiff, Nat.succ_ne_zero, reduceIte]
  refine CallK.mk _ (by simpa only [go_sem] using toQuery_spec d.q f1) fun _ => ?_
  simp only [go_sem, Nat.reduceAdd, Nat.reduceSub, Nat.reduceMul, Nat.reduceLT, Nat.reduceLeDiff, Nat.reduceEqDiff, Nat.succ_ne_zero, reduceIte]
  refine CallK.mk _ (by simpa only [go_sem] using toRefS_spec d.l f2) fun _ => ?_
  simp only [go_sem, Nat.reduceAdd, Nat.reduceSub, Nat.reduceMul, Nat.reduceLT, Nat.reduceLeDiff, Nat.reduceEqDiff, Nat.succ_ne_zero, reduceIte]
  refine CallK.mk _ (by simpa only [go_sem] using toRowS_spec d.got f3) fun _ => ?_
  simp only [go_sem, Nat.reduceAdd, Nat.reduceSub, Nat.reduceMul, Nat.reduceLT, Nat.reduceLeDiff, Nat.reduceEqDiff, Nat.succ_ne_zero, reduceIte]
theorem toTaskS_own (xs : List DTask) (hf : xs.length ≤ 1048576) (hx : ∀ x ∈ xs, Ctr Tryz.prog 63 [.agg x.c] [.val (.agg x.c)]) : Ctr Tryz.prog 31 [.c (.sl (xs.map DTask.c))] [.own 138 25 (xs.map DTask.c) true] := by
  refine Ctr.mk (fn := Tryz.f31) Tryz.call31 Tryz.func31 rfl mixed Tryz.ntmps31 Tryz.results31 (by kernel_rfl) rfl fun _ => ?_
  have hc : (0 : Int) ≤ xs.length ∧ (xs.length : Int) ≤ xs.length ∧ (xs.length : Int) ≤ 2147483648 := by omega
  simp only [go_sem, Nat.reduceAdd, Nat.reduceSub, Nat.reduceMul, Nat.reduceLT, Nat.reduceLeDiff, Nat.reduceEqDiff, Nat.succ_ne_zero, reduceIte, List.length_map, hc, List.length_replicate]
  have hg := fun k => @trim1_grow _ DTask.c DTask.pure [.v (.int .i64 0), .v (.int .i64 0), .v (.int .i64 0), .v (.slice none 0 0), .v (.int .i64 0), .v (.int .i64 0), .v (.int .i64 0), .v (.int .i64 0), .v (.int .i64 0), .v (.int .i64 0), .v (.int .i64 0), .v (.string ByteArray.empty), .v (.slice none 0 0), .v (.int .i64 0), .v (.slice none 0 0), .v (.int .i64 0), .v (.int .i64 0), .v (.slice none 0 0), .v (.int .i64 0), .v (.int .i64 0), .v (.int .i64 0), .v (.int .i64 0), .v (.int .i64 0), .v (.bool false), .v (.slice none 0 0)] rfl xs k 138 25 true true
  refine LoopK.mk 1 [0, 3, 4] (A := Nat) (fun k => ⟨23, [(0, .c (.sl (xs.map DTask.c))), (3, .c (.ref 0)), (4, .c (.v (.int .i64 k)))], [⟨138, 25, grow (xs.map DTask.c) [.v (.int .i64 0), .v (.int .i64 0), .v (.int .i64 0), .v (.slice none 0 0), .v (.int .i64 0), .v (.int .i64 0), .v (.int .i64 0), .v (.int .i64 0), .v (.int .i64 0), .v (.int .i64 0), .v (.int .i64 0), .v (.string ByteArray.empty), .v (.slice none 0 0), .v (.int .i64 0), .v (.slice none 0 0), .v (.int .i64 0), .v (.int .i64 0), .v (.slice none 0 0), .v (.int .i64 0), .v (.int .i64 0), .v (.int .i64 0), .v (.int .i64 0), .v (.int .i64 0), .v (.bool false), .v (.slice none 0 0)] k, true, true⟩]⟩) (fun k => k ≤ xs.length) (fun k => xs.length - k) 0 ⟨⟨rfl, by have := hg 0; simp only [grow_zero, List.length_map] at this; exact this⟩, by simp only [grow_zero, List.length_map]; rfl, Nat.zero_le _⟩ ?_
  intro k hk
  simp only [go_sem, Nat.reduceAdd, Nat.reduceSub, Nat.reduceMul, Nat.reduceLT, Nat.reduceLeDiff, Nat.reduceEqDiff, Nat.succ_ne_zero, reduceIte, List.length_map]
  refine cndC.mk (fun h => ?_) (fun h => ?_)
  · have hk' : k < xs.length := by simpa using h
    have hset := @grow_setm _ DTask.c xs [.v (.int .i64 0), .v (.int .i64 0), .v (.int .i64 0), .v (.slice none 0 0), .v (.int .i64 0), .v (.int .i64 0), .v (.int .i64 0), .v (.int .i64 0), .v (.int .i64 0), .v (.int .i64 0), .v (.int .i64 0), .v (.string ByteArray.empty), .v (.slice none 0 0), .v (.int .i64 0), .v (.slice none 0 0), .v (.int .i64 0), .v (.int .i64 0), .v (.slice none 0 0), .v (.int .i64 0), .v (.int .i64 0), .v (.int .i64 0), .v (.int .i64 0), .v (.int .i64 0), .v (.bool false), .v (.slice none 0 0)] k hk'
    simp only [go_sem] at hset
    simp only [go_sem, Nat.reduceAdd, Nat.reduceSub, Nat.reduceMul, Nat.reduceLT, Nat.reduceLeDiff, Nat.reduceEqDiff, Nat.succ_ne_zero, reduceIte, map_at _ hk', grow_lenm hk, grow_atm hk', hk', hset, wrap_i64 (n := (k : Int) + 1) (by omega) (by omega)]
    refine CallK.mk _ (by simpa only [go_sem] using hx xs[k] (List.getElem_mem hk')) fun _ => ?_
    simp only [go_sem, Nat.reduceAdd, Nat.reduceSub, Nat.reduceMul, Nat.reduceLT, Nat.reduceLeDiff, Nat.reduceEqDiff, Nat.succ_ne_zero, reduceIte, map_at _ hk', grow_lenm hk, grow_atm hk', hk', hset, wrap_i64 (n := (k : Int) + 1) (by omega) (by omega)]
    exact ⟨k + 1, ⟨rfl, hg _⟩, rfl, by omega, by first | omega | (simp only; omega)⟩
  · have hk' : k = xs.length := by simp at h; omega
    subst hk'
    rw [grow_allm]
    simp only [go_sem, Nat.reduceAdd, Nat.reduceSub, Nat.reduceMul, Nat.reduceLT, Nat.reduceLeDiff, Nat.reduceEqDiff, Nat.succ_ne_zero, reduceIte]
    simp [nrE_of_pure (pureE_map DTask.pure)]
theorem toTaskS_spec (xs : List DTask) (hf : fitS fitTask xs) : Ctr Tryz.prog 31 [.c (.sl (xs.map DTask.c))] [.val (.c (.sl (xs.map DTask.c)))] := (toTaskS_own xs hf.1 fun x hx => toTask_spec x (hf.2 x hx)).val (pureE_map DTask.pure)
theorem toDeed_spec (d : DDeed) (hf : fitDeed d) : Ctr Tryz.prog 64 [.agg d.c] [.val (.agg d.c)] := by
  rw [fitDeed_eq] at hf
  obtain ⟨f0, f1, f2⟩ := hf
  refine Ctr.mk (fn := Tryz.f64) Tryz.call64 Tryz.func64 rfl mixed Tryz.ntmps64 Tryz.results64 (by kernel_rfl) rfl fun _ => ?_
  simp only [go_sem, Nat.reduceAdd, Nat.reduceSub, Nat.reduceMul, Nat.reduceLT, Nat.reduceLeDiff, Nat.reduceEqDiff, Nat.succ_ne_zero, reduceIte]
  refine CallK.mk _ (by simpa only [go_sem] using toValS_spec d.r f0) fun _ => ?_
  simp only [go_sem, Nat.reduceAdd, Nat.reduceSub, Nat.reduceMul, Nat.reduceLT, Nat.reduceLeDiff, Nat.reduceEqDiff, Nat.succ_ne_zero, reduceIte]
  refine CallK.mk _ (by simpa only [go_sem] using toQuery_spec d.q f1) fun _ => ?_
  simp only [go_sem, Nat.reduceAdd, Nat.reduceSub, Nat.reduceMul, Nat.reduceLT, Nat.reduceLeDiff, Nat.reduceEqDiff, Nat.succ_ne_zero, reduceIte]
  refine CallK.mk _ (by simpa only [go_sem] using toResult_spec d.res f2) fun _ => ?_
  simp only [go_sem, Nat.reduceAdd, Nat.reduceSub, Nat.reduceMul, Nat.reduceLT, Nat.reduceLeDiff, Nat.reduceEqDiff, Nat.succ_ne_zero, reduceIte]
theorem toDeedS_own (xs : List DDeed) (hf : xs.length ≤ 1048576) (hx : ∀ x ∈ xs, Ctr Tryz.prog 64 [.agg x.c] [.val (.agg x.c)]) : Ctr Tryz.prog 32 [.c (.sl (xs.map DDeed.c))] [.own 143 25 (xs.map DDeed.c) true] := by
  refine Ctr.mk (fn := Tryz.f32) Tryz.call32 Tryz.func32 rfl mixed Tryz.ntmps32 Tryz.results32 (by kernel_rfl) rfl fun _ => ?_
  have hc : (0 : Int) ≤ xs.length ∧ (xs.length : Int) ≤ xs.length ∧ (xs.length : Int) ≤ 2147483648 := by omega
  simp only [go_sem, Nat.reduceAdd, Nat.reduceSub, Nat.reduceMul, Nat.reduceLT, Nat.reduceLeDiff, Nat.reduceEqDiff, Nat.succ_ne_zero, reduceIte, List.length_map, hc, List.length_replicate]
  have hg := fun k => @trim1_grow _ DDeed.c DDeed.pure [.v (.int .i64 0), .v (.int .i64 0), .v (.slice none 0 0), .v (.int .i64 0), .v (.int .i64 0), .v (.int .i64 0), .v (.int .i64 0), .v (.int .i64 0), .v (.int .i64 0), .v (.int .i64 0), .v (.string ByteArray.empty), .v (.slice none 0 0), .v (.int .i64 0), .v (.slice none 0 0), .v (.slice none 0 0), .v (.int .i64 0), .v (.bool false), .v (.int .i64 0), .v (.int .i64 0), .v (.string ByteArray.empty), .v (.int .i64 0), .v (.int .i64 0), .v (.int .i64 0), .v (.int .i64 0), .v (.int .i64 0)] rfl xs k 143 25 true true
  refine LoopK.mk 1 [0, 3, 4] (A := Nat) (fun k => ⟨23, [(0, .c (.sl (xs.map DDeed.c))), (3, .c (.ref 0)), (4, .c (.v (.int .i64 k)))], [⟨143, 25, grow (xs.map DDeed.c) [.v (.int .i64 0), .v (.int .i64 0), .v (.slice none 0 0), .v (.int .i64 0), .v (.int .i64 0), .v (.int .i64 0), .v (.int .i64 0), .v (.int .i64 0), .v (.int .i64 0), .v (.int .i64 0), .v (.string ByteArray.empty), .v (.slice none 0 0), .v (.int .i64 0), .v (.slice none 0 0), .v (.slice none 0 0), .v (.int .i64 0), .v (.bool false), .v (.int .i64 0), .v (.int .i64 0), .v (.string ByteArray.empty), .v (.int .i64 0), .v (.int .i64 0), .v (.int .i64 0), .v (.int .i64 0), .v (.int .i64 0)] k, true, true⟩]⟩) (fun k => k ≤ xs.length) (fun k => xs.length - k) 0 ⟨⟨rfl, by have := hg 0; simp only [grow_zero, List.length_map] at this; exact this⟩, by simp only [grow_zero, List.length_map]; rfl, Nat.zero_le _⟩ ?_
  intro k hk
  simp only [go_sem, Nat.reduceAdd, Nat.reduceSub, Nat.reduceMul, Nat.reduceLT, Nat.reduceLeDiff, Nat.reduceEqDiff, Nat.succ_ne_zero, reduceIte, List.length_map]
  refine cndC.mk (fun h => ?_) (fun h => ?_)
  · have hk' : k < xs.length := by simpa using h
    have hset := @grow_setm _ DDeed.c xs [.v (.int .i64 0), .v (.int .i64 0), .v (.slice none 0 0), .v (.int .i64 0), .v (.int .i64 0), .v (.int .i64 0), .v (.int .i64 0), .v (.int .i64 0), .v (.int .i64 0), .v (.int .i64 0), .v (.string ByteArray.empty), .v (.slice none 0 0), .v (.int .i64 0), .v (.slice none 0 0), .v (.slice none 0 0), .v (.int .i64 0), .v (.bool false), .v (.int .i64 0), .v (.int .i64 0), .v (.string ByteArray.empty), .v (.int .i64 0), .v (.int .i64 0), .v (.int .i64 0), .v (.int .i64 0), .v (.int .i64 0)] k hk'
    simp only [go_sem] at hset
    simp only [go_sem, Nat.reduceAdd, Nat.reduceSub, Nat.reduceMul, Nat.reduceLT, Nat.reduceLeDiff, Nat.reduceEqDiff, Nat.succ_ne_zero, reduceIte, map_at _ hk', grow_lenm hk, grow_atm hk', hk', hset, wrap_i64 (n := (k : Int) + 1) (by omega) (by omega)]
    refine CallK.mk _ (by simpa only [go_sem] using hx xs[k] (List.getElem_mem hk')) fun _ => ?_
    simp only [go_sem, Nat.reduceAdd, Nat.reduceSub, Nat.reduceMul, Nat.reduceLT, Nat.reduceLeDiff, Nat.reduceEqDiff, Nat.succ_ne_zero, reduceIte, map_at _ hk', grow_lenm hk, grow_atm hk', hk', hset, wrap_i64 (n := (k : Int) + 1) (by omega) (by omega)]
    exact ⟨k + 1, ⟨rfl, hg _⟩, rfl, by omega, by first | omega | (simp only; omega)⟩
  · have hk' : k = xs.length := by simp at h; omega
    subst hk'
    rw [grow_allm]
    simp only [go_sem, Nat.reduceAdd, Nat.reduceSub, Nat.reduceMul, Nat.reduceLT, Nat.reduceLeDiff, Nat.reduceEqDiff, Nat.succ_ne_zero, reduceIte]
    simp [nrE_of_pure (pureE_map DDeed.pure)]
theorem toDeedS_spec (xs : List DDeed) (hf : fitS fitDeed xs) : Ctr Tryz.prog 32 [.c (.sl (xs.map DDeed.c))] [.val (.c (.sl (xs.map DDeed.c)))] := (toDeedS_own xs hf.1 fun x hx => toDeed_spec x (hf.2 x hx)).val (pureE_map DDeed.pure)
theorem toConf_spec (d : DConf) (hf : fitConf d) : Ctr Tryz.prog 26 [.agg d.c] [.val (.agg d.c)] := by
  rw [fitConf_eq] at hf
  have f0 := hf
  refine Ctr.mk (fn := Tryz.f26) Tryz.call26 Tryz.func26 rfl mixed Tryz.ntmps26 Tryz.results26 (by kernel_rfl) rfl fun _ => ?_
  simp only [go_sem, Nat.reduceAdd, Nat.reduceSub, Nat.reduceMul, Nat.reduceLT, Nat.reduceLeDiff, Nat.reduceEqDiff, Nat.succ_ne_zero, reduceIte]
  refine CallK.mk _ (by simpa only [go_sem] using toIntS_spec d.cols f0) fun _ => ?_
  simp only [go_sem, Nat.reduceAdd, Nat.reduceSub, Nat.reduceMul, Nat.reduceLT, Nat.reduceLeDiff, Nat.reduceEqDiff, Nat.succ_ne_zero, reduceIte]
theorem toWorld_spec (d : DWorld) (hf : fitWorld d) : Ctr Tryz.prog 7 [.agg d.c] [.val (.agg d.c)] := by
  rw [fitWorld_eq] at hf
  obtain ⟨f0, f1, f2, f3, f4, f5, f6, f7⟩ := hf
  refine Ctr.mk (fn := Tryz.f7) Tryz.call7 Tryz.func7 rfl mixed Tryz.ntmps7 Tryz.results7 (by kernel_rfl) rfl fun _ => ?_
  simp only [go_sem, Nat.reduceAdd, Nat.reduceSub, Nat.reduceMul, Nat.reduceLT, Nat.reduceLeDiff, Nat.reduceEqDiff, Nat.succ_ne_zero, reduceIte]
  refine CallK.mk _ (by simpa only [go_sem] using toConf_spec d.c0 f0) fun _ => ?_
  simp only [go_sem, Nat.reduceAdd, Nat.reduceSub, Nat.reduceMul, Nat.reduceLT, Nat.reduceLeDiff, Nat.reduceEqDiff, Nat.succ_ne_zero, reduceIte]
  refine CallK.mk _ (by simpa only [go_sem] using toDir_spec d.d f1) fun _ => ?_
  simp only [go_sem, Nat.reduceAdd, Nat.reduceSub, Nat.reduceMul, Nat.reduceLT, Nat.reduceLeDiff, Nat.reduceEqDiff, Nat.succ_ne_zero, reduceIte]
  refine CallK.mk _ (by simpa only [go_sem] using toBufS_spec d.b f2) fun _ => ?_
  simp only [go_sem, Nat.reduceAdd, Nat.reduceSub, Nat.reduceMul, Nat.reduceLT, Nat.reduceLeDiff, Nat.reduceEqDiff, Nat.succ_ne_zero, reduceIte]
  refine CallK.mk _ (by simpa only [go_sem] using toIntS_spec d.m f3) fun _ => ?_
  simp only [go_sem, Nat.reduceAdd, Nat.reduceSub, Nat.reduceMul, Nat.reduceLT, Nat.reduceLeDiff, Nat.reduceEqDiff, Nat.succ_ne_zero, reduceIte]
  refine CallK.mk _ (by simpa only [go_sem] using toDeadS_spec d.x f4) fun _ => ?_
  simp only [go_sem, Nat.reduceAdd, Nat.reduceSub, Nat.reduceMul, Nat.reduceLT, Nat.reduceLeDiff, Nat.reduceEqDiff, Nat.succ_ne_zero, reduceIte]
  refine CallK.mk _ (by simpa only [go_sem] using toIntS_spec d.p f5) fun _ => ?_
  simp only [go_sem, Nat.reduceAdd, Nat.reduceSub, Nat.reduceMul, Nat.reduceLT, Nat.reduceLeDiff, Nat.reduceEqDiff, Nat.succ_ne_zero, reduceIte]
  refine CallK.mk _ (by simpa only [go_sem] using toTaskS_spec d.tasks f6) fun _ => ?_
  simp only [go_sem, Nat.reduceAdd, Nat.reduceSub, Nat.reduceMul, Nat.reduceLT, Nat.reduceLeDiff, Nat.reduceEqDiff, Nat.succ_ne_zero, reduceIte]
  refine CallK.mk _ (by simpa only [go_sem] using toDeedS_spec d.deeds f7) fun _ => ?_
  simp only [go_sem, Nat.reduceAdd, Nat.reduceSub, Nat.reduceMul, Nat.reduceLT, Nat.reduceLeDiff, Nat.reduceEqDiff, Nat.succ_ne_zero, reduceIte]
theorem eqIntS_spec (xs : List Int) : Ctr Tryz.prog 41 [.c (.sl (xs.map intC)), .c (.sl (xs.map intC))] [.val (.c (.v (.bool true)))] := by
  refine Ctr.mk (fn := Tryz.f41) Tryz.call41 Tryz.func41 rfl mixed Tryz.ntmps41 Tryz.results41 (by kernel_rfl) rfl fun hw => ?_
  have hlen : xs.length ≤ 9223372036854775807 := by have := hw.1.1; simpa [Go.maxLen] using this
  simp only [go_sem, Nat.reduceAdd, Nat.reduceSub, Nat.reduceMul, Nat.reduceLT, Nat.reduceLeDiff, Nat.reduceEqDiff, Nat.succ_ne_zero, reduceIte, List.length_map, bne_self_eq_false, beq_self_eq_true]
  refine LoopK.mk 0 [0, 1, 5] (A := Nat) (fun k => ⟨26, [(0, .c (.sl (xs.map intC))), (1, .c (.sl (xs.map intC))), (5, .c (.v (.int .i64 k)))], []⟩) (fun k => k ≤ xs.length) (fun k => xs.length - k) 0 ⟨⟨rfl, rfl⟩, rfl, Nat.zero_le _⟩ ?_
  intro k hk
  simp only [go_sem, Nat.reduceAdd, Nat.reduceSub, Nat.reduceMul, Nat.reduceLT, Nat.reduceLeDiff, Nat.reduceEqDiff, Nat.succ_ne_zero, reduceIte, List.length_map]
  refine cndC.mk (fun h => ?_) (fun h => ?_)
  · have hk' : k < xs.length := by simpa using h
    simp only [go_sem, Nat.reduceAdd, Nat.reduceSub, Nat.reduceMul, Nat.reduceLT, Nat.reduceLeDiff, Nat.reduceEqDiff, Nat.succ_ne_zero, reduceIte]
    refine DrawK.mk ?_
    simp only [go_sem, Nat.reduceAdd, Nat.reduceSub, Nat.reduceMul, Nat.reduceLT, Nat.reduceLeDiff, Nat.reduceEqDiff, Nat.succ_ne_zero, reduceIte, List.length_map, bne_self_eq_false, beq_self_eq_true, map_at _ hk', hk', wrap_i64 (n := (k : Int) + 1) (by omega) (by omega)]
    exact ⟨k + 1, ⟨rfl, rfl⟩, rfl, by omega, by first | omega | (simp only; omega)⟩
  · simp only [go_sem, Nat.reduceAdd, Nat.reduceSub, Nat.reduceMul, Nat.reduceLT, Nat.reduceLeDiff, Nat.reduceEqDiff, Nat.succ_ne_zero, reduceIte]
theorem eqByteS_spec (xs : List Int) : Ctr Tryz.prog 92 [.c (.sl (xs.map byteC)), .c (.sl (xs.map byteC))] [.val (.c (.v (.bool true)))] := by
  refine Ctr.mk (fn := Tryz.f92) Tryz.call92 Tryz.func92 rfl mixed Tryz.ntmps92 Tryz.results92 (by kernel_rfl) rfl fun hw => ?_
  have hlen : xs.length ≤ 9223372036854775807 := by have := hw.1.1; simpa [Go.maxLen] using this
  simp only [go_sem, Nat.reduceAdd, Nat.reduceSub, Nat.reduceMul, Nat.reduceLT, Nat.reduceLeDiff, Nat.reduceEqDiff, Nat.succ_ne_zero, reduceIte, List.length_map, bne_self_eq_false, beq_self_eq_true]
  refine LoopK.mk 0 [0, 1, 5] (A := Nat) (fun k => ⟨26, [(0, .c (.sl (xs.map byteC))), (1, .c (.sl (xs.map byteC))), (5, .c (.v (.int .i64 k)))], []⟩) (fun k => k ≤ xs.length) (fun k => xs.length - k) 0 ⟨⟨rfl, rfl⟩, rfl, Nat.zero_le _⟩ ?_
  intro k hk
  simp only [go_sem, Nat.reduceAdd, Nat.reduceSub, Nat.reduceMul, Nat.reduceLT, Nat.reduceLeDiff, Nat.reduceEqDiff, Nat.succ_ne_zero, reduceIte, List.length_map]
  refine cndC.mk (fun h => ?_) (fun h => ?_)
  · have hk' : k < xs.length := by simpa using h
    simp only [go_sem, Nat.reduceAdd, Nat.reduceSub, Nat.reduceMul, Nat.reduceLT, Nat.reduceLeDiff, Nat.reduceEqDiff, Nat.succ_ne_zero, reduceIte]
    refine DrawK.mk ?_
    simp only [go_sem, Nat.reduceAdd, Nat.reduceSub, Nat.reduceMul, Nat.reduceLT, Nat.reduceLeDiff, Nat.reduceEqDiff, Nat.succ_ne_zero, reduceIte, List.length_map, bne_self_eq_false, beq_self_eq_true, map_at _ hk', hk', wrap_i64 (n := (k : Int) + 1) (by omega) (by omega)]
    exact ⟨k + 1, ⟨rfl, rfl⟩, rfl, by omega, by first | omega | (simp only; omega)⟩
  · simp only [go_sem, Nat.reduceAdd, Nat.reduceSub, Nat.reduceMul, Nat.reduceLT, Nat.reduceLeDiff, Nat.reduceEqDiff, Nat.succ_ne_zero, reduceIte]
theorem eqVal_spec (d : DVal) : Ctr Tryz.prog 89 [.agg d.c, .agg d.c] [.val (.c (.v (.bool true)))] := by
  refine Ctr.mk (fn := Tryz.f89) Tryz.call89 Tryz.func89 rfl mixed Tryz.ntmps89 Tryz.results89 (by kernel_rfl) rfl fun _ => ?_
  simp only [go_sem, Nat.reduceAdd, Nat.reduceSub, Nat.reduceMul, Nat.reduceLT, Nat.reduceLeDiff, Nat.reduceEqDiff, Nat.succ_ne_zero, reduceIte, bne_self_eq_false, beq_self_eq_true]
theorem eqValS_of (xs : List DVal) (hx : ∀ x ∈ xs, Ctr Tryz.prog 89 [.agg x.c, .agg x.c] [.val (.c (.v (.bool true)))]) : Ctr Tryz.prog 67 [.c (.sl (xs.map DVal.c)), .c (.sl (xs.map DVal.c))] [.val (.c (.v (.bool true)))] := by
  refine Ctr.mk (fn := Tryz.f67) Tryz.call67 Tryz.func67 rfl mixed Tryz.ntmps67 Tryz.results67 (by kernel_rfl) rfl fun hw => ?_
  have hlen : xs.length ≤ 9223372036854775807 := by have := hw.1.1; simpa [Go.maxLen] using this
  simp only [go_sem, Nat.reduceAdd, Nat.reduceSub, Nat.reduceMul, Nat.reduceLT, Nat.reduceLeDiff, Nat.reduceEqDiff, Nat.succ_ne_zero, reduceIte, List.length_map, bne_self_eq_false, beq_self_eq_true]
  refine LoopK.mk 0 [0, 1, 5] (A := Nat) (fun k => ⟨27, [(0, .c (.sl (xs.map DVal.c))), (1, .c (.sl (xs.map DVal.c))), (5, .c (.v (.int .i64 k)))], []⟩) (fun k => k ≤ xs.length) (fun k => xs.length - k) 0 ⟨⟨rfl, rfl⟩, rfl, Nat.zero_le _⟩ ?_
  intro k hk
  simp only [go_sem, Nat.reduceAdd, Nat.reduceSub, Nat.reduceMul, Nat.reduceLT, Nat.reduceLeDiff, Nat.reduceEqDiff, Nat.succ_ne_zero, reduceIte, List.length_map]
  refine cndC.mk (fun h => ?_) (fun h => ?_)
  · have hk' : k < xs.length := by simpa using h
    simp only [go_sem, Nat.reduceAdd, Nat.reduceSub, Nat.reduceMul, Nat.reduceLT, Nat.reduceLeDiff, Nat.reduceEqDiff, Nat.succ_ne_zero, reduceIte]
    refine DrawK.mk ?_
    simp only [go_sem, Nat.reduceAdd, Nat.reduceSub, Nat.reduceMul, Nat.reduceLT, Nat.reduceLeDiff, Nat.reduceEqDiff, Nat.succ_ne_zero, reduceIte, List.length_map, bne_self_eq_false, beq_self_eq_true, map_at _ hk', hk', wrap_i64 (n := (k : Int) + 1) (by omega) (by omega)]
    refine CallF.mk _ (by simpa only [go_sem] using hx xs[k] (List.getElem_mem hk')) ?_
    simp only [go_sem, Nat.reduceAdd, Nat.reduceSub, Nat.reduceMul, Nat.reduceLT, Nat.reduceLeDiff, Nat.reduceEqDiff, Nat.succ_ne_zero, reduceIte, map_at _ hk', wrap_i64 (n := (k : Int) + 1) (by omega) (by omega)]
    exact ⟨k + 1, ⟨rfl, rfl⟩, rfl, by omega, by first | omega | (simp only; omega)⟩
  · simp only [go_sem, Nat.reduceAdd, Nat.reduceSub, Nat.reduceMul, Nat.reduceLT, Nat.reduceLeDiff, Nat.reduceEqDiff, Nat.succ_ne_zero, reduceIte]
theorem eqValS_spec (xs : List DVal) : Ctr Tryz.prog 67 [.c (.sl (xs.map DVal.c)), .c (.sl (xs.map DVal.c))] [.val (.c (.v (.bool true)))] := eqValS_of xs fun x _ => eqVal_spec x
theorem eqRow_spec (d : DRow) : Ctr Tryz.prog 37 [.agg d.c, .agg d.c] [.val (.c (.v (.bool true)))] := by
  refine Ctr.mk (fn := Tryz.f37) Tryz.call37 Tryz.func37 rfl mixed Tryz.ntmps37 Tryz.results37 (by kernel_rfl) rfl fun _ => ?_
  simp only [go_sem, Nat.reduceAdd, Nat.reduceSub, Nat.reduceMul, Nat.reduceLT, Nat.reduceLeDiff, Nat.reduceEqDiff, Nat.succ_ne_zero, reduceIte, bne_self_eq_false, beq_self_eq_true]
  refine CallK.mk _ (by simpa only [go_sem] using eqValS_spec d.l) fun _ => ?_
  simp only [go_sem, Nat.reduceAdd, Nat.reduceSub, Nat.reduceMul, Nat.reduceLT, Nat.reduceLeDiff, Nat.reduceEqDiff, Nat.succ_ne_zero, reduceIte, bne_self_eq_false, beq_self_eq_true]
theorem eqRowS_of (xs : List DRow) (hx : ∀ x ∈ xs, Ctr Tryz.prog 37 [.agg x.c, .agg x.c] [.val (.c (.v (.bool true)))]) : Ctr Tryz.prog 10 [.c (.sl (xs.map DRow.c)), .c (.sl (xs.map DRow.c))] [.val (.c (.v (.bool true)))] := by
  refine Ctr.mk (fn := Tryz.f10) Tryz.call10 Tryz.func10 rfl mixed Tryz.ntmps10 Tryz.results10 (by kernel_rfl) rfl fun hw => ?_
  have hlen : xs.length ≤ 9223372036854775807 := by have := hw.1.1; simpa [Go.maxLen] using this
  simp only [go_sem, Nat.reduceAdd, Nat.reduceSub, Nat.reduceMul, Nat.reduceLT, Nat.reduceLeDiff, Nat.reduceEqDiff, Nat.succ_ne_zero, reduceIte, List.length_map, bne_self_eq_false, beq_self_eq_true]
  refine LoopK.mk 0 [0, 1, 5] (A := Nat) (fun k => ⟨27, [(0, .c (.sl (xs.map DRow.c))), (1, .c (.sl (xs.map DRow.c))), (5, .c (.v (.int .i64 k)))], []⟩) (fun k => k ≤ xs.length) (fun k => xs.length - k) 0 ⟨⟨rfl, rfl⟩, rfl, Nat.zero_le _⟩ ?_
  intro k hk
  simp only [go_sem, Nat.reduceAdd, Nat.reduceSub, Nat.reduceMul, Nat.reduceLT, Nat.reduceLeDiff, Nat.reduceEqDiff, Nat.succ_ne_zero, reduceIte, List.length_map]
  refine cndC.mk (fun h => ?_) (fun h => ?_)
  · have hk' : k < xs.length := by simpa using h
    simp only [go_sem, Nat.reduceAdd, Nat.reduceSub, Nat.reduceMul, Nat.reduceLT, Nat.reduceLeDiff, Nat.reduceEqDiff, Nat.succ_ne_zero, reduceIte]
    refine DrawK.mk ?_
    simp only [go_sem, Nat.reduceAdd, Nat.reduceSub, Nat.reduceMul, Nat.reduceLT, Nat.reduceLeDiff, Nat.reduceEqDiff, Nat.succ_ne_zero, reduceIte, List.length_map, bne_self_eq_false, beq_self_eq_true, map_at _ hk', hk', wrap_i64 (n := (k : Int) + 1) (by omega) (by omega)]
    refine CallF.mk _ (by simpa only [go_sem] using hx xs[k] (List.getElem_mem hk')) ?_
    simp only [go_sem, Nat.reduceAdd, Nat.reduceSub, Nat.reduceMul, Nat.reduceLT, Nat.reduceLeDiff, Nat.reduceEqDiff, Nat.succ_ne_zero, reduceIte, map_at _ hk', wrap_i64 (n := (k : Int) + 1) (by omega) (by omega)]
    exact ⟨k + 1, ⟨rfl, rfl⟩, rfl, by omega, by first | omega | (simp only; omega)⟩
  · simp only [go_sem, Nat.reduceAdd, Nat.reduceSub, Nat.reduceMul, Nat.reduceLT, Nat.reduceLeDiff, Nat.reduceEqDiff, Nat.succ_ne_zero, reduceIte]
theorem eqRowS_spec (xs : List DRow) : Ctr Tryz.prog 10 [.c (.sl (xs.map DRow.c)), .c (.sl (xs.map DRow.c))] [.val (.c (.v (.bool true)))] := eqRowS_of xs fun x _ => eqRow_spec x
theorem eqPredS_of (xs : List DPred) (hx : ∀ x ∈ xs, Ctr Tryz.prog 100 [.agg x.c, .agg x.c] [.val (.c (.v (.bool true)))]) : Ctr Tryz.prog 106 [.c (.sl (xs.map DPred.c)), .c (.sl (xs.map DPred.c))] [.val (.c (.v (.bool true)))] := by
  refine Ctr.mk (fn := Tryz.f106) Tryz.call106 Tryz.func106 rfl mixed Tryz.ntmps106 Tryz.results106 (by kernel_rfl) rfl fun hw => ?_
  have hlen : xs.length ≤ 9223372036854775807 := by have := hw.1.1; simpa [Go.maxLen] using this
  simp only [go_sem, Nat.reduceAdd, Nat.reduceSub, Nat.reduceMul, Nat.reduceLT, Nat.reduceLeDiff, Nat.reduceEqDiff, Nat.succ_ne_zero, reduceIte, List.length_map, bne_self_eq_false, beq_self_eq_true]
  refine LoopK.mk 0 [0, 1, 5] (A := Nat) (fun k => ⟨27, [(0, .c (.sl (xs.map DPred.c))), (1, .c (.sl (xs.map DPred.c))), (5, .c (.v (.int .i64 k)))], []⟩) (fun k => k ≤ xs.length) (fun k => xs.length - k) 0 ⟨⟨rfl, rfl⟩, rfl, Nat.zero_le _⟩ ?_
  intro k hk
  simp only [go_sem, Nat.reduceAdd, Nat.reduceSub, Nat.reduceMul, Nat.reduceLT, Nat.reduceLeDiff, Nat.reduceEqDiff, Nat.succ_ne_zero, reduceIte, List.length_map]
  refine cndC.mk (fun h => ?_) (fun h => ?_)
  · have hk' : k < xs.length := by simpa using h
    simp only [go_sem, Nat.reduceAdd, Nat.reduceSub, Nat.reduceMul, Nat.reduceLT, Nat.reduceLeDiff, Nat.reduceEqDiff, Nat.succ_ne_zero, reduceIte]
    refine DrawK.mk ?_
    simp only [go_sem, Nat.reduceAdd, Nat.reduceSub, Nat.reduceMul, Nat.reduceLT, Nat.reduceLeDiff, Nat.reduceEqDiff, Nat.succ_ne_zero, reduceIte, List.length_map, bne_self_eq_false, beq_self_eq_true, map_at _ hk', hk', wrap_i64 (n := (k : Int) + 1) (by omega) (by omega)]
    refine CallF.mk _ (by simpa only [go_sem] using hx xs[k] (List.getElem_mem hk')) ?_
    simp only [go_sem, Nat.reduceAdd, Nat.reduceSub, Nat.reduceMul, Nat.reduceLT, Nat.reduceLeDiff, Nat.reduceEqDiff, Nat.succ_ne_zero, reduceIte, map_at _ hk', wrap_i64 (n := (k : Int) + 1) (by omega) (by omega)]
    exact ⟨k + 1, ⟨rfl, rfl⟩, rfl, by omega, by first | omega | (simp only; omega)⟩
  · simp only [go_sem, Nat.reduceAdd, Nat.reduceSub, Nat.reduceMul, Nat.reduceLT, Nat.reduceLeDiff, Nat.reduceEqDiff, Nat.succ_ne_zero, reduceIte]
theorem eqPred_of (d : DPred) (hx : ∀ x ∈ d.l, Ctr Tryz.prog 100 [.agg x.c, .agg x.c] [.val (.c (.v (.bool true)))]) : Ctr Tryz.prog 100 [.agg d.c, .agg d.c] [.val (.c (.v (.bool true)))] := by
  refine Ctr.mk (fn := Tryz.f100) Tryz.call100 Tryz.func100 rfl mixed Tryz.ntmps100 Tryz.results100 (by kernel_rfl) rfl fun _ => ?_
  simp only [go_sem, Nat.reduceAdd, Nat.reduceSub, Nat.reduceMul, Nat.reduceLT, Nat.reduceLeDiff, Nat.reduceEqDiff, Nat.succ_ne_zero, reduceIte, bne_self_eq_false, beq_self_eq_true]
  refine CallK.mk _ (by simpa only [go_sem] using eqVal_spec d.v) fun _ => ?_
  simp only [go_sem, Nat.reduceAdd, Nat.reduceSub, Nat.reduceMul, Nat.reduceLT, Nat.reduceLeDiff, Nat.reduceEqDiff, Nat.succ_ne_zero, reduceIte, bne_self_eq_false, beq_self_eq_true]
  refine CallK.mk _ (by simpa only [go_sem] using eqPredS_of d.l hx) fun _ => ?_
  simp only [go_sem, Nat.reduceAdd, Nat.reduceSub, Nat.reduceMul, Nat.reduceLT, Nat.reduceLeDiff, Nat.reduceEqDiff, Nat.succ_ne_zero, reduceIte, bne_self_eq_false, beq_self_eq_true]
theorem eqPred_fuel : ∀ (n : Nat) (d : DPred), SizeOf.sizeOf d ≤ n → Ctr Tryz.prog 100 [.agg d.c, .agg d.c] [.val (.c (.v (.bool true)))]
  | 0, d, h => by cases d; simp at h
  | n + 1, d, h => eqPred_of d fun x hx => eqPred_fuel n x (by
    have h1 : SizeOf.sizeOf x < SizeOf.sizeOf d.l := List.sizeOf_lt_of_mem hx
    have h2 : SizeOf.sizeOf d.l < SizeOf.sizeOf d := by cases d; simp [DPred.l]; omega
    omega)
theorem eqPred_spec (d : DPred) : Ctr Tryz.prog 100 [.agg d.c, .agg d.c] [.val (.c (.v (.bool true)))] := eqPred_fuel _ d (Nat.le_refl _)
theorem eqPredS_spec (xs : List DPred) : Ctr Tryz.prog 106 [.c (.sl (xs.map DPred.c)), .c (.sl (xs.map DPred.c))] [.val (.c (.v (.bool true)))] := eqPredS_of xs fun x _ => eqPred_spec x
theorem eqQuery_spec (d : DQuery) : Ctr Tryz.prog 93 [.agg d.c, .agg d.c] [.val (.c (.v (.bool true)))] := by
  refine Ctr.mk (fn := Tryz.f93) Tryz.call93 Tryz.func93 rfl mixed Tryz.ntmps93 Tryz.results93 (by kernel_rfl) rfl fun _ => ?_
  simp only [go_sem, Nat.reduceAdd, Nat.reduceSub, Nat.reduceMul, Nat.reduceLT, Nat.reduceLeDiff, Nat.reduceEqDiff, Nat.succ_ne_zero, reduceIte, bne_self_eq_false, beq_self_eq_true]
  refine CallK.mk _ (by simpa only [go_sem] using eqPred_spec d.p) fun _ => ?_
  simp only [go_sem, Nat.reduceAdd, Nat.reduceSub, Nat.reduceMul, Nat.reduceLT, Nat.reduceLeDiff, Nat.reduceEqDiff, Nat.succ_ne_zero, reduceIte, bne_self_eq_false, beq_self_eq_true]
  refine CallK.mk _ (by simpa only [go_sem] using eqIntS_spec d.out) fun _ => ?_
  simp only [go_sem, Nat.reduceAdd, Nat.reduceSub, Nat.reduceMul, Nat.reduceLT, Nat.reduceLeDiff, Nat.reduceEqDiff, Nat.succ_ne_zero, reduceIte, bne_self_eq_false, beq_self_eq_true]
theorem eqResult_spec (d : DResult) : Ctr Tryz.prog 94 [.agg d.c, .agg d.c] [.val (.c (.v (.bool true)))] := by
  refine Ctr.mk (fn := Tryz.f94) Tryz.call94 Tryz.func94 rfl mixed Tryz.ntmps94 Tryz.results94 (by kernel_rfl) rfl fun _ => ?_
  simp only [go_sem, Nat.reduceAdd, Nat.reduceSub, Nat.reduceMul, Nat.reduceLT, Nat.reduceLeDiff, Nat.reduceEqDiff, Nat.succ_ne_zero, reduceIte, bne_self_eq_false, beq_self_eq_true]
  refine CallK.mk _ (by simpa only [go_sem] using eqRowS_spec d.rows) fun _ => ?_
  simp only [go_sem, Nat.reduceAdd, Nat.reduceSub, Nat.reduceMul, Nat.reduceLT, Nat.reduceLeDiff, Nat.reduceEqDiff, Nat.succ_ne_zero, reduceIte, bne_self_eq_false, beq_self_eq_true]
  refine CallK.mk _ (by simpa only [go_sem] using eqVal_spec d.v) fun _ => ?_
  simp only [go_sem, Nat.reduceAdd, Nat.reduceSub, Nat.reduceMul, Nat.reduceLT, Nat.reduceLeDiff, Nat.reduceEqDiff, Nat.succ_ne_zero, reduceIte, bne_self_eq_false, beq_self_eq_true]
theorem eqSlot_spec (d : DSlot) : Ctr Tryz.prog 105 [.agg d.c, .agg d.c] [.val (.c (.v (.bool true)))] := by
  refine Ctr.mk (fn := Tryz.f105) Tryz.call105 Tryz.func105 rfl mixed Tryz.ntmps105 Tryz.results105 (by kernel_rfl) rfl fun _ => ?_
  simp only [go_sem, Nat.reduceAdd, Nat.reduceSub, Nat.reduceMul, Nat.reduceLT, Nat.reduceLeDiff, Nat.reduceEqDiff, Nat.succ_ne_zero, reduceIte, bne_self_eq_false, beq_self_eq_true]
  refine CallK.mk _ (by simpa only [go_sem] using eqValS_spec d.l) fun _ => ?_
  simp only [go_sem, Nat.reduceAdd, Nat.reduceSub, Nat.reduceMul, Nat.reduceLT, Nat.reduceLeDiff, Nat.reduceEqDiff, Nat.succ_ne_zero, reduceIte, bne_self_eq_false, beq_self_eq_true]
theorem eqSlotS_of (xs : List DSlot) (hx : ∀ x ∈ xs, Ctr Tryz.prog 105 [.agg x.c, .agg x.c] [.val (.c (.v (.bool true)))]) : Ctr Tryz.prog 99 [.c (.sl (xs.map DSlot.c)), .c (.sl (xs.map DSlot.c))] [.val (.c (.v (.bool true)))] := by
  refine Ctr.mk (fn := Tryz.f99) Tryz.call99 Tryz.func99 rfl mixed Tryz.ntmps99 Tryz.results99 (by kernel_rfl) rfl fun hw => ?_
  have hlen : xs.length ≤ 9223372036854775807 := by have := hw.1.1; simpa [Go.maxLen] using this
  simp only [go_sem, Nat.reduceAdd, Nat.reduceSub, Nat.reduceMul, Nat.reduceLT, Nat.reduceLeDiff, Nat.reduceEqDiff, Nat.succ_ne_zero, reduceIte, List.length_map, bne_self_eq_false, beq_self_eq_true]
  refine LoopK.mk 0 [0, 1, 5] (A := Nat) (fun k => ⟨27, [(0, .c (.sl (xs.map DSlot.c))), (1, .c (.sl (xs.map DSlot.c))), (5, .c (.v (.int .i64 k)))], []⟩) (fun k => k ≤ xs.length) (fun k => xs.length - k) 0 ⟨⟨rfl, rfl⟩, rfl, Nat.zero_le _⟩ ?_
  intro k hk
  simp only [go_sem, Nat.reduceAdd, Nat.reduceSub, Nat.reduceMul, Nat.reduceLT, Nat.reduceLeDiff, Nat.reduceEqDiff, Nat.succ_ne_zero, reduceIte, List.length_map]
  refine cndC.mk (fun h => ?_) (fun h => ?_)
  · have hk' : k < xs.length := by simpa using h
    simp only [go_sem, Nat.reduceAdd, Nat.reduceSub, Nat.reduceMul, Nat.reduceLT, Nat.reduceLeDiff, Nat.reduceEqDiff, Nat.succ_ne_zero, reduceIte]
    refine DrawK.mk ?_
    simp only [go_sem, Nat.reduceAdd, Nat.reduceSub, Nat.reduceMul, Nat.reduceLT, Nat.reduceLeDiff, Nat.reduceEqDiff, Nat.succ_ne_zero, reduceIte, List.length_map, bne_self_eq_false, beq_self_eq_true, map_at _ hk', hk', wrap_i64 (n := (k : Int) + 1) (by omega) (by omega)]
    refine CallF.mk _ (by simpa only [go_sem] using hx xs[k] (List.getElem_mem hk')) ?_
    simp only [go_sem, Nat.reduceAdd, Nat.reduceSub, Nat.reduceMul, Nat.reduceLT, Nat.reduceLeDiff, Nat.reduceEqDiff, Nat.succ_ne_zero, reduceIte, map_at _ hk', wrap_i64 (n := (k : Int) + 1) (by omega) (by omega)]
    exact ⟨k + 1, ⟨rfl, rfl⟩, rfl, by omega, by first | omega | (simp only; omega)⟩
  · simp only [go_sem, Nat.reduceAdd, Nat.reduceSub, Nat.reduceMul, Nat.reduceLT, Nat.reduceLeDiff, Nat.reduceEqDiff, Nat.succ_ne_zero, reduceIte]
theorem eqSlotS_spec (xs : List DSlot) : Ctr Tryz.prog 99 [.c (.sl (xs.map DSlot.c)), .c (.sl (xs.map DSlot.c))] [.val (.c (.v (.bool true)))] := eqSlotS_of xs fun x _ => eqSlot_spec x
theorem eqChunk_spec (d : DChunk) : Ctr Tryz.prog 91 [.agg d.c, .agg d.c] [.val (.c (.v (.bool true)))] := by
  refine Ctr.mk (fn := Tryz.f91) Tryz.call91 Tryz.func91 rfl mixed Tryz.ntmps91 Tryz.results91 (by kernel_rfl) rfl fun _ => ?_
  simp only [go_sem, Nat.reduceAdd, Nat.reduceSub, Nat.reduceMul, Nat.reduceLT, Nat.reduceLeDiff, Nat.reduceEqDiff, Nat.succ_ne_zero, reduceIte, bne_self_eq_false, beq_self_eq_true]
  refine CallK.mk _ (by simpa only [go_sem] using eqSlotS_spec d.l) fun _ => ?_
  simp only [go_sem, Nat.reduceAdd, Nat.reduceSub, Nat.reduceMul, Nat.reduceLT, Nat.reduceLeDiff, Nat.reduceEqDiff, Nat.succ_ne_zero, reduceIte, bne_self_eq_false, beq_self_eq_true]
theorem eqBuf_spec (d : DBuf) : Ctr Tryz.prog 69 [.agg d.c, .agg d.c] [.val (.c (.v (.bool true)))] := by
  refine Ctr.mk (fn := Tryz.f69) Tryz.call69 Tryz.func69 rfl mixed Tryz.ntmps69 Tryz.results69 (by kernel_rfl) rfl fun _ => ?_
  simp only [go_sem, Nat.reduceAdd, Nat.reduceSub, Nat.reduceMul, Nat.reduceLT, Nat.reduceLeDiff, Nat.reduceEqDiff, Nat.succ_ne_zero, reduceIte, bne_self_eq_false, beq_self_eq_true]
  refine CallK.mk _ (by simpa only [go_sem] using eqChunk_spec d.c0) fun _ => ?_
  simp only [go_sem, Nat.reduceAdd, Nat.reduceSub, Nat.reduceMul, Nat.reduceLT, Nat.reduceLeDiff, Nat.reduceEqDiff, Nat.succ_ne_zero, reduceIte, bne_self_eq_false, beq_self_eq_true]
  refine CallK.mk _ (by simpa only [go_sem] using eqByteS_spec d.g) fun _ => ?_
  simp only [go_sem, Nat.reduceAdd, Nat.reduceSub, Nat.reduceMul, Nat.reduceLT, Nat.reduceLeDiff, Nat.reduceEqDiff, Nat.succ_ne_zero, reduceIte, bne_self_eq_false, beq_self_eq_true]
theorem eqBufS_of (xs : List DBuf) (hx : ∀ x ∈ xs, Ctr Tryz.prog 69 [.agg x.c, .agg x.c] [.val (.c (.v (.bool true)))]) : Ctr Tryz.prog 40 [.c (.sl (xs.map DBuf.c)), .c (.sl (xs.map DBuf.c))] [.val (.c (.v (.bool true)))] := by
  refine Ctr.mk (fn := Tryz.f40) Tryz.call40 Tryz.func40 rfl mixed Tryz.ntmps40 Tryz.results40 (by kernel_rfl) rfl fun hw => ?_
  have hlen : xs.length ≤ 9223372036854775807 := by have := hw.1.1; simpa [Go.maxLen] using this
  simp only [go_sem, Nat.reduceAdd, Nat.reduceSub, Nat.reduceMul, Nat.reduceLT, Nat.reduceLeDiff, Nat.reduceEqDiff, Nat.succ_ne_zero, reduceIte, List.length_map, bne_self_eq_false, beq_self_eq_true]
  refine LoopK.mk 0 [0, 1, 5] (A := Nat) (fun k => ⟨27, [(0, .c (.sl (xs.map DBuf.c))), (1, .c (.sl (xs.map DBuf.c))), (5, .c (.v (.int .i64 k)))], []⟩) (fun k => k ≤ xs.length) (fun k => xs.length - k) 0 ⟨⟨rfl, rfl⟩, rfl, Nat.zero_le _⟩ ?_
  intro k hk
  simp only [go_sem, Nat.reduceAdd, Nat.reduceSub, Nat.reduceMul, Nat.reduceLT, Nat.reduceLeDiff, Nat.reduceEqDiff, Nat.succ_ne_zero, reduceIte, List.length_map]
  refine cndC.mk (fun h => ?_) (fun h => ?_)
  · have hk' : k < xs.length := by simpa using h
    simp only [go_sem, Nat.reduceAdd, Nat.reduceSub, Nat.reduceMul, Nat.reduceLT, Nat.reduceLeDiff, Nat.reduceEqDiff, Nat.succ_ne_zero, reduceIte]
    refine DrawK.mk ?_
    simp only [go_sem, Nat.reduceAdd, Nat.reduceSub, Nat.reduceMul, Nat.reduceLT, Nat.reduceLeDiff, Nat.reduceEqDiff, Nat.succ_ne_zero, reduceIte, List.length_map, bne_self_eq_false, beq_self_eq_true, map_at _ hk', hk', wrap_i64 (n := (k : Int) + 1) (by omega) (by omega)]
    refine CallF.mk _ (by simpa only [go_sem] using hx xs[k] (List.getElem_mem hk')) ?_
    simp only [go_sem, Nat.reduceAdd, Nat.reduceSub, Nat.reduceMul, Nat.reduceLT, Nat.reduceLeDiff, Nat.reduceEqDiff, Nat.succ_ne_zero, reduceIte, map_at _ hk', wrap_i64 (n := (k : Int) + 1) (by omega) (by omega)]
    exact ⟨k + 1, ⟨rfl, rfl⟩, rfl, by omega, by first | omega | (simp only; omega)⟩
  · simp only [go_sem, Nat.reduceAdd, Nat.reduceSub, Nat.reduceMul, Nat.reduceLT, Nat.reduceLeDiff, Nat.reduceEqDiff, Nat.succ_ne_zero, reduceIte]
theorem eqBufS_spec (xs : List DBuf) : Ctr Tryz.prog 40 [.c (.sl (xs.map DBuf.c)), .c (.sl (xs.map DBuf.c))] [.val (.c (.v (.bool true)))] := eqBufS_of xs fun x _ => eqBuf_spec x
theorem eqDead_spec (d : DDead) : Ctr Tryz.prog 70 [.agg d.c, .agg d.c] [.val (.c (.v (.bool true)))] := by
  refine Ctr.mk (fn := Tryz.f70) Tryz.call70 Tryz.func70 rfl mixed Tryz.ntmps70 Tryz.results70 (by kernel_rfl) rfl fun _ => ?_
  simp only [go_sem, Nat.reduceAdd, Nat.reduceSub, Nat.reduceMul, Nat.reduceLT, Nat.reduceLeDiff, Nat.reduceEqDiff, Nat.succ_ne_zero, reduceIte, bne_self_eq_false, beq_self_eq_true]
theorem eqDeadS_of (xs : List DDead) (hx : ∀ x ∈ xs, Ctr Tryz.prog 70 [.agg x.c, .agg x.c] [.val (.c (.v (.bool true)))]) : Ctr Tryz.prog 42 [.c (.sl (xs.map DDead.c)), .c (.sl (xs.map DDead.c))] [.val (.c (.v (.bool true)))] := by
  refine Ctr.mk (fn := Tryz.f42) Tryz.call42 Tryz.func42 rfl mixed Tryz.ntmps42 Tryz.results42 (by kernel_rfl) rfl fun hw => ?_
  have hlen : xs.length ≤ 9223372036854775807 := by have := hw.1.1; simpa [Go.maxLen] using this
  simp only [go_sem, Nat.reduceAdd, Nat.reduceSub, Nat.reduceMul, Nat.reduceLT, Nat.reduceLeDiff, Nat.reduceEqDiff, Nat.succ_ne_zero, reduceIte, List.length_map, bne_self_eq_false, beq_self_eq_true]
  refine LoopK.mk 0 [0, 1, 5] (A := Nat) (fun k => ⟨27, [(0, .c (.sl (xs.map DDead.c))), (1, .c (.sl (xs.map DDead.c))), (5, .c (.v (.int .i64 k)))], []⟩) (fun k => k ≤ xs.length) (fun k => xs.length - k) 0 ⟨⟨rfl, rfl⟩, rfl, Nat.zero_le _⟩ ?_
  intro k hk
  simp only [go_sem, Nat.reduceAdd, Nat.reduceSub, Nat.reduceMul, Nat.reduceLT, Nat.reduceLeDiff, Nat.reduceEqDiff, Nat.succ_ne_zero, reduceIte, List.length_map]
  refine cndC.mk (fun h => ?_) (fun h => ?_)
  · have hk' : k < xs.length := by simpa using h
    simp only [go_sem, Nat.reduceAdd, Nat.reduceSub, Nat.reduceMul, Nat.reduceLT, Nat.reduceLeDiff, Nat.reduceEqDiff, Nat.succ_ne_zero, reduceIte]
    refine DrawK.mk ?_
    simp only [go_sem, Nat.reduceAdd, Nat.reduceSub, Nat.reduceMul, Nat.reduceLT, Nat.reduceLeDiff, Nat.reduceEqDiff, Nat.succ_ne_zero, reduceIte, List.length_map, bne_self_eq_false, beq_self_eq_true, map_at _ hk', hk', wrap_i64 (n := (k : Int) + 1) (by omega) (by omega)]
    refine CallF.mk _ (by simpa only [go_sem] using hx xs[k] (List.getElem_mem hk')) ?_
    simp only [go_sem, Nat.reduceAdd, Nat.reduceSub, Nat.reduceMul, Nat.reduceLT, Nat.reduceLeDiff, Nat.reduceEqDiff, Nat.succ_ne_zero, reduceIte, map_at _ hk', wrap_i64 (n := (k : Int) + 1) (by omega) (by omega)]
    exact ⟨k + 1, ⟨rfl, rfl⟩, rfl, by omega, by first | omega | (simp only; omega)⟩
  · simp only [go_sem, Nat.reduceAdd, Nat.reduceSub, Nat.reduceMul, Nat.reduceLT, Nat.reduceLeDiff, Nat.reduceEqDiff, Nat.succ_ne_zero, reduceIte]
theorem eqDeadS_spec (xs : List DDead) : Ctr Tryz.prog 42 [.c (.sl (xs.map DDead.c)), .c (.sl (xs.map DDead.c))] [.val (.c (.v (.bool true)))] := eqDeadS_of xs fun x _ => eqDead_spec x
theorem eqRef_spec (d : DRef) : Ctr Tryz.prog 90 [.agg d.c, .agg d.c] [.val (.c (.v (.bool true)))] := by
  refine Ctr.mk (fn := Tryz.f90) Tryz.call90 Tryz.func90 rfl mixed Tryz.ntmps90 Tryz.results90 (by kernel_rfl) rfl fun _ => ?_
  simp only [go_sem, Nat.reduceAdd, Nat.reduceSub, Nat.reduceMul, Nat.reduceLT, Nat.reduceLeDiff, Nat.reduceEqDiff, Nat.succ_ne_zero, reduceIte, bne_self_eq_false, beq_self_eq_true]
theorem eqRefS_of (xs : List DRef) (hx : ∀ x ∈ xs, Ctr Tryz.prog 90 [.agg x.c, .agg x.c] [.val (.c (.v (.bool true)))]) : Ctr Tryz.prog 68 [.c (.sl (xs.map DRef.c)), .c (.sl (xs.map DRef.c))] [.val (.c (.v (.bool true)))] := by
  refine Ctr.mk (fn := Tryz.f68) Tryz.call68 Tryz.func68 rfl mixed Tryz.ntmps68 Tryz.results68 (by kernel_rfl) rfl fun hw => ?_
  have hlen : xs.length ≤ 9223372036854775807 := by have := hw.1.1; simpa [Go.maxLen] using this
  simp only [go_sem, Nat.reduceAdd, Nat.reduceSub, Nat.reduceMul, Nat.reduceLT, Nat.reduceLeDiff, Nat.reduceEqDiff, Nat.succ_ne_zero, reduceIte, List.length_map, bne_self_eq_false, beq_self_eq_true]
  refine LoopK.mk 0 [0, 1, 5] (A := Nat) (fun k => ⟨27, [(0, .c (.sl (xs.map DRef.c))), (1, .c (.sl (xs.map DRef.c))), (5, .c (.v (.int .i64 k)))], []⟩) (fun k => k ≤ xs.length) (fun k => xs.length - k) 0 ⟨⟨rfl, rfl⟩, rfl, Nat.zero_le _⟩ ?_
  intro k hk
  simp only [go_sem, Nat.reduceAdd, Nat.reduceSub, Nat.reduceMul, Nat.reduceLT, Nat.reduceLeDiff, Nat.reduceEqDiff, Nat.succ_ne_zero, reduceIte, List.length_map]
  refine cndC.mk (fun h => ?_) (fun h => ?_)
  · have hk' : k < xs.length := by simpa using h
    simp only [go_sem, Nat.reduceAdd, Nat.reduceSub, Nat.reduceMul, Nat.reduceLT, Nat.reduceLeDiff, Nat.reduceEqDiff, Nat.succ_ne_zero, reduceIte]
    refine DrawK.mk ?_
    simp only [go_sem, Nat.reduceAdd, Nat.reduceSub, Nat.reduceMul, Nat.reduceLT, Nat.reduceLeDiff, Nat.reduceEqDiff, Nat.succ_ne_zero, reduceIte, List.length_map, bne_self_eq_false, beq_self_eq_true, map_at _ hk', hk', wrap_i64 (n := (k : Int) + 1) (by omega) (by omega)]
    refine CallF.mk _ (by simpa only [go_sem] using hx xs[k] (List.getElem_mem hk')) ?_
    simp only [go_sem, Nat.reduceAdd, Nat.reduceSub, Nat.reduceMul, Nat.reduceLT, Nat.reduceLeDiff, Nat.reduceEqDiff, Nat.succ_ne_zero, reduceIte, map_at _ hk', wrap_i64 (n := (k : Int) + 1) (by omega) (by omega)]
    exact ⟨k + 1, ⟨rfl, rfl⟩, rfl, by omega, by first | omega | (simp only; omega)⟩
  · simp only [go_sem, Nat.reduceAdd, Nat.reduceSub, Nat.reduceMul, Nat.reduceLT, Nat.reduceLeDiff, Nat.reduceEqDiff, Nat.succ_ne_zero, reduceIte]
theorem eqRefS_spec (xs : List DRef) : Ctr Tryz.prog 68 [.c (.sl (xs.map DRef.c)), .c (.sl (xs.map DRef.c))] [.val (.c (.v (.bool true)))] := eqRefS_of xs fun x _ => eqRef_spec x
theorem eqDir_spec (d : DDir) : Ctr Tryz.prog 39 [.agg d.c, .agg d.c] [.val (.c (.v (.bool true)))] := by
  refine Ctr.mk (fn := Tryz.f39) Tryz.call39 Tryz.func39 rfl mixed Tryz.ntmps39 Tryz.results39 (by kernel_rfl) rfl fun _ => ?_
  simp only [go_sem, Nat.reduceAdd, Nat.reduceSub, Nat.reduceMul, Nat.reduceLT, Nat.reduceLeDiff, Nat.reduceEqDiff, Nat.succ_ne_zero, reduceIte, bne_self_eq_false, beq_self_eq_true]
  refine CallK.mk _ (by simpa only [go_sem] using eqRefS_spec d.l) fun _ => ?_
  simp only [go_sem, Nat.reduceAdd, Nat.reduceSub, Nat.reduceMul, Nat.reduceLT, Nat.reduceLeDiff, Nat.reduceEqDiff, Nat.succ_ne_zero, reduceIte, bne_self_eq_false, beq_self_eq_true]
theorem eqTask_spec (d : DTask) : Ctr Tryz.prog 71 [.agg d.c, .agg d.c] [.val (.c (.v (.bool true)))] := by
  refine Ctr.mk (fn := Tryz.f71) Tryz.call71 Tryz.func71 rfl mixed Tryz.ntmps71 Tryz.results71 (by kernel_rfl) rfl fun _ => ?_
  simp only [go_sem, Nat.reduceAdd, Nat.reduceSub, Nat.reduceMul, Nat.reduceLT, Nat.reduceLeDiff, Nat.reduceEqDiff, Nat.succ_ne_zero, reduceIte, bne_self_eq_false, beq_self_eq_true]
  refine CallK.mk _ (by simpa only [go_sem] using eqValS_spec d.r) fun _ => ?_
  simp only [go_sem, Nat.reduceAdd, Nat.reduceSub, Nat.reduceMul, Nat.reduceLT, Nat.reduceLeDiff, Nat.reduceEqDiff, Nat.succ_ne_zero, reduceIte, bne_self_eq_false, beq_self_eq_true]
  refine CallK.mk _ (by simpa only [go_sem] using eqQuery_spec d.q) fun _ => ?_
  simp only [go_sem, Nat.reduceAdd, Nat.reduceSub, Nat.reduceMul, Nat.reduceLT, Nat.reduceLeDiff, Nat.reduceEqDiff, Nat.succ_ne_zero, reduceIte, bne_self_eq_false, beq_self_eq_true]
  refine CallK.mk _ (by simpa only [go_sem] using eqRefS_spec d.l) fun _ => ?_
  simp only [go_sem, Nat.reduceAdd, Nat.reduceSub, Nat.reduceMul, Nat.reduceLT, Nat.reduceLeDiff, Nat.reduceEqDiff, Nat.succ_ne_zero, reduceIte, bne_self_eq_false, beq_self_eq_true]
  refine CallK.mk _ (by simpa only [go_sem] using eqRowS_spec d.got) fun _ => ?_
  simp only [go_sem, Nat.reduceAdd, Nat.reduceSub, Nat.reduceMul, Nat.reduceLT, Nat.reduceLeDiff, Nat.reduceEqDiff, Nat.succ_ne_zero, reduceIte, bne_self_eq_false, beq_self_eq_true]
theorem eqTaskS_of (xs : List DTask) (hx : ∀ x ∈ xs, Ctr Tryz.prog 71 [.agg x.c, .agg x.c] [.val (.c (.v (.bool true)))]) : Ctr Tryz.prog 43 [.c (.sl (xs.map DTask.c)), .c (.sl (xs.map DTask.c))] [.val (.c (.v (.bool true)))] := by
  refine Ctr.mk (fn := Tryz.f43) Tryz.call43 Tryz.func43 rfl mixed Tryz.ntmps43 Tryz.results43 (by kernel_rfl) rfl fun hw => ?_
  have hlen : xs.length ≤ 9223372036854775807 := by have := hw.1.1; simpa [Go.maxLen] using this
  simp only [go_sem, Nat.reduceAdd, Nat.reduceSub, Nat.reduceMul, Nat.reduceLT, Nat.reduceLeDiff, Nat.reduceEqDiff, Nat.succ_ne_zero, reduceIte, List.length_map, bne_self_eq_false, beq_self_eq_true]
  refine LoopK.mk 0 [0, 1, 5] (A := Nat) (fun k => ⟨27, [(0, .c (.sl (xs.map DTask.c))), (1, .c (.sl (xs.map DTask.c))), (5, .c (.v (.int .i64 k)))], []⟩) (fun k => k ≤ xs.length) (fun k => xs.length - k) 0 ⟨⟨rfl, rfl⟩, rfl, Nat.zero_le _⟩ ?_
  intro k hk
  simp only [go_sem, Nat.reduceAdd, Nat.reduceSub, Nat.reduceMul, Nat.reduceLT, Nat.reduceLeDiff, Nat.reduceEqDiff, Nat.succ_ne_zero, reduceIte, List.length_map]
  refine cndC.mk (fun h => ?_) (fun h => ?_)
  · have hk' : k < xs.length := by simpa using h
    simp only [go_sem, Nat.reduceAdd, Nat.reduceSub, Nat.reduceMul, Nat.reduceLT, Nat.reduceLeDiff, Nat.reduceEqDiff, Nat.succ_ne_zero, reduceIte]
    refine DrawK.mk ?_
    simp only [go_sem, Nat.reduceAdd, Nat.reduceSub, Nat.reduceMul, Nat.reduceLT, Nat.reduceLeDiff, Nat.reduceEqDiff, Nat.succ_ne_zero, reduceIte, List.length_map, bne_self_eq_false, beq_self_eq_true, map_at _ hk', hk', wrap_i64 (n := (k : Int) + 1) (by omega) (by omega)]
    refine CallF.mk _ (by simpa only [go_sem] using hx xs[k] (List.getElem_mem hk')) ?_
    simp only [go_sem, Nat.reduceAdd, Nat.reduceSub, Nat.reduceMul, Nat.reduceLT, Nat.reduceLeDiff, Nat.reduceEqDiff, Nat.succ_ne_zero, reduceIte, map_at _ hk', wrap_i64 (n := (k : Int) + 1) (by omega) (by omega)]
    exact ⟨k + 1, ⟨rfl, rfl⟩, rfl, by omega, by first | omega | (simp only; omega)⟩
  · simp only [go_sem, Nat.reduceAdd, Nat.reduceSub, Nat.reduceMul, Nat.reduceLT, Nat.reduceLeDiff, Nat.reduceEqDiff, Nat.succ_ne_zero, reduceIte]
theorem eqTaskS_spec (xs : List DTask) : Ctr Tryz.prog 43 [.c (.sl (xs.map DTask.c)), .c (.sl (xs.map DTask.c))] [.val (.c (.v (.bool true)))] := eqTaskS_of xs fun x _ => eqTask_spec x
theorem eqDeed_spec (d : DDeed) : Ctr Tryz.prog 72 [.agg d.c, .agg d.c] [.val (.c (.v (.bool true)))] := by
  refine Ctr.mk (fn := Tryz.f72) Tryz.call72 Tryz.func72 rfl mixed Tryz.ntmps72 Tryz.results72 (by kernel_rfl) rfl fun _ => ?_
  simp only [go_sem, Nat.reduceAdd, Nat.reduceSub, Nat.reduceMul, Nat.reduceLT, Nat.reduceLeDiff, Nat.reduceEqDiff, Nat.succ_ne_zero, reduceIte, bne_self_eq_false, beq_self_eq_true]
  refine CallK.mk _ (by simpa only [go_sem] using eqValS_spec d.r) fun _ => ?_
  simp only [go_sem, Nat.reduceAdd, Nat.reduceSub, Nat.reduceMul, Nat.reduceLT, Nat.reduceLeDiff, Nat.reduceEqDiff, Nat.succ_ne_zero, reduceIte, bne_self_eq_false, beq_self_eq_true]
  refine CallK.mk _ (by simpa only [go_sem] using eqQuery_spec d.q) fun _ => ?_
  simp only [go_sem, Nat.reduceAdd, Nat.reduceSub, Nat.reduceMul, Nat.reduceLT, Nat.reduceLeDiff, Nat.reduceEqDiff, Nat.succ_ne_zero, reduceIte, bne_self_eq_false, beq_self_eq_true]
  refine CallK.mk _ (by simpa only [go_sem] using eqResult_spec d.res) fun _ => ?_
  simp only [go_sem, Nat.reduceAdd, Nat.reduceSub, Nat.reduceMul, Nat.reduceLT, Nat.reduceLeDiff, Nat.reduceEqDiff, Nat.succ_ne_zero, reduceIte, bne_self_eq_false, beq_self_eq_true]
theorem eqDeedS_of (xs : List DDeed) (hx : ∀ x ∈ xs, Ctr Tryz.prog 72 [.agg x.c, .agg x.c] [.val (.c (.v (.bool true)))]) : Ctr Tryz.prog 44 [.c (.sl (xs.map DDeed.c)), .c (.sl (xs.map DDeed.c))] [.val (.c (.v (.bool true)))] := by
  refine Ctr.mk (fn := Tryz.f44) Tryz.call44 Tryz.func44 rfl mixed Tryz.ntmps44 Tryz.results44 (by kernel_rfl) rfl fun hw => ?_
  have hlen : xs.length ≤ 9223372036854775807 := by have := hw.1.1; simpa [Go.maxLen] using this
  simp only [go_sem, Nat.reduceAdd, Nat.reduceSub, Nat.reduceMul, Nat.reduceLT, Nat.reduceLeDiff, Nat.reduceEqDiff, Nat.succ_ne_zero, reduceIte, List.length_map, bne_self_eq_false, beq_self_eq_true]
  refine LoopK.mk 0 [0, 1, 5] (A := Nat) (fun k => ⟨27, [(0, .c (.sl (xs.map DDeed.c))), (1, .c (.sl (xs.map DDeed.c))), (5, .c (.v (.int .i64 k)))], []⟩) (fun k => k ≤ xs.length) (fun k => xs.length - k) 0 ⟨⟨rfl, rfl⟩, rfl, Nat.zero_le _⟩ ?_
  intro k hk
  simp only [go_sem, Nat.reduceAdd, Nat.reduceSub, Nat.reduceMul, Nat.reduceLT, Nat.reduceLeDiff, Nat.reduceEqDiff, Nat.succ_ne_zero, reduceIte, List.length_map]
  refine cndC.mk (fun h => ?_) (fun h => ?_)
  · have hk' : k < xs.length := by simpa using h
    simp only [go_sem, Nat.reduceAdd, Nat.reduceSub, Nat.reduceMul, Nat.reduceLT, Nat.reduceLeDiff, Nat.reduceEqDiff, Nat.succ_ne_zero, reduceIte]
    refine DrawK.mk ?_
    simp only [go_sem, Nat.reduceAdd, Nat.reduceSub, Nat.reduceMul, Nat.reduceLT, Nat.reduceLeDiff, Nat.reduceEqDiff, Nat.succ_ne_zero, reduceIte, List.length_map, bne_self_eq_false, beq_self_eq_true, map_at _ hk', hk', wrap_i64 (n := (k : Int) + 1) (by omega) (by omega)]
    refine CallF.mk _ (by simpa only [go_sem] using hx xs[k] (List.getElem_mem hk')) ?_
    simp only [go_sem, Nat.reduceAdd, Nat.reduceSub, Nat.reduceMul, Nat.reduceLT, Nat.reduceLeDiff, Nat.reduceEqDiff, Nat.succ_ne_zero, reduceIte, map_at _ hk', wrap_i64 (n := (k : Int) + 1) (by omega) (by omega)]
    exact ⟨k + 1, ⟨rfl, rfl⟩, rfl, by omega, by first | omega | (simp only; omega)⟩
  · simp only [go_sem, Nat.reduceAdd, Nat.reduceSub, Nat.reduceMul, Nat.reduceLT, Nat.reduceLeDiff, Nat.reduceEqDiff, Nat.succ_ne_zero, reduceIte]
theorem eqDeedS_spec (xs : List DDeed) : Ctr Tryz.prog 44 [.c (.sl (xs.map DDeed.c)), .c (.sl (xs.map DDeed.c))] [.val (.c (.v (.bool true)))] := eqDeedS_of xs fun x _ => eqDeed_spec x
theorem eqConf_spec (d : DConf) : Ctr Tryz.prog 38 [.agg d.c, .agg d.c] [.val (.c (.v (.bool true)))] := by
  refine Ctr.mk (fn := Tryz.f38) Tryz.call38 Tryz.func38 rfl mixed Tryz.ntmps38 Tryz.results38 (by kernel_rfl) rfl fun _ => ?_
  simp only [go_sem, Nat.reduceAdd, Nat.reduceSub, Nat.reduceMul, Nat.reduceLT, Nat.reduceLeDiff, Nat.reduceEqDiff, Nat.succ_ne_zero, reduceIte, bne_self_eq_false, beq_self_eq_true]
  refine CallK.mk _ (by simpa only [go_sem] using eqIntS_spec d.cols) fun _ => ?_
  simp only [go_sem, Nat.reduceAdd, Nat.reduceSub, Nat.reduceMul, Nat.reduceLT, Nat.reduceLeDiff, Nat.reduceEqDiff, Nat.succ_ne_zero, reduceIte, bne_self_eq_false, beq_self_eq_true]
theorem eqWorld_spec (d : DWorld) : Ctr Tryz.prog 11 [.agg d.c, .agg d.c] [.val (.c (.v (.bool true)))] := by
  refine Ctr.mk (fn := Tryz.f11) Tryz.call11 Tryz.func11 rfl mixed Tryz.ntmps11 Tryz.results11 (by kernel_rfl) rfl fun _ => ?_
  simp only [go_sem, Nat.reduceAdd, Nat.reduceSub, Nat.reduceMul, Nat.reduceLT, Nat.reduceLeDiff, Nat.reduceEqDiff, Nat.succ_ne_zero, reduceIte, bne_self_eq_false, beq_self_eq_true]
  refine CallK.mk _ (by simpa only [go_sem] using eqConf_spec d.c0) fun _ => ?_
  simp only [go_sem, Nat.reduceAdd, Nat.reduceSub, Nat.reduceMul, Nat.reduceLT, Nat.reduceLeDiff, Nat.reduceEqDiff, Nat.succ_ne_zero, reduceIte, bne_self_eq_false, beq_self_eq_true]
  refine CallK.mk _ (by simpa only [go_sem] using eqDir_spec d.d) fun _ => ?_
  simp only [go_sem, Nat.reduceAdd, Nat.reduceSub, Nat.reduceMul, Nat.reduceLT, Nat.reduceLeDiff, Nat.reduceEqDiff, Nat.succ_ne_zero, reduceIte, bne_self_eq_false, beq_self_eq_true]
  refine CallK.mk _ (by simpa only [go_sem] using eqBufS_spec d.b) fun _ => ?_
  simp only [go_sem, Nat.reduceAdd, Nat.reduceSub, Nat.reduceMul, Nat.reduceLT, Nat.reduceLeDiff, Nat.reduceEqDiff, Nat.succ_ne_zero, reduceIte, bne_self_eq_false, beq_self_eq_true]
  refine CallK.mk _ (by simpa only [go_sem] using eqIntS_spec d.m) fun _ => ?_
  simp only [go_sem, Nat.reduceAdd, Nat.reduceSub, Nat.reduceMul, Nat.reduceLT, Nat.reduceLeDiff, Nat.reduceEqDiff, Nat.succ_ne_zero, reduceIte, bne_self_eq_false, beq_self_eq_true]
  refine CallK.mk _ (by simpa only [go_sem] using eqDeadS_spec d.x) fun _ => ?_
  simp only [go_sem, Nat.reduceAdd, Nat.reduceSub, Nat.reduceMul, Nat.reduceLT, Nat.reduceLeDiff, Nat.reduceEqDiff, Nat.succ_ne_zero, reduceIte, bne_self_eq_false, beq_self_eq_true]
  refine CallK.mk _ (by simpa only [go_sem] using eqIntS_spec d.p) fun _ => ?_
  simp only [go_sem, Nat.reduceAdd, Nat.reduceSub, Nat.reduceMul, Nat.reduceLT, Nat.reduceLeDiff, Nat.reduceEqDiff, Nat.succ_ne_zero, reduceIte, bne_self_eq_false, beq_self_eq_true]
  refine CallK.mk _ (by simpa only [go_sem] using eqTaskS_spec d.tasks) fun _ => ?_
  simp only [go_sem, Nat.reduceAdd, Nat.reduceSub, Nat.reduceMul, Nat.reduceLT, Nat.reduceLeDiff, Nat.reduceEqDiff, Nat.succ_ne_zero, reduceIte, bne_self_eq_false, beq_self_eq_true]
  refine CallK.mk _ (by simpa only [go_sem] using eqDeedS_spec d.deeds) fun _ => ?_
  simp only [go_sem, Nat.reduceAdd, Nat.reduceSub, Nat.reduceMul, Nat.reduceLT, Nat.reduceLeDiff, Nat.reduceEqDiff, Nat.succ_ne_zero, reduceIte, bne_self_eq_false, beq_self_eq_true]

end Go.Proofs.YtekkkcelnaomoaaGreat
