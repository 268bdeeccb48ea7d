/- Contracts of the sz/to/eq functions: by program (gen_data.py). -/
import Derived.Test.YtekkkcelnaomoaaDa
import Derived.Test.YtekkkcelnaomoaaTy
namespace Go.Proofs.Ytekkkcelnaomoaa
set_option linter.unusedSimpArgs false
set_option linter.unusedVariables false
open Go.Vm

set_option maxHeartbeats 1000000
set_option maxRecDepth 10000

theorem szIntS_spec (xs : List Int) (l : Int) (hl : 0 ≤ l) : Ctr Try.prog 16 [.c (.sl (xs.map intC)), .c (.v (.int .i64 l))] [.val (.c (.v (.int .i64 (szI xs.length l))))] := by
  refine Ctr.mk (fn := Try.f16) Try.call16 Try.func16 rfl mixed Try.ntmps16 Try.results16 (by kernel_rfl) rfl fun hw => ?_
  have hlen : xs.length ≤ 9223372036854775807 := by have := hw.1.1; simpa [Go.maxLen] using this
  have hl2 : l ≤ 9223372036854775807 := i64_le hw.2.1
  simp only [go_sem, Nat.reduceAdd, Nat.reduceSub, Nat.reduceMul, Nat.reduceLT, Nat.reduceLeDiff, Nat.reduceEqDiff, Nat.succ_ne_zero, reduceIte, List.length_map, wrap_i64 (n := l - xs.length) (by omega) (by omega)]
  refine cndC.mk (fun h => ?_) (fun h => ?_)
  · have h' : l - xs.length < 0 := by simpa using h
    simp only [go_sem, Nat.reduceAdd, Nat.reduceSub, Nat.reduceMul, Nat.reduceLT, Nat.reduceLeDiff, Nat.reduceEqDiff, Nat.succ_ne_zero, reduceIte]
    simp [szI, h']
  · have h' : ¬ l - xs.length < 0 := by simpa using h
    simp only [go_sem, Nat.reduceAdd, Nat.reduceSub, Nat.reduceMul, Nat.reduceLT, Nat.reduceLeDiff, Nat.reduceEqDiff, Nat.succ_ne_zero, reduceIte]
    simp [szI, h']
theorem szByteS_spec (xs : List Int) (l : Int) (hl : 0 ≤ l) : Ctr Try.prog 61 [.c (.sl (xs.map byteC)), .c (.v (.int .i64 l))] [.val (.c (.v (.int .i64 (szI xs.length l))))] := by
  refine Ctr.mk (fn := Try.f61) Try.call61 Try.func61 rfl mixed Try.ntmps61 Try.results61 (by kernel_rfl) rfl fun hw => ?_
  have hlen : xs.length ≤ 9223372036854775807 := by have := hw.1.1; simpa [Go.maxLen] using this
  have hl2 : l ≤ 9223372036854775807 := i64_le hw.2.1
  simp only [go_sem, Nat.reduceAdd, Nat.reduceSub, Nat.reduceMul, Nat.reduceLT, Nat.reduceLeDiff, Nat.reduceEqDiff, Nat.succ_ne_zero, reduceIte, List.length_map, wrap_i64 (n := l - xs.length) (by omega) (by omega)]
  refine cndC.mk (fun h => ?_) (fun h => ?_)
  · have h' : l - xs.length < 0 := by simpa using h
    simp only [go_sem, Nat.reduceAdd, Nat.reduceSub, Nat.reduceMul, Nat.reduceLT, Nat.reduceLeDiff, Nat.reduceEqDiff, Nat.succ_ne_zero, reduceIte]
    simp [szI, h']
  · have h' : ¬ l - xs.length < 0 := by simpa using h
    simp only [go_sem, Nat.reduceAdd, Nat.reduceSub, Nat.reduceMul, Nat.reduceLT, Nat.reduceLeDiff, Nat.reduceEqDiff, Nat.succ_ne_zero, reduceIte]
    simp [szI, h']
theorem szVal_spec (d : DVal) (l : Int) (hl : 0 ≤ l) : Ctr Try.prog 81 [.agg d.c, .c (.v (.int .i64 l))] [.val (.c (.v (.int .i64 (szVal d l))))] := by
  refine Ctr.mk (fn := Try.f81) Try.call81 Try.func81 rfl mixed Try.ntmps81 Try.results81 (by kernel_rfl) rfl fun hw => ?_
  rw [szVal_eq]
  have hl2 : l ≤ 9223372036854775807 := i64_le hw.2.1
  have hs : d.s.size ≤ 9223372036854775807 := str_le hw.1.2.2.1
  simp only [go_sem, Nat.reduceAdd, Nat.reduceSub, Nat.reduceMul, Nat.reduceLT, Nat.reduceLeDiff, Nat.reduceEqDiff, Nat.succ_ne_zero, reduceIte, wrap_i64 (n := l - d.s.size) (by omega) (by omega)]
  refine cndC.mk (fun h => ?_) (fun h => ?_)
  · have h0 : l - d.s.size < 0 := by simpa using h
    simp only [go_sem, Nat.reduceAdd, Nat.reduceSub, Nat.reduceMul, Nat.reduceLT, Nat.reduceLeDiff, Nat.reduceEqDiff, Nat.succ_ne_zero, reduceIte]
    simp [szI, sq, h0]
  · have h0 : ¬ l - d.s.size < 0 := by simpa using h
    simp only [go_sem, Nat.reduceAdd, Nat.reduceSub, Nat.reduceMul, Nat.reduceLT, Nat.reduceLeDiff, Nat.reduceEqDiff, Nat.succ_ne_zero, reduceIte]
    simp [szI, sq, h0]
theorem szValS_of (xs : List DVal) (hx : ∀ x ∈ xs, ∀ l, 0 ≤ l → Ctr Try.prog 81 [.agg x.c, .c (.v (.int .i64 l))] [.val (.c (.v (.int .i64 (szVal x l))))]) (l : Int) (hl : 0 ≤ l) : Ctr Try.prog 62 [.c (.sl (xs.map DVal.c)), .c (.v (.int .i64 l))] [.val (.c (.v (.int .i64 (szS szVal xs l))))] := by
  refine Ctr.mk (fn := Try.f62) Try.call62 Try.func62 rfl mixed Try.ntmps62 Try.results62 (by kernel_rfl) rfl fun hw => ?_
  have hlen : xs.length ≤ 9223372036854775807 := by have := hw.1.1; simpa [Go.maxLen] using this
  have hl2 : l ≤ 9223372036854775807 := i64_le hw.2.1
  simp only [go_sem, Nat.reduceAdd, Nat.reduceSub, Nat.reduceMul, Nat.reduceLT, Nat.reduceLeDiff, Nat.reduceEqDiff, Nat.succ_ne_zero, reduceIte, List.length_map, wrap_i64 (n := l - xs.length) (by omega) (by omega)]
  refine cndC.mk (fun h => ?_) (fun h => ?_)
  · have h' : l - xs.length < 0 := by simpa using h
    simp only [go_sem, Nat.reduceAdd, Nat.reduceSub, Nat.reduceMul, Nat.reduceLT, Nat.reduceLeDiff, Nat.reduceEqDiff, Nat.succ_ne_zero, reduceIte]
    simp [szS, sq, szI, h']
  · have h' : ¬ l - xs.length < 0 := by simpa using h
    simp only [go_sem, Nat.reduceAdd, Nat.reduceSub, Nat.reduceMul, Nat.reduceLT, Nat.reduceLeDiff, Nat.reduceEqDiff, Nat.succ_ne_zero, reduceIte]
    refine LoopK.mk 0 [0, 1, 5] (A := Nat × Int) (fun x => ⟨27, [(0, .c (.sl (xs.map DVal.c))), (1, .c (.v (.int .i64 x.2))), (5, .c (.v (.int .i64 x.1)))], []⟩) (fun x => x.1 ≤ xs.length ∧ 0 ≤ x.2 ∧ szL szVal (xs.drop x.1) x.2 = szS szVal xs l) (fun x => xs.length - x.1)
      (0, l - xs.length) ⟨⟨rfl, rfl⟩, rfl, Nat.zero_le _, by simp only; omega, by simp [szS, sq, szI, h']⟩ ?_
    rintro ⟨k, m⟩ ⟨hk, hm0, hm⟩
    simp only at hk hm hm0
    simp only [go_sem, Nat.reduceAdd, Nat.reduceSub, Nat.reduceMul, Nat.reduceLT, Nat.reduceLeDiff, Nat.reduceEqDiff, Nat.succ_ne_zero, reduceIte, List.length_map]
    refine cndC.mk (fun h => ?_) (fun h => ?_)
    · have hk' : k < xs.length := by simpa using h
      simp only [go_sem, Nat.reduceAdd, Nat.reduceSub, Nat.reduceMul, Nat.reduceLT, Nat.reduceLeDiff, Nat.reduceEqDiff, Nat.succ_ne_zero, reduceIte, map_at _ hk']
      refine CallK.mk _ (by simpa only [go_sem] using hx xs[k] (List.getElem_mem hk') m hm0) fun _ => ?_
      simp only [go_sem, Nat.reduceAdd, Nat.reduceSub, Nat.reduceMul, Nat.reduceLT, Nat.reduceLeDiff, Nat.reduceEqDiff, Nat.succ_ne_zero, reduceIte]
      rw [List.drop_eq_getElem_cons hk'] at hm
      simp only [szL] at hm
      refine cndC.mk (fun h => ?_) (fun h => ?_)
      · have h' : szVal xs[k] m < 0 := by simpa using h
        simp only [go_sem, Nat.reduceAdd, Nat.reduceSub, Nat.reduceMul, Nat.reduceLT, Nat.reduceLeDiff, Nat.reduceEqDiff, Nat.succ_ne_zero, reduceIte]
        rw [sq_neg h'] at hm
        rw [hm]
      · have h' : ¬ szVal xs[k] m < 0 := by simpa using h
        rw [sq_pos h'] at hm
        simp only [go_sem, Nat.reduceAdd, Nat.reduceSub, Nat.reduceMul, Nat.reduceLT, Nat.reduceLeDiff, Nat.reduceEqDiff, Nat.succ_ne_zero, reduceIte, wrap_i64 (n := (k : Int) + 1) (by omega) (by omega)]
        exact ⟨(k + 1, szVal xs[k] m), ⟨rfl, rfl⟩, rfl, ⟨by simp only; omega, (by omega : (0 : Int) ≤ szVal xs[k] m), hm⟩, by simp only; omega⟩
    · have hk' : k = xs.length := by simp at h; omega
      subst hk'
      simp only [go_sem, Nat.reduceAdd, Nat.reduceSub, Nat.reduceMul, Nat.reduceLT, Nat.reduceLeDiff, Nat.reduceEqDiff, Nat.succ_ne_zero, reduceIte]
      simp [szL] at hm
      rw [hm]
theorem szValS_spec (xs : List DVal) (l : Int) (hl : 0 ≤ l) : Ctr Try.prog 62 [.c (.sl (xs.map DVal.c)), .c (.v (.int .i64 l))] [.val (.c (.v (.int .i64 (szS szVal xs l))))] := szValS_of xs (fun x _ l hl => szVal_spec x l hl) l hl
theorem szRow_spec (d : DRow) (l : Int) (hl : 0 ≤ l) : Ctr Try.prog 83 [.agg d.c, .c (.v (.int .i64 l))] [.val (.c (.v (.int .i64 (szRow d l))))] := by
  refine Ctr.mk (fn := Try.f83) Try.call83 Try.func83 rfl mixed Try.ntmps83 Try.results83 (by kernel_rfl) rfl fun hw => ?_
  rw [szRow_eq]
  simp only [go_sem, Nat.reduceAdd, Nat.reduceSub, Nat.reduceMul, Nat.reduceLT, Nat.reduceLeDiff, Nat.reduceEqDiff, Nat.succ_ne_zero, reduceIte]
  refine CallK.mk _ (by simpa only [go_sem] using szValS_spec d.l _ (by omega)) fun _ => ?_
  simp only [go_sem, Nat.reduceAdd, Nat.reduceSub, Nat.reduceMul, Nat.reduceLT, Nat.reduceLeDiff, Nat.reduceEqDiff, Nat.succ_ne_zero, reduceIte]
  refine cndC.mk (fun h => ?_) (fun h => ?_)
  · have h0 : szS szVal d.l (l) < 0 := by simpa using h
    simp only [go_sem, Nat.reduceAdd, Nat.reduceSub, Nat.reduceMul, Nat.reduceLT, Nat.reduceLeDiff, Nat.reduceEqDiff, Nat.succ_ne_zero, reduceIte]
    simp [sq, h0]
  · have h0 : ¬ szS szVal d.l (l) < 0 := by simpa using h
    simp only [go_sem, Nat.reduceAdd, Nat.reduceSub, Nat.reduceMul, Nat.reduceLT, Nat.reduceLeDiff, Nat.reduceEqDiff, Nat.succ_ne_zero, reduceIte]
    simp [sq, h0]
theorem szRowS_of (xs : List DRow) (hx : ∀ x ∈ xs, ∀ l, 0 ≤ l → Ctr Try.prog 83 [.agg x.c, .c (.v (.int .i64 l))] [.val (.c (.v (.int .i64 (szRow x l))))]) (l : Int) (hl : 0 ≤ l) : Ctr Try.prog 64 [.c (.sl (xs.map DRow.c)), .c (.v (.int .i64 l))] [.val (.c (.v (.int .i64 (szS szRow xs l))))] := by
  refine Ctr.mk (fn := Try.f64) Try.call64 Try.func64 rfl mixed Try.ntmps64 Try.results64 (by kernel_rfl) rfl fun hw => ?_
  have hlen : xs.length ≤ 9223372036854775807 := by have := hw.1.1; simpa [Go.maxLen] using this
  have hl2 : l ≤ 9223372036854775807 := i64_le hw.2.1
  simp only [go_sem, Nat.reduceAdd, Nat.reduceSub, Nat.reduceMul, Nat.reduceLT, Nat.reduceLeDiff, Nat.reduceEqDiff, Nat.succ_ne_zero, reduceIte, List.length_map, wrap_i64 (n := l - xs.length) (by omega) (by omega)]
  refine cndC.mk (fun h => ?_) (fun h => ?_)
  · have h' : l - xs.length < 0 := by simpa using h
    simp only [go_sem, Nat.reduceAdd, Nat.reduceSub, Nat.reduceMul, Nat.reduceLT, Nat.reduceLeDiff, Nat.reduceEqDiff, Nat.succ_ne_zero, reduceIte]
    simp [szS, sq, szI, h']
  · have h' : ¬ l - xs.length < 0 := by simpa using h
    simp only [go_sem, Nat.reduceAdd, Nat.reduceSub, Nat.reduceMul, Nat.reduceLT, Nat.reduceLeDiff, Nat.reduceEqDiff, Nat.succ_ne_zero, reduceIte]
    refine LoopK.mk 0 [0, 1, 5] (A := Nat × Int) (fun x => ⟨27, [(0, .c (.sl (xs.map DRow.c))), (1, .c (.v (.int .i64 x.2))), (5, .c (.v (.int .i64 x.1)))], []⟩) (fun x => x.1 ≤ xs.length ∧ 0 ≤ x.2 ∧ szL szRow (xs.drop x.1) x.2 = szS szRow xs l) (fun x => xs.length - x.1)
      (0, l - xs.length) ⟨⟨rfl, rfl⟩, rfl, Nat.zero_le _, by simp only; omega, by simp [szS, sq, szI, h']⟩ ?_
    rintro ⟨k, m⟩ ⟨hk, hm0, hm⟩
    simp only at hk hm hm0
    simp only [go_sem, Nat.reduceAdd, Nat.reduceSub, Nat.reduceMul, Nat.reduceLT, Nat.reduceLeDiff, Nat.reduceEqDiff, Nat.succ_ne_zero, reduceIte, List.length_map]
    refine cndC.mk (fun h => ?_) (fun h => ?_)
    · have hk' : k < xs.length := by simpa using h
      simp only [go_sem, Nat.reduceAdd, Nat.reduceSub, Nat.reduceMul, Nat.reduceLT, Nat.reduceLeDiff, Nat.reduceEqDiff, Nat.succ_ne_zero, reduceIte, map_at _ hk']
      refine CallK.mk _ (by simpa only [go_sem] using hx xs[k] (List.getElem_mem hk') m hm0) fun _ => ?_
      simp only [go_sem, Nat.reduceAdd, Nat.reduceSub, Nat.reduceMul, Nat.reduceLT, Nat.reduceLeDiff, Nat.reduceEqDiff, Nat.succ_ne_zero, reduceIte]
      rw [List.drop_eq_getElem_cons hk'] at hm
      simp only [szL] at hm
      refine cndC.mk (fun h => ?_) (fun h => ?_)
      · have h' : szRow xs[k] m < 0 := by simpa using h
        simp only [go_sem, Nat.reduceAdd, Nat.reduceSub, Nat.reduceMul, Nat.reduceLT, Nat.reduceLeDiff, Nat.reduceEqDiff, Nat.succ_ne_zero, reduceIte]
        rw [sq_neg h'] at hm
        rw [hm]
      · have h' : ¬ szRow xs[k] m < 0 := by simpa using h
        rw [sq_pos h'] at hm
        simp only [go_sem, Nat.reduceAdd, Nat.reduceSub, Nat.reduceMul, Nat.reduceLT, Nat.reduceLeDiff, Nat.reduceEqDiff, Nat.succ_ne_zero, reduceIte, wrap_i64 (n := (k : Int) + 1) (by omega) (by omega)]
        exact ⟨(k + 1, szRow xs[k] m), ⟨rfl, rfl⟩, rfl, ⟨by simp only; omega, (by omega : (0 : Int) ≤ szRow xs[k] m), hm⟩, by simp only; omega⟩
    · have hk' : k = xs.length := by simp at h; omega
      subst hk'
      simp only [go_sem, Nat.reduceAdd, Nat.reduceSub, Nat.reduceMul, Nat.reduceLT, Nat.reduceLeDiff, Nat.reduceEqDiff, Nat.succ_ne_zero, reduceIte]
      simp [szL] at hm
      rw [hm]
theorem szRowS_spec (xs : List DRow) (l : Int) (hl : 0 ≤ l) : Ctr Try.prog 64 [.c (.sl (xs.map DRow.c)), .c (.v (.int .i64 l))] [.val (.c (.v (.int .i64 (szS szRow xs l))))] := szRowS_of xs (fun x _ l hl => szRow_spec x l hl) l hl
theorem szPredS_of (xs : List DPred) (hx : ∀ x ∈ xs, ∀ l, 0 ≤ l → Ctr Try.prog 82 [.agg x.c, .c (.v (.int .i64 l))] [.val (.c (.v (.int .i64 (szPred x l))))]) (l : Int) (hl : 0 ≤ l) : Ctr Try.prog 93 [.c (.sl (xs.map DPred.c)), .c (.v (.int .i64 l))] [.val (.c (.v (.int .i64 (szS szPred xs l))))] := by
  refine Ctr.mk (fn := Try.f93) Try.call93 Try.func93 rfl mixed Try.ntmps93 Try.results93 (by kernel_rfl) rfl fun hw => ?_
  have hlen : xs.length ≤ 9223372036854775807 := by have := hw.1.1; simpa [Go.maxLen] using this
  have hl2 : l ≤ 9223372036854775807 := i64_le hw.2.1
  simp only [go_sem, Nat.reduceAdd, Nat.reduceSub, Nat.reduceMul, Nat.reduceLT, Nat.reduceLeDiff, Nat.reduceEqDiff, Nat.succ_ne_zero, reduceIte, List.length_map, wrap_i64 (n := l - xs.length) (by omega) (by omega)]
  refine cndC.mk (fun h => ?_) (fun h => ?_)
  · have h' : l - xs.length < 0 := by simpa using h
    simp only [go_sem, Nat.reduceAdd, Nat.reduceSub, Nat.reduceMul, Nat.reduceLT, Nat.reduceLeDiff, Nat.reduceEqDiff, Nat.succ_ne_zero, reduceIte]
    simp [szS, sq, szI, h']
  · have h' : ¬ l - xs.length < 0 := by simpa using h
    simp only [go_sem, Nat.reduceAdd, Nat.reduceSub, Nat.reduceMul, Nat.reduceLT, Nat.reduceLeDiff, Nat.reduceEqDiff, Nat.succ_ne_zero, reduceIte]
    refine LoopK.mk 0 [0, 1, 5] (A := Nat × Int) (fun x => ⟨27, [(0, .c (.sl (xs.map DPred.c))), (1, .c (.v (.int .i64 x.2))), (5, .c (.v (.int .i64 x.1)))], []⟩) (fun x => x.1 ≤ xs.length ∧ 0 ≤ x.2 ∧ szL szPred (xs.drop x.1) x.2 = szS szPred xs l) (fun x => xs.length - x.1)
      (0, l - xs.length) ⟨⟨rfl, rfl⟩, rfl, Nat.zero_le _, by simp only; omega, by simp [szS, sq, szI, h']⟩ ?_
    rintro ⟨k, m⟩ ⟨hk, hm0, hm⟩
    simp only at hk hm hm0
    simp only [go_sem, Nat.reduceAdd, Nat.reduceSub, Nat.reduceMul, Nat.reduceLT, Nat.reduceLeDiff, Nat.reduceEqDiff, Nat.succ_ne_zero, reduceIte, List.length_map]
    refine cndC.mk (fun h => ?_) (fun h => ?_)
    · have hk' : k < xs.length := by simpa using h
      simp only [go_sem, Nat.reduceAdd, Nat.reduceSub, Nat.reduceMul, Nat.reduceLT, Nat.reduceLeDiff, Nat.reduceEqDiff, Nat.succ_ne_zero, reduceIte, map_at _ hk']
      refine CallK.mk _ (by simpa only [go_sem] using hx xs[k] (List.getElem_mem hk') m hm0) fun _ => ?_
      simp only [go_sem, Nat.reduceAdd, Nat.reduceSub, Nat.reduceMul, Nat.reduceLT, Nat.reduceLeDiff, Nat.reduceEqDiff, Nat.succ_ne_zero, reduceIte]
      rw [List.drop_eq_getElem_cons hk'] at hm
      simp only [szL] at hm
      refine cndC.mk (fun h => ?_) (fun h => ?_)
      · have h' : szPred xs[k] m < 0 := by simpa using h
        simp only [go_sem, Nat.reduceAdd, Nat.reduceSub, Nat.reduceMul, Nat.reduceLT, Nat.reduceLeDiff, Nat.reduceEqDiff, Nat.succ_ne_zero, reduceIte]
        rw [sq_neg h'] at hm
        rw [hm]
      · have h' : ¬ szPred xs[k] m < 0 := by simpa using h
        rw [sq_pos h'] at hm
        simp only [go_sem, Nat.reduceAdd, Nat.reduceSub, Nat.reduceMul, Nat.reduceLT, Nat.reduceLeDiff, Nat.reduceEqDiff, Nat.succ_ne_zero, reduceIte, wrap_i64 (n := (k : Int) + 1) (by omega) (by omega)]
        exact ⟨(k + 1, szPred xs[k] m), ⟨rfl, rfl⟩, rfl, ⟨by simp only; omega, (by omega : (0 : Int) ≤ szPred xs[k] m), hm⟩, by simp only; omega⟩
    · have hk' : k = xs.length := by simp at h; omega
      subst hk'
      simp only [go_sem, Nat.reduceAdd, Nat.reduceSub, Nat.reduceMul, Nat.reduceLT, Nat.reduceLeDiff, Nat.reduceEqDiff, Nat.succ_ne_zero, reduceIte]
      simp [szL] at hm
      rw [hm]
theorem szPred_of (d : DPred) (hx : ∀ x ∈ d.l, ∀ l, 0 ≤ l → Ctr Try.prog 82 [.agg x.c, .c (.v (.int .i64 l))] [.val (.c (.v (.int .i64 (szPred x l))))]) (l : Int) (hl : 0 ≤ l) : Ctr Try.prog 82 [.agg d.c, .c (.v (.int .i64 l))] [.val (.c (.v (.int .i64 (szPred d l))))] := by
  refine Ctr.mk (fn := Try.f82) Try.call82 Try.func82 rfl mixed Try.ntmps82 Try.results82 (by kernel_rfl) rfl fun hw => ?_
  rw [szPred_eq]
  simp only [go_sem, Nat.reduceAdd, Nat.reduceSub, Nat.reduceMul, Nat.reduceLT, Nat.reduceLeDiff, Nat.reduceEqDiff, Nat.succ_ne_zero, reduceIte]
  refine CallK.mk _ (by simpa only [go_sem] using szVal_spec d.v _ (by omega)) fun _ => ?_
  simp only [go_sem, Nat.reduceAdd, Nat.reduceSub, Nat.reduceMul, Nat.reduceLT, Nat.reduceLeDiff, Nat.reduceEqDiff, Nat.succ_ne_zero, reduceIte]
  refine cndC.mk (fun h => ?_) (fun h => ?_)
  · have h0 : szVal d.v (l) < 0 := by simpa using h
    simp only [go_sem, Nat.reduceAdd, Nat.reduceSub, Nat.reduceMul, Nat.reduceLT, Nat.reduceLeDiff, Nat.reduceEqDiff, Nat.succ_ne_zero, reduceIte]
    simp [sq, h0]
  · have h0 : ¬ szVal d.v (l) < 0 := by simpa using h
    simp only [go_sem, Nat.reduceAdd, Nat.reduceSub, Nat.reduceMul, Nat.reduceLT, Nat.reduceLeDiff, Nat.reduceEqDiff, Nat.succ_ne_zero, reduceIte]
    refine CallK.mk _ (by simpa only [go_sem] using szPredS_of d.l hx _ (by omega)) fun _ => ?_
    simp only [go_sem, Nat.reduceAdd, Nat.reduceSub, Nat.reduceMul, Nat.reduceLT, Nat.reduceLeDiff, Nat.reduceEqDiff, Nat.succ_ne_zero, reduceIte]
    refine cndC.mk (fun h => ?_) (fun h => ?_)
    · have h1 : szS szPred d.l (szVal d.v (l)) < 0 := by simpa using h
      simp only [go_sem, Nat.reduceAdd, Nat.reduceSub, Nat.reduceMul, Nat.reduceLT, Nat.reduceLeDiff, Nat.reduceEqDiff, Nat.succ_ne_zero, reduceIte]
      simp [sq, h0, h1]
    · have h1 : ¬ szS szPred d.l (szVal d.v (l)) < 0 := by simpa using h
      simp only [go_sem, Nat.reduceAdd, Nat.reduceSub, Nat.reduceMul, Nat.reduceLT, Nat.reduceLeDiff, Nat.reduceEqDiff, Nat.succ_ne_zero, reduceIte]
      simp [sq, h0, h1]
theorem szPred_fuel : ∀ (n : Nat) (d : DPred), SizeOf.sizeOf d ≤ n → ∀ l, 0 ≤ l → Ctr Try.prog 82 [.agg d.c, .c (.v (.int .i64 l))] [.val (.c (.v (.int .i64 (szPred d l))))]
  | 0, d, h => by cases d; simp at h
  | n + 1, d, h => szPred_of d fun x hx => szPred_fuel n x (by
    have h1 : SizeOf.sizeOf x < SizeOf.sizeOf d.l := List.sizeOf_lt_of_mem hx
    have h2 : SizeOf.sizeOf d.l < SizeOf.sizeOf d := by cases d; simp [DPred.l]; omega
    omega)
theorem szPred_spec (d : DPred) (l : Int) (hl : 0 ≤ l) : Ctr Try.prog 82 [.agg d.c, .c (.v (.int .i64 l))] [.val (.c (.v (.int .i64 (szPred d l))))] := szPred_fuel _ d (Nat.le_refl _) l hl
theorem szPredS_spec (xs : List DPred) (l : Int) (hl : 0 ≤ l) : Ctr Try.prog 93 [.c (.sl (xs.map DPred.c)), .c (.v (.int .i64 l))] [.val (.c (.v (.int .i64 (szS szPred xs l))))] := szPredS_of xs (fun x _ l hl => szPred_spec x l hl) l hl
theorem szQuery_spec (d : DQuery) (l : Int) (hl : 0 ≤ l) : Ctr Try.prog 63 [.agg d.c, .c (.v (.int .i64 l))] [.val (.c (.v (.int .i64 (szQuery d l))))] := by
  refine Ctr.mk (fn := Try.f63) Try.call63 Try.func63 rfl mixed Try.ntmps63 Try.results63 (by kernel_rfl) rfl fun hw => ?_
  rw [szQuery_eq]
  simp only [go_sem, Nat.reduceAdd, Nat.reduceSub, Nat.reduceMul, Nat.reduceLT, Nat.reduceLeDiff, Nat.reduceEqDiff, Nat.succ_ne_zero, reduceIte]
  refine CallK.mk _ (by simpa only [go_sem] using szPred_spec d.p _ (by omega)) fun _ => ?_
  simp only [go_sem, Nat.reduceAdd, Nat.reduceSub, Nat.reduceMul, Nat.reduceLT, Nat.reduceLeDiff, Nat.reduceEqDiff, Nat.succ_ne_zero, reduceIte]
  refine cndC.mk (fun h => ?_) (fun h => ?_)
  · have h0 : szPred d.p (l) < 0 := by simpa using h
    simp only [go_sem, Nat.reduceAdd, Nat.reduceSub, Nat.reduceMul, Nat.reduceLT, Nat.reduceLeDiff, Nat.reduceEqDiff, Nat.succ_ne_zero, reduceIte]
    simp [sq, h0]
  · have h0 : ¬ szPred d.p (l) < 0 := by simpa using h
    simp only [go_sem, Nat.reduceAdd, Nat.reduceSub, Nat.reduceMul, Nat.reduceLT, Nat.reduceLeDiff, Nat.reduceEqDiff, Nat.succ_ne_zero, reduceIte]
    refine CallK.mk _ (by simpa only [go_sem] using szIntS_spec d.out _ (by omega)) fun _ => ?_
    simp only [go_sem, Nat.reduceAdd, Nat.reduceSub, Nat.reduceMul, Nat.reduceLT, Nat.reduceLeDiff, Nat.reduceEqDiff, Nat.succ_ne_zero, reduceIte]
    refine cndC.mk (fun h => ?_) (fun h => ?_)
    · have h1 : szI d.out.length (szPred d.p (l)) < 0 := by simpa using h
      simp only [go_sem, Nat.reduceAdd, Nat.reduceSub, Nat.reduceMul, Nat.reduceLT, Nat.reduceLeDiff, Nat.reduceEqDiff, Nat.succ_ne_zero, reduceIte]
      simp [sq, h0, h1]
    · have h1 : ¬ szI d.out.length (szPred d.p (l)) < 0 := by simpa using h
      simp only [go_sem, Nat.reduceAdd, Nat.reduceSub, Nat.reduceMul, Nat.reduceLT, Nat.reduceLeDiff, Nat.reduceEqDiff, Nat.succ_ne_zero, reduceIte]
      simp [sq, h0, h1]
theorem szResult_spec (d : DResult) (l : Int) (hl : 0 ≤ l) : Ctr Try.prog 65 [.agg d.c, .c (.v (.int .i64 l))] [.val (.c (.v (.int .i64 (szResult d l))))] := by
  refine Ctr.mk (fn := Try.f65) Try.call65 Try.func65 rfl mixed Try.ntmps65 Try.results65 (by kernel_rfl) rfl fun hw => ?_
  rw [szResult_eq]
  simp only [go_sem, Nat.reduceAdd, Nat.reduceSub, Nat.reduceMul, Nat.reduceLT, Nat.reduceLeDiff, Nat.reduceEqDiff, Nat.succ_ne_zero, reduceIte]
  refine CallK.mk _ (by simpa only [go_sem] using szRowS_spec d.rows _ (by omega)) fun _ => ?_
  simp only [go_sem, Nat.reduceAdd, Nat.reduceSub, Nat.reduceMul, Nat.reduceLT, Nat.reduceLeDiff, Nat.reduceEqDiff, Nat.succ_ne_zero, reduceIte]
  refine cndC.mk (fun h => ?_) (fun h => ?_)
  · have h0 : szS szRow d.rows (l) < 0 := by simpa using h
    simp only [go_sem, Nat.reduceAdd, Nat.reduceSub, Nat.reduceMul, Nat.reduceLT, Nat.reduceLeDiff, Nat.reduceEqDiff, Nat.succ_ne_zero, reduceIte]
    simp [sq, h0]
  · have h0 : ¬ szS szRow d.rows (l) < 0 := by simpa using h
    simp only [go_sem, Nat.reduceAdd, Nat.reduceSub, Nat.reduceMul, Nat.reduceLT, Nat.reduceLeDiff, Nat.reduceEqDiff, Nat.succ_ne_zero, reduceIte]
    refine CallK.mk _ (by simpa only [go_sem] using szVal_spec d.v _ (by omega)) fun _ => ?_
    simp only [go_sem, Nat.reduceAdd, Nat.reduceSub, Nat.reduceMul, Nat.reduceLT, Nat.reduceLeDiff, Nat.reduceEqDiff, Nat.succ_ne_zero, reduceIte]
    refine cndC.mk (fun h => ?_) (fun h => ?_)
    · have h1 : szVal d.v (szS szRow d.rows (l)) < 0 := by simpa using h
      simp only [go_sem, Nat.reduceAdd, Nat.reduceSub, Nat.reduceMul, Nat.reduceLT, Nat.reduceLeDiff, Nat.reduceEqDiff, Nat.succ_ne_zero, reduceIte]
      simp [sq, h0, h1]
    · have h1 : ¬ szVal d.v (szS szRow d.rows (l)) < 0 := by simpa using h
      simp only [go_sem, Nat.reduceAdd, Nat.reduceSub, Nat.reduceMul, Nat.reduceLT, Nat.reduceLeDiff, Nat.reduceEqDiff, Nat.succ_ne_zero, reduceIte]
      simp [sq, h0, h1]
theorem szSlot_spec (d : DSlot) (l : Int) (hl : 0 ≤ l) : Ctr Try.prog 92 [.agg d.c, .c (.v (.int .i64 l))] [.val (.c (.v (.int .i64 (szSlot d l))))] := by
  refine Ctr.mk (fn := Try.f92) Try.call92 Try.func92 rfl mixed Try.ntmps92 Try.results92 (by kernel_rfl) rfl fun hw => ?_
  rw [szSlot_eq]
  simp only [go_sem, Nat.reduceAdd, Nat.reduceSub, Nat.reduceMul, Nat.reduceLT, Nat.reduceLeDiff, Nat.reduceEqDiff, Nat.succ_ne_zero, reduceIte]
  refine CallK.mk _ (by simpa only [go_sem] using szValS_spec d.l _ (by omega)) fun _ => ?_
  simp only [go_sem, Nat.reduceAdd, Nat.reduceSub, Nat.reduceMul, Nat.reduceLT, Nat.reduceLeDiff, Nat.reduceEqDiff, Nat.succ_ne_zero, reduceIte]
  refine cndC.mk (fun h => ?_) (fun h => ?_)
  · have h0 : szS szVal d.l (l) < 0 := by simpa using h
    simp only [go_sem, Nat.reduceAdd, Nat.reduceSub, Nat.reduceMul, Nat.reduceLT, Nat.reduceLeDiff, Nat.reduceEqDiff, Nat.succ_ne_zero, reduceIte]
    simp [sq, h0]
  · have h0 : ¬ szS szVal d.l (l) < 0 := by simpa using h
    simp only [go_sem, Nat.reduceAdd, Nat.reduceSub, Nat.reduceMul, Nat.reduceLT, Nat.reduceLeDiff, Nat.reduceEqDiff, Nat.succ_ne_zero, reduceIte]
    simp [sq, h0]
theorem szSlotS_of (xs : List DSlot) (hx : ∀ x ∈ xs, ∀ l, 0 ≤ l → Ctr Try.prog 92 [.agg x.c, .c (.v (.int .i64 l))] [.val (.c (.v (.int .i64 (szSlot x l))))]) (l : Int) (hl : 0 ≤ l) : Ctr Try.prog 80 [.c (.sl (xs.map DSlot.c)), .c (.v (.int .i64 l))] [.val (.c (.v (.int .i64 (szS szSlot xs l))))] := by
  refine Ctr.mk (fn := Try.f80) Try.call80 Try.func80 rfl mixed Try.ntmps80 Try.results80 (by kernel_rfl) rfl fun hw => ?_
  have hlen : xs.length ≤ 9223372036854775807 := by have := hw.1.1; simpa [Go.maxLen] using this
  have hl2 : l ≤ 9223372036854775807 := i64_le hw.2.1
  simp only [go_sem, Nat.reduceAdd, Nat.reduceSub, Nat.reduceMul, Nat.reduceLT, Nat.reduceLeDiff, Nat.reduceEqDiff, Nat.succ_ne_zero, reduceIte, List.length_map, wrap_i64 (n := l - xs.length) (by omega) (by omega)]
  refine cndC.mk (fun h => ?_) (fun h => ?_)
  · have h' : l - xs.length < 0 := by simpa using h
    simp only [go_sem, Nat.reduceAdd, Nat.reduceSub, Nat.reduceMul, Nat.reduceLT, Nat.reduceLeDiff, Nat.reduceEqDiff, Nat.succ_ne_zero, reduceIte]
    simp [szS, sq, szI, h']
  · have h' : ¬ l - xs.length < 0 := by simpa using h
    simp only [go_sem, Nat.reduceAdd, Nat.reduceSub, Nat.reduceMul, Nat.reduceLT, Nat.reduceLeDiff, Nat.reduceEqDiff, Nat.succ_ne_zero, reduceIte]
    refine LoopK.mk 0 [0, 1, 5] (A := Nat × Int) (fun x => ⟨27, [(0, .c (.sl (xs.map DSlot.c))), (1, .c (.v (.int .i64 x.2))), (5, .c (.v (.int .i64 x.1)))], []⟩) (fun x => x.1 ≤ xs.length ∧ 0 ≤ x.2 ∧ szL szSlot (xs.drop x.1) x.2 = szS szSlot xs l) (fun x => xs.length - x.1)
      (0, l - xs.length) ⟨⟨rfl, rfl⟩, rfl, Nat.zero_le _, by simp only; omega, by simp [szS, sq, szI, h']⟩ ?_
    rintro ⟨k, m⟩ ⟨hk, hm0, hm⟩
    simp only at hk hm hm0
    simp only [go_sem, Nat.reduceAdd, Nat.reduceSub, Nat.reduceMul, Nat.reduceLT, Nat.reduceLeDiff, Nat.reduceEqDiff, Nat.succ_ne_zero, reduceIte, List.length_map]
    refine cndC.mk (fun h => ?_) (fun h => ?_)
    · have hk' : k < xs.length := by simpa using h
      simp only [go_sem, Nat.reduceAdd, Nat.reduceSub, Nat.reduceMul, Nat.reduceLT, Nat.reduceLeDiff, Nat.reduceEqDiff, Nat.succ_ne_zero, reduceIte, map_at _ hk']
      refine CallK.mk _ (by simpa only [go_sem] using hx xs[k] (List.getElem_mem hk') m hm0) fun _ => ?_
      simp only [go_sem, Nat.reduceAdd, Nat.reduceSub, Nat.reduceMul, Nat.reduceLT, Nat.reduceLeDiff, Nat.reduceEqDiff, Nat.succ_ne_zero, reduceIte]
      rw [List.drop_eq_getElem_cons hk'] at hm
      simp only [szL] at hm
      refine cndC.mk (fun h => ?_) (fun h => ?_)
      · have h' : szSlot xs[k] m < 0 := by simpa using h
        simp only [go_sem, Nat.reduceAdd, Nat.reduceSub, Nat.reduceMul, Nat.reduceLT, Nat.reduceLeDiff, Nat.reduceEqDiff, Nat.succ_ne_zero, reduceIte]
        rw [sq_neg h'] at hm
        rw [hm]
      · have h' : ¬ szSlot xs[k] m < 0 := by simpa using h
        rw [sq_pos h'] at hm
        simp only [go_sem, Nat.reduceAdd, Nat.reduceSub, Nat.reduceMul, Nat.reduceLT, Nat.reduceLeDiff, Nat.reduceEqDiff, Nat.succ_ne_zero, reduceIte, wrap_i64 (n := (k : Int) + 1) (by omega) (by omega)]
        exact ⟨(k + 1, szSlot xs[k] m), ⟨rfl, rfl⟩, rfl, ⟨by simp only; omega, (by omega : (0 : Int) ≤ szSlot xs[k] m), hm⟩, by simp only; omega⟩
    · have hk' : k = xs.length := by simp at h; omega
      subst hk'
      simp only [go_sem, Nat.reduceAdd, Nat.reduceSub, Nat.reduceMul, Nat.reduceLT, Nat.reduceLeDiff, Nat.reduceEqDiff, Nat.succ_ne_zero, reduceIte]
      simp [szL] at hm
      rw [hm]
theorem szSlotS_spec (xs : List DSlot) (l : Int) (hl : 0 ≤ l) : Ctr Try.prog 80 [.c (.sl (xs.map DSlot.c)), .c (.v (.int .i64 l))] [.val (.c (.v (.int .i64 (szS szSlot xs l))))] := szSlotS_of xs (fun x _ l hl => szSlot_spec x l hl) l hl
theorem szChunk_spec (d : DChunk) (l : Int) (hl : 0 ≤ l) : Ctr Try.prog 60 [.agg d.c, .c (.v (.int .i64 l))] [.val (.c (.v (.int .i64 (szChunk d l))))] := by
  refine Ctr.mk (fn := Try.f60) Try.call60 Try.func60 rfl mixed Try.ntmps60 Try.results60 (by kernel_rfl) rfl fun hw => ?_
  rw [szChunk_eq]
  simp only [go_sem, Nat.reduceAdd, Nat.reduceSub, Nat.reduceMul, Nat.reduceLT, Nat.reduceLeDiff, Nat.reduceEqDiff, Nat.succ_ne_zero, reduceIte]
  refine CallK.mk _ (by simpa only [go_sem] using szSlotS_spec d.l _ (by omega)) fun _ => ?_
  simp only [go_sem, Nat.reduceAdd, Nat.reduceSub, Nat.reduceMul, Nat.reduceLT, Nat.reduceLeDiff, Nat.reduceEqDiff, Nat.succ_ne_zero, reduceIte]
  refine cndC.mk (fun h => ?_) (fun h => ?_)
  · have h0 : szS szSlot d.l (l) < 0 := by simpa using h
    simp only [go_sem, Nat.reduceAdd, Nat.reduceSub, Nat.reduceMul, Nat.reduceLT, Nat.reduceLeDiff, Nat.reduceEqDiff, Nat.succ_ne_zero, reduceIte]
    simp [sq, h0]
  · have h0 : ¬ szS szSlot d.l (l) < 0 := by simpa using h
    simp only [go_sem, Nat.reduceAdd, Nat.reduceSub, Nat.reduceMul, Nat.reduceLT, Nat.reduceLeDiff, Nat.reduceEqDiff, Nat.succ_ne_zero, reduceIte]
    simp [sq, h0]
theorem szBuf_spec (d : DBuf) (l : Int) (hl : 0 ≤ l) : Ctr Try.prog 40 [.agg d.c, .c (.v (.int .i64 l))] [.val (.c (.v (.int .i64 (szBuf d l))))] := by
  refine Ctr.mk (fn := Try.f40) Try.call40 Try.func40 rfl mixed Try.ntmps40 Try.results40 (by kernel_rfl) rfl fun hw => ?_
  rw [szBuf_eq]
  simp only [go_sem, Nat.reduceAdd, Nat.reduceSub, Nat.reduceMul, Nat.reduceLT, Nat.reduceLeDiff, Nat.reduceEqDiff, Nat.succ_ne_zero, reduceIte]
  refine CallK.mk _ (by simpa only [go_sem] using szChunk_spec d.c0 _ (by omega)) fun _ => ?_
  simp only [go_sem, Nat.reduceAdd, Nat.reduceSub, Nat.reduceMul, Nat.reduceLT, Nat.reduceLeDiff, Nat.reduceEqDiff, Nat.succ_ne_zero, reduceIte]
  refine cndC.mk (fun h => ?_) (fun h => ?_)
  · have h0 : szChunk d.c0 (l) < 0 := by simpa using h
    simp only [go_sem, Nat.reduceAdd, Nat.reduceSub, Nat.reduceMul, Nat.reduceLT, Nat.reduceLeDiff, Nat.reduceEqDiff, Nat.succ_ne_zero, reduceIte]
    simp [sq, h0]
  · have h0 : ¬ szChunk d.c0 (l) < 0 := by simpa using h
    simp only [go_sem, Nat.reduceAdd, Nat.reduceSub, Nat.reduceMul, Nat.reduceLT, Nat.reduceLeDiff, Nat.reduceEqDiff, Nat.succ_ne_zero, reduceIte]
    refine CallK.mk _ (by simpa only [go_sem] using szByteS_spec d.g _ (by omega)) fun _ => ?_
    simp only [go_sem, Nat.reduceAdd, Nat.reduceSub, Nat.reduceMul, Nat.reduceLT, Nat.reduceLeDiff, Nat.reduceEqDiff, Nat.succ_ne_zero, reduceIte]
    refine cndC.mk (fun h => ?_) (fun h => ?_)
    · have h1 : szI d.g.length (szChunk d.c0 (l)) < 0 := by simpa using h
      simp only [go_sem, Nat.reduceAdd, Nat.reduceSub, Nat.reduceMul, Nat.reduceLT, Nat.reduceLeDiff, Nat.reduceEqDiff, Nat.succ_ne_zero, reduceIte]
      simp [sq, h0, h1]
    · have h1 : ¬ szI d.g.length (szChunk d.c0 (l)) < 0 := by simpa using h
      simp only [go_sem, Nat.reduceAdd, Nat.reduceSub, Nat.reduceMul, Nat.reduceLT, Nat.reduceLeDiff, Nat.reduceEqDiff, Nat.succ_ne_zero, reduceIte]
      simp [sq, h0, h1]
theorem szBufS_of (xs : List DBuf) (hx : ∀ x ∈ xs, ∀ l, 0 ≤ l → Ctr Try.prog 40 [.agg x.c, .c (.v (.int .i64 l))] [.val (.c (.v (.int .i64 (szBuf x l))))]) (l : Int) (hl : 0 ≤ l) : Ctr Try.prog 15 [.c (.sl (xs.map DBuf.c)), .c (.v (.int .i64 l))] [.val (.c (.v (.int .i64 (szS szBuf xs l))))] := by
  refine Ctr.mk (fn := Try.f15) Try.call15 Try.func15 rfl mixed Try.ntmps15 Try.results15 (by kernel_rfl) rfl fun hw => ?_
  have hlen : xs.length ≤ 9223372036854775807 := by have := hw.1.1; simpa [Go.maxLen] using this
  have hl2 : l ≤ 9223372036854775807 := i64_le hw.2.1
  simp only [go_sem, Nat.reduceAdd, Nat.reduceSub, Nat.reduceMul, Nat.reduceLT, Nat.reduceLeDiff, Nat.reduceEqDiff, Nat.succ_ne_zero, reduceIte, List.length_map, wrap_i64 (n := l - xs.length) (by omega) (by omega)]
  refine cndC.mk (fun h => ?_) (fun h => ?_)
  · have h' : l - xs.length < 0 := by simpa using h
    simp only [go_sem, Nat.reduceAdd, Nat.reduceSub, Nat.reduceMul, Nat.reduceLT, Nat.reduceLeDiff, Nat.reduceEqDiff, Nat.succ_ne_zero, reduceIte]
    simp [szS, sq, szI, h']
  · have h' : ¬ l - xs.length < 0 := by simpa using h
    simp only [go_sem, Nat.reduceAdd, Nat.reduceSub, Nat.reduceMul, Nat.reduceLT, Nat.reduceLeDiff, Nat.reduceEqDiff, Nat.succ_ne_zero, reduceIte]
    refine LoopK.mk 0 [0, 1, 5] (A := Nat × Int) (fun x => ⟨27, [(0, .c (.sl (xs.map DBuf.c))), (1, .c (.v (.int .i64 x.2))), (5, .c (.v (.int .i64 x.1)))], []⟩) (fun x => x.1 ≤ xs.length ∧ 0 ≤ x.2 ∧ szL szBuf (xs.drop x.1) x.2 = szS szBuf xs l) (fun x => xs.length - x.1)
      (0, l - xs.length) ⟨⟨rfl, rfl⟩, rfl, Nat.zero_le _, by simp only; omega, by simp [szS, sq, szI, h']⟩ ?_
    rintro ⟨k, m⟩ ⟨hk, hm0, hm⟩
    simp only at hk hm hm0
    simp only [go_sem, Nat.reduceAdd, Nat.reduceSub, Nat.reduceMul, Nat.reduceLT, Nat.reduceLeDiff, Nat.reduceEqDiff, Nat.succ_ne_zero, reduceIte, List.length_map]
    refine cndC.mk (fun h => ?_) (fun h => ?_)
    · have hk' : k < xs.length := by simpa using h
      simp only [go_sem, Nat.reduceAdd, Nat.reduceSub, Nat.reduceMul, Nat.reduceLT, Nat.reduceLeDiff, Nat.reduceEqDiff, Nat.succ_ne_zero, reduceIte, map_at _ hk']
      refine CallK.mk _ (by simpa only [go_sem] using hx xs[k] (List.getElem_mem hk') m hm0) fun _ => ?_
      simp only [go_sem, Nat.reduceAdd, Nat.reduceSub, Nat.reduceMul, Nat.reduceLT, Nat.reduceLeDiff, Nat.reduceEqDiff, Nat.succ_ne_zero, reduceIte]
      rw [List.drop_eq_getElem_cons hk'] at hm
      simp only [szL] at hm
      refine cndC.mk (fun h => ?_) (fun h => ?_)
      · have h' : szBuf xs[k] m < 0 := by simpa using h
        simp only [go_sem, Nat.reduceAdd, Nat.reduceSub, Nat.reduceMul, Nat.reduceLT, Nat.reduceLeDiff, Nat.reduceEqDiff, Nat.succ_ne_zero, reduceIte]
        rw [sq_neg h'] at hm
        rw [hm]
      · have h' : ¬ szBuf xs[k] m < 0 := by simpa using h
        rw [sq_pos h'] at hm
        simp only [go_sem, Nat.reduceAdd, Nat.reduceSub, Nat.reduceMul, Nat.reduceLT, Nat.reduceLeDiff, Nat.reduceEqDiff, Nat.succ_ne_zero, reduceIte, wrap_i64 (n := (k : Int) + 1) (by omega) (by omega)]
        exact ⟨(k + 1, szBuf xs[k] m), ⟨rfl, rfl⟩, rfl, ⟨by simp only; omega, (by omega : (0 : Int) ≤ szBuf xs[k] m), hm⟩, by simp only; omega⟩
    · have hk' : k = xs.length := by simp at h; omega
      subst hk'
      simp only [go_sem, Nat.reduceAdd, Nat.reduceSub, Nat.reduceMul, Nat.reduceLT, Nat.reduceLeDiff, Nat.reduceEqDiff, Nat.succ_ne_zero, reduceIte]
      simp [szL] at hm
      rw [hm]
theorem szBufS_spec (xs : List DBuf) (l : Int) (hl : 0 ≤ l) : Ctr Try.prog 15 [.c (.sl (xs.map DBuf.c)), .c (.v (.int .i64 l))] [.val (.c (.v (.int .i64 (szS szBuf xs l))))] := szBufS_of xs (fun x _ l hl => szBuf_spec x l hl) l hl
theorem szDeadS_spec (xs : List DDead) (l : Int) (hl : 0 ≤ l) : Ctr Try.prog 17 [.c (.sl (xs.map DDead.c)), .c (.v (.int .i64 l))] [.val (.c (.v (.int .i64 (szI xs.length l))))] := by
  refine Ctr.mk (fn := Try.f17) Try.call17 Try.func17 rfl mixed Try.ntmps17 Try.results17 (by kernel_rfl) rfl fun hw => ?_
  have hlen : xs.length ≤ 9223372036854775807 := by have := hw.1.1; simpa [Go.maxLen] using this
  have hl2 : l ≤ 9223372036854775807 := i64_le hw.2.1
  simp only [go_sem, Nat.reduceAdd, Nat.reduceSub, Nat.reduceMul, Nat.reduceLT, Nat.reduceLeDiff, Nat.reduceEqDiff, Nat.succ_ne_zero, reduceIte, List.length_map, wrap_i64 (n := l - xs.length) (by omega) (by omega)]
  refine cndC.mk (fun h => ?_) (fun h => ?_)
  · have h' : l - xs.length < 0 := by simpa using h
    simp only [go_sem, Nat.reduceAdd, Nat.reduceSub, Nat.reduceMul, Nat.reduceLT, Nat.reduceLeDiff, Nat.reduceEqDiff, Nat.succ_ne_zero, reduceIte]
    simp [szI, h']
  · have h' : ¬ l - xs.length < 0 := by simpa using h
    simp only [go_sem, Nat.reduceAdd, Nat.reduceSub, Nat.reduceMul, Nat.reduceLT, Nat.reduceLeDiff, Nat.reduceEqDiff, Nat.succ_ne_zero, reduceIte]
    simp [szI, h']
theorem szRefS_spec (xs : List DRef) (l : Int) (hl : 0 ≤ l) : Ctr Try.prog 39 [.c (.sl (xs.map DRef.c)), .c (.v (.int .i64 l))] [.val (.c (.v (.int .i64 (szI xs.length l))))] := by
  refine Ctr.mk (fn := Try.f39) Try.call39 Try.func39 rfl mixed Try.ntmps39 Try.results39 (by kernel_rfl) rfl fun hw => ?_
  have hlen : xs.length ≤ 9223372036854775807 := by have := hw.1.1; simpa [Go.maxLen] using this
  have hl2 : l ≤ 9223372036854775807 := i64_le hw.2.1
  simp only [go_sem, Nat.reduceAdd, Nat.reduceSub, Nat.reduceMul, Nat.reduceLT, Nat.reduceLeDiff, Nat.reduceEqDiff, Nat.succ_ne_zero, reduceIte, List.length_map, wrap_i64 (n := l - xs.length) (by omega) (by omega)]
  refine cndC.mk (fun h => ?_) (fun h => ?_)
  · have h' : l - xs.length < 0 := by simpa using h
    simp only [go_sem, Nat.reduceAdd, Nat.reduceSub, Nat.reduceMul, Nat.reduceLT, Nat.reduceLeDiff, Nat.reduceEqDiff, Nat.succ_ne_zero, reduceIte]
    simp [szI, h']
  · have h' : ¬ l - xs.length < 0 := by simpa using h
    simp only [go_sem, Nat.reduceAdd, Nat.reduceSub, Nat.reduceMul, Nat.reduceLT, Nat.reduceLeDiff, Nat.reduceEqDiff, Nat.succ_ne_zero, reduceIte]
    simp [szI, h']
theorem szDir_spec (d : DDir) (l : Int) (hl : 0 ≤ l) : Ctr Try.prog 14 [.agg d.c, .c (.v (.int .i64 l))] [.val (.c (.v (.int .i64 (szDir d l))))] := by
  refine Ctr.mk (fn := Try.f14) Try.call14 Try.func14 rfl mixed Try.ntmps14 Try.results14 (by kernel_rfl) rfl fun hw => ?_
  rw [szDir_eq]
  simp only [go_sem, Nat.reduceAdd, Nat.reduceSub, Nat.reduceMul, Nat.reduceLT, Nat.reduceLeDiff, Nat.reduceEqDiff, Nat.succ_ne_zero, reduceIte]
  refine CallK.mk _ (by simpa only [go_sem] using szRefS_spec d.l _ (by omega)) fun _ => ?_
  simp only [go_sem, Nat.reduceAdd, Nat.reduceSub, Nat.reduceMul, Nat.reduceLT, Nat.reduceLeDiff, Nat.reduceEqDiff, Nat.succ_ne_zero, reduceIte]
  refine cndC.mk (fun h => ?_) (fun h => ?_)
  · have h0 : szI d.l.length (l) < 0 := by simpa using h
    simp only [go_sem, Nat.reduceAdd, Nat.reduceSub, Nat.reduceMul, Nat.reduceLT, Nat.reduceLeDiff, Nat.reduceEqDiff, Nat.succ_ne_zero, reduceIte]
    simp [sq, h0]
  · have h0 : ¬ szI d.l.length (l) < 0 := by simpa using h
    simp only [go_sem, Nat.reduceAdd, Nat.reduceSub, Nat.reduceMul, Nat.reduceLT, Nat.reduceLeDiff, Nat.reduceEqDiff, Nat.succ_ne_zero, reduceIte]
    simp [sq, h0]
theorem szTask_spec (d : DTask) (l : Int) (hl : 0 ≤ l) : Ctr Try.prog 41 [.agg d.c, .c (.v (.int .i64 l))] [.val (.c (.v (.int .i64 (szTask d l))))] := by
  refine Ctr.mk (fn := Try.f41) Try.call41 Try.func41 rfl mixed Try.ntmps41 Try.results41 (by kernel_rfl) rfl fun hw => ?_
  rw [szTask_eq]
  simp only [go_sem, Nat.reduceAdd, Nat.reduceSub, Nat.reduceMul, Nat.reduceLT, Nat.reduceLeDiff, Nat.reduceEqDiff, Nat.succ_ne_zero, reduceIte]
  refine CallK.mk _ (by simpa only [go_sem] using szValS_spec d.r _ (by omega)) fun _ => ?_
  simp only [go_sem, Nat.reduceAdd, Nat.reduceSub, Nat.reduceMul, Nat.reduceLT, Nat.reduceLeDiff, Nat.reduceEqDiff, Nat.succ_ne_zero, reduceIte]
  refine cndC.mk (fun h => ?_) (fun h => ?_)
  · have h0 : szS szVal d.r (l) < 0 := by simpa using h
    simp only [go_sem, Nat.reduceAdd, Nat.reduceSub, Nat.reduceMul, Nat.reduceLT, Nat.reduceLeDiff, Nat.reduceEqDiff, Nat.succ_ne_zero, reduceIte]
    simp [sq, h0]
  · have h0 : ¬ szS szVal d.r (l) < 0 := by simpa using h
    simp only [go_sem, Nat.reduceAdd, Nat.reduceSub, Nat.reduceMul, Nat.reduceLT, Nat.reduceLeDiff, Nat.reduceEqDiff, Nat.succ_ne_zero, reduceIte]
    refine CallK.mk _ (by simpa only [go_sem] using szQuery_spec d.q _ (by omega)) fun _ => ?_
    simp only [go_sem, Nat.reduceAdd, Nat.reduceSub, Nat.reduceMul, Nat.reduceLT, Nat.reduceLeDiff, Nat.reduceEqDiff, Nat.succ_ne_zero, reduceIte]
    refine cndC.mk (fun h => ?_) (fun h => ?_)
    · have h1 : szQuery d.q (szS szVal d.r (l)) < 0 := by simpa using h
      simp only [go_sem, Nat.reduceAdd, Nat.reduceSub, Nat.reduceMul, Nat.reduceLT, Nat.reduceLeDiff, Nat.reduceEqDiff, Nat.succ_ne_zero, reduceIte]
      simp [sq, h0, h1]
    · have h1 : ¬ szQuery d.q (szS szVal d.r (l)) < 0 := by simpa using h
      simp only [go_sem, Nat.reduceAdd, Nat.reduceSub, Nat.reduceMul, Nat.reduceLT, Nat.reduceLeDiff, Nat.reduceEqDiff, Nat.succ_ne_zero, reduceIte]
      refine CallK.mk _ (by simpa only [go_sem] using szRefS_spec d.l _ (by omega)) fun _ => ?_
      simp only [go_sem, Nat.reduceAdd, Nat.reduceSub, Nat.reduceMul, Nat.reduceLT, Nat.reduceLeDiff, Nat.reduceEqDiff, Nat.succ_ne_zero, reduceIte]
      refine cndC.mk (fun h => ?_) (fun h => ?_)
      · have h2 : szI d.l.length (szQuery d.q (szS szVal d.r (l))) < 0 := by simpa using h
        simp only [go_sem, Nat.reduceAdd, Nat.reduceSub, Nat.reduceMul, Nat.reduceLT, Nat.reduceLeDiff, Nat.reduceEqDiff, Nat.succ_ne_zero, reduceIte]
        simp [sq, h0, h1, h2]
      · have h2 : ¬ szI d.l.length (szQuery d.q (szS szVal d.r (l))) < 0 := by simpa using h
        simp only [go_sem, Nat.reduceAdd, Nat.reduceSub, Nat.reduceMul, Nat.reduceLT, Nat.reduceLeDiff, Nat.reduceEqDiff, Nat.succ_ne_zero, reduceIte]
        refine CallK.mk _ (by simpa only [go_sem] using szRowS_spec d.got _ (by omega)) fun _ => ?_
        simp only [go_sem, Nat.reduceAdd, Nat.reduceSub, Nat.reduceMul, Nat.reduceLT, Nat.reduceLeDiff, Nat.reduceEqDiff, Nat.succ_ne_zero, reduceIte]
        refine cndC.mk (fun h => ?_) (fun h => ?_)
        · have h3 : szS szRow d.got (szI d.l.length (szQuery d.q (szS szVal d.r (l)))) < 0 := by simpa using h
          simp only [go_sem, Nat.reduceAdd, Nat.reduceSub, Nat.reduceMul, Nat.reduceLT, Nat.reduceLeDiff, Nat.reduceEqDiff, Nat.succ_ne_zero, reduceIte]
          simp [sq, h0, h1, h2, h3]
        · have h3 : ¬ szS szRow d.got (szI d.l.length (szQuery d.q (szS szVal d.r (l)))) < 0 := by simpa using h
          simp only [go_sem, Nat.reduceAdd, Nat.reduceSub, Nat.reduceMul, Nat.reduceLT, Nat.reduceLeDiff, Nat.reduceEqDiff, Nat.succ_ne_zero, reduceIte]
          simp [sq, h0, h1, h2, h3]
theorem szTaskS_of (xs : List DTask) (hx : ∀ x ∈ xs, ∀ l, 0 ≤ l → Ctr Try.prog 41 [.agg x.c, .c (.v (.int .i64 l))] [.val (.c (.v (.int .i64 (szTask x l))))]) (l : Int) (hl : 0 ≤ l) : Ctr Try.prog 18 [.c (.sl (xs.map DTask.c)), .c (.v (.int .i64 l))] [.val (.c (.v (.int .i64 (szS szTask xs l))))] := by
  refine Ctr.mk (fn := Try.f18) Try.call18 Try.func18 rfl mixed Try.ntmps18 Try.results18 (by kernel_rfl) rfl fun hw => ?_
  have hlen : xs.length ≤ 9223372036854775807 := by have := hw.1.1; simpa [Go.maxLen] using this
  have hl2 : l ≤ 9223372036854775807 := i64_le hw.2.1
  simp only [go_sem, Nat.reduceAdd, Nat.reduceSub, Nat.reduceMul, Nat.reduceLT, Nat.reduceLeDiff, Nat.reduceEqDiff, Nat.succ_ne_zero, reduceIte, List.length_map, wrap_i64 (n := l - xs.length) (by omega) (by omega)]
  refine cndC.mk (fun h => ?_) (fun h => ?_)
  · have h' : l - xs.length < 0 := by simpa using h
    simp only [go_sem, Nat.reduceAdd, Nat.reduceSub, Nat.reduceMul, Nat.reduceLT, Nat.reduceLeDiff, Nat.reduceEqDiff, Nat.succ_ne_zero, reduceIte]
    simp [szS, sq, szI, h']
  · have h' : ¬ l - xs.length < 0 := by simpa using h
    simp only [go_sem, Nat.reduceAdd, Nat.reduceSub, Nat.reduceMul, Nat.reduceLT, Nat.reduceLeDiff, Nat.reduceEqDiff, Nat.succ_ne_zero, reduceIte]
    refine LoopK.mk 0 [0, 1, 5] (A := Nat × Int) (fun x => ⟨27, [(0, .c (.sl (xs.map DTask.c))), (1, .c (.v (.int .i64 x.2))), (5, .c (.v (.int .i64 x.1)))], []⟩) (fun x => x.1 ≤ xs.length ∧ 0 ≤ x.2 ∧ szL szTask (xs.drop x.1) x.2 = szS szTask xs l) (fun x => xs.length - x.1)
      (0, l - xs.length) ⟨⟨rfl, rfl⟩, rfl, Nat.zero_le _, by simp only; omega, by simp [szS, sq, szI, h']⟩ ?_
    rintro ⟨k, m⟩ ⟨hk, hm0, hm⟩
    simp only at hk hm hm0
    simp only [go_sem, Nat.reduceAdd, Nat.reduceSub, Nat.reduceMul, Nat.reduceLT, Nat.reduceLeDiff, Nat.reduceEqDiff, Nat.succ_ne_zero, reduceIte, List.length_map]
    refine cndC.mk (fun h => ?_) (fun h => ?_)
    · have hk' : k < xs.length := by simpa using h
      simp only [go_sem, Nat.reduceAdd, Nat.reduceSub, Nat.reduceMul, Nat.reduceLT, Nat.reduceLeDiff, Nat.reduceEqDiff, Nat.succ_ne_zero, reduceIte, map_at _ hk']
      refine CallK.mk _ (by simpa only [go_sem] using hx xs[k] (List.getElem_mem hk') m hm0) fun _ => ?_
      simp only [go_sem, Nat.reduceAdd, Nat.reduceSub, Nat.reduceMul, Nat.reduceLT, Nat.reduceLeDiff, Nat.reduceEqDiff, Nat.succ_ne_zero, reduceIte]
      rw [List.drop_eq_getElem_cons hk'] at hm
      simp only [szL] at hm
      refine cndC.mk (fun h => ?_) (fun h => ?_)
      · have h' : szTask xs[k] m < 0 := by simpa using h
        simp only [go_sem, Nat.reduceAdd, Nat.reduceSub, Nat.reduceMul, Nat.reduceLT, Nat.reduceLeDiff, Nat.reduceEqDiff, Nat.succ_ne_zero, reduceIte]
        rw [sq_neg h'] at hm
        rw [hm]
      · have h' : ¬ szTask xs[k] m < 0 := by simpa using h
        rw [sq_pos h'] at hm
        simp only [go_sem, Nat.reduceAdd, Nat.reduceSub, Nat.reduceMul, Nat.reduceLT, Nat.reduceLeDiff, Nat.reduceEqDiff, Nat.succ_ne_zero, reduceIte, wrap_i64 (n := (k : Int) + 1) (by omega) (by omega)]
        exact ⟨(k + 1, szTask xs[k] m), ⟨rfl, rfl⟩, rfl, ⟨by simp only; omega, (by omega : (0 : Int) ≤ szTask xs[k] m), hm⟩, by simp only; omega⟩
    · have hk' : k = xs.length := by simp at h; omega
      subst hk'
      simp only [go_sem, Nat.reduceAdd, Nat.reduceSub, Nat.reduceMul, Nat.reduceLT, Nat.reduceLeDiff, Nat.reduceEqDiff, Nat.succ_ne_zero, reduceIte]
      simp [szL] at hm
      rw [hm]
theorem szTaskS_spec (xs : List DTask) (l : Int) (hl : 0 ≤ l) : Ctr Try.prog 18 [.c (.sl (xs.map DTask.c)), .c (.v (.int .i64 l))] [.val (.c (.v (.int .i64 (szS szTask xs l))))] := szTaskS_of xs (fun x _ l hl => szTask_spec x l hl) l hl
theorem szDeed_spec (d : DDeed) (l : Int) (hl : 0 ≤ l) : Ctr Try.prog 42 [.agg d.c, .c (.v (.int .i64 l))] [.val (.c (.v (.int .i64 (szDeed d l))))] := by
  refine Ctr.mk (fn := Try.f42) Try.call42 Try.func42 rfl mixed Try.ntmps42 Try.results42 (by kernel_rfl) rfl fun hw => ?_
  rw [szDeed_eq]
  simp only [go_sem, Nat.reduceAdd, Nat.reduceSub, Nat.reduceMul, Nat.reduceLT, Nat.reduceLeDiff, Nat.reduceEqDiff, Nat.succ_ne_zero, reduceIte]
  refine CallK.mk _ (by simpa only [go_sem] using szValS_spec d.r _ (by omega)) fun _ => ?_
  simp only [go_sem, Nat.reduceAdd, Nat.reduceSub, Nat.reduceMul, Nat.reduceLT, Nat.reduceLeDiff, Nat.reduceEqDiff, Nat.succ_ne_zero, reduceIte]
  refine cndC.mk (fun h => ?_) (fun h => ?_)
  · have h0 : szS szVal d.r (l) < 0 := by simpa using h
    simp only [go_sem, Nat.reduceAdd, Nat.reduceSub, Nat.reduceMul, Nat.reduceLT, Nat.reduceLeDiff, Nat.reduceEqDiff, Nat.succ_ne_zero, reduceIte]
    simp [sq, h0]
  · have h0 : ¬ szS szVal d.r (l) < 0 := by simpa using h
    simp only [go_sem, Nat.reduceAdd, Nat.reduceSub, Nat.reduceMul, Nat.reduceLT, Nat.reduceLeDiff, Nat.reduceEqDiff, Nat.succ_ne_zero, reduceIte]
    refine CallK.mk _ (by simpa only [go_sem] using szQuery_spec d.q _ (by omega)) fun _ => ?_
    simp only [go_sem, Nat.reduceAdd, Nat.reduceSub, Nat.reduceMul, Nat.reduceLT, Nat.reduceLeDiff, Nat.reduceEqDiff, Nat.succ_ne_zero, reduceIte]
    refine cndC.mk (fun h => ?_) (fun h => ?_)
    · have h1 : szQuery d.q (szS szVal d.r (l)) < 0 := by simpa using h
      simp only [go_sem, Nat.reduceAdd, Nat.reduceSub, Nat.reduceMul, Nat.reduceLT, Nat.reduceLeDiff, Nat.reduceEqDiff, Nat.succ_ne_zero, reduceIte]
      simp [sq, h0, h1]
    · have h1 : ¬ szQuery d.q (szS szVal d.r (l)) < 0 := by simpa using h
      simp only [go_sem, Nat.reduceAdd, Nat.reduceSub, Nat.reduceMul, Nat.reduceLT, Nat.reduceLeDiff, Nat.reduceEqDiff, Nat.succ_ne_zero, reduceIte]
      refine CallK.mk _ (by simpa only [go_sem] using szResult_spec d.res _ (by omega)) fun _ => ?_
      simp only [go_sem, Nat.reduceAdd, Nat.reduceSub, Nat.reduceMul, Nat.reduceLT, Nat.reduceLeDiff, Nat.reduceEqDiff, Nat.succ_ne_zero, reduceIte]
      refine cndC.mk (fun h => ?_) (fun h => ?_)
      · have h2 : szResult d.res (szQuery d.q (szS szVal d.r (l))) < 0 := by simpa using h
        simp only [go_sem, Nat.reduceAdd, Nat.reduceSub, Nat.reduceMul, Nat.reduceLT, Nat.reduceLeDiff, Nat.reduceEqDiff, Nat.succ_ne_zero, reduceIte]
        simp [sq, h0, h1, h2]
      · have h2 : ¬ szResult d.res (szQuery d.q (szS szVal d.r (l))) < 0 := by simpa using h
        simp only [go_sem, Nat.reduceAdd, Nat.reduceSub, Nat.reduceMul, Nat.reduceLT, Nat.reduceLeDiff, Nat.reduceEqDiff, Nat.succ_ne_zero, reduceIte]
        simp [sq, h0, h1, h2]
theorem szDeedS_of (xs : List DDeed) (hx : ∀ x ∈ xs, ∀ l, 0 ≤ l → Ctr Try.prog 42 [.agg x.c, .c (.v (.int .i64 l))] [.val (.c (.v (.int .i64 (szDeed x l))))]) (l : Int) (hl : 0 ≤ l) : Ctr Try.prog 19 [.c (.sl (xs.map DDeed.c)), .c (.v (.int .i64 l))] [.val (.c (.v (.int .i64 (szS szDeed xs l))))] := by
  refine Ctr.mk (fn := Try.f19) Try.call19 Try.func19 rfl mixed Try.ntmps19 Try.results19 (by kernel_rfl) rfl fun hw => ?_
  have hlen : xs.length ≤ 9223372036854775807 := by have := hw.1.1; simpa [Go.maxLen] using this
  have hl2 : l ≤ 9223372036854775807 := i64_le hw.2.1
  simp only [go_sem, Nat.reduceAdd, Nat.reduceSub, Nat.reduceMul, Nat.reduceLT, Nat.reduceLeDiff, Nat.reduceEqDiff, Nat.succ_ne_zero, reduceIte, List.length_map, wrap_i64 (n := l - xs.length) (by omega) (by omega)]
  refine cndC.mk (fun h => ?_) (fun h => ?_)
  · have h' : l - xs.length < 0 := by simpa using h
    simp only [go_sem, Nat.reduceAdd, Nat.reduceSub, Nat.reduceMul, Nat.reduceLT, Nat.reduceLeDiff, Nat.reduceEqDiff, Nat.succ_ne_zero, reduceIte]
    simp [szS, sq, szI, h']
  · have h' : ¬ l - xs.length < 0 := by simpa using h
    simp only [go_sem, Nat.reduceAdd, Nat.reduceSub, Nat.reduceMul, Nat.reduceLT, Nat.reduceLeDiff, Nat.reduceEqDiff, Nat.succ_ne_zero, reduceIte]
    refine LoopK.mk 0 [0, 1, 5] (A := Nat × Int) (fun x => ⟨27, [(0, .c (.sl (xs.map DDeed.c))), (1, .c (.v (.int .i64 x.2))), (5, .c (.v (.int .i64 x.1)))], []⟩) (fun x => x.1 ≤ xs.length ∧ 0 ≤ x.2 ∧ szL szDeed (xs.drop x.1) x.2 = szS szDeed xs l) (fun x => xs.length - x.1)
      (0, l - xs.length) ⟨⟨rfl, rfl⟩, rfl, Nat.zero_le _, by simp only; omega, by simp [szS, sq, szI, h']⟩ ?_
    rintro ⟨k, m⟩ ⟨hk, hm0, hm⟩
    simp only at hk hm hm0
    simp only [go_sem, Nat.reduceAdd, Nat.reduceSub, Nat.reduceMul, Nat.reduceLT, Nat.reduceLeDiff, Nat.reduceEqDiff, Nat.succ_ne_zero, reduceIte, List.length_map]
    refine cndC.mk (fun h => ?_) (fun h => ?_)
    · have hk' : k < xs.length := by simpa using h
      simp only [go_sem, Nat.reduceAdd, Nat.reduceSub, Nat.reduceMul, Nat.reduceLT, Nat.reduceLeDiff, Nat.reduceEqDiff, Nat.succ_ne_zero, reduceIte, map_at _ hk']
      refine CallK.mk _ (by simpa only [go_sem] using hx xs[k] (List.getElem_mem hk') m hm0) fun _ => ?_
      simp only [go_sem, Nat.reduceAdd, Nat.reduceSub, Nat.reduceMul, Nat.reduceLT, Nat.reduceLeDiff, Nat.reduceEqDiff, Nat.succ_ne_zero, reduceIte]
      rw [List.drop_eq_getElem_cons hk'] at hm
      simp only [szL] at hm
      refine cndC.mk (fun h => ?_) (fun h => ?_)
      · have h' : szDeed xs[k] m < 0 := by simpa using h
        simp only [go_sem, Nat.reduceAdd, Nat.reduceSub, Nat.reduceMul, Nat.reduceLT, Nat.reduceLeDiff, Nat.reduceEqDiff, Nat.succ_ne_zero, reduceIte]
        rw [sq_neg h'] at hm
        rw [hm]
      · have h' : ¬ szDeed xs[k] m < 0 := by simpa using h
        rw [sq_pos h'] at hm
        simp only [go_sem, Nat.reduceAdd, Nat.reduceSub, Nat.reduceMul, Nat.reduceLT, Nat.reduceLeDiff, Nat.reduceEqDiff, Nat.succ_ne_zero, reduceIte, wrap_i64 (n := (k : Int) + 1) (by omega) (by omega)]
        exact ⟨(k + 1, szDeed xs[k] m), ⟨rfl, rfl⟩, rfl, ⟨by simp only; omega, (by omega : (0 : Int) ≤ szDeed xs[k] m), hm⟩, by simp only; omega⟩
    · have hk' : k = xs.length := by simp at h; omega
      subst hk'
      simp only [go_sem, Nat.reduceAdd, Nat.reduceSub, Nat.reduceMul, Nat.reduceLT, Nat.reduceLeDiff, Nat.reduceEqDiff, Nat.succ_ne_zero, reduceIte]
      simp [szL] at hm
      rw [hm]
theorem szDeedS_spec (xs : List DDeed) (l : Int) (hl : 0 ≤ l) : Ctr Try.prog 19 [.c (.sl (xs.map DDeed.c)), .c (.v (.int .i64 l))] [.val (.c (.v (.int .i64 (szS szDeed xs l))))] := szDeedS_of xs (fun x _ l hl => szDeed_spec x l hl) l hl
theorem szConf_spec (d : DConf) (l : Int) (hl : 0 ≤ l) : Ctr Try.prog 13 [.agg d.c, .c (.v (.int .i64 l))] [.val (.c (.v (.int .i64 (szConf d l))))] := by
  refine Ctr.mk (fn := Try.f13) Try.call13 Try.func13 rfl mixed Try.ntmps13 Try.results13 (by kernel_rfl) rfl fun hw => ?_
  rw [szConf_eq]
  simp only [go_sem, Nat.reduceAdd, Nat.reduceSub, Nat.reduceMul, Nat.reduceLT, Nat.reduceLeDiff, Nat.reduceEqDiff, Nat.succ_ne_zero, reduceIte]
  refine CallK.mk _ (by simpa only [go_sem] using szIntS_spec d.cols _ (by omega)) fun _ => ?_
  simp only [go_sem, Nat.reduceAdd, Nat.reduceSub, Nat.reduceMul, Nat.reduceLT, Nat.reduceLeDiff, Nat.reduceEqDiff, Nat.succ_ne_zero, reduceIte]
  refine cndC.mk (fun h => ?_) (fun h => ?_)
  · have h0 : szI d.cols.length (l) < 0 := by simpa using h
    simp only [go_sem, Nat.reduceAdd, Nat.reduceSub, Nat.reduceMul, Nat.reduceLT, Nat.reduceLeDiff, Nat.reduceEqDiff, Nat.succ_ne_zero, reduceIte]
    simp [sq, h0]
  · have h0 : ¬ szI d.cols.length (l) < 0 := by simpa using h
    simp only [go_sem, Nat.reduceAdd, Nat.reduceSub, Nat.reduceMul, Nat.reduceLT, Nat.reduceLeDiff, Nat.reduceEqDiff, Nat.succ_ne_zero, reduceIte]
    simp [sq, h0]
theorem szWorld_spec (d : DWorld) (l : Int) (hl : 0 ≤ l) : Ctr Try.prog 4 [.agg d.c, .c (.v (.int .i64 l))] [.val (.c (.v (.int .i64 (szWorld d l))))] := by
  refine Ctr.mk (fn := Try.f4) Try.call4 Try.func4 rfl mixed Try.ntmps4 Try.results4 (by kernel_rfl) rfl fun hw => ?_
  rw [szWorld_eq]
  simp only [go_sem, Nat.reduceAdd, Nat.reduceSub, Nat.reduceMul, Nat.reduceLT, Nat.reduceLeDiff, Nat.reduceEqDiff, Nat.succ_ne_zero, reduceIte]
  refine CallK.mk _ (by simpa only [go_sem] using szConf_spec d.c0 _ (by omega)) fun _ => ?_
  simp only [go_sem, Nat.reduceAdd, Nat.reduceSub, Nat.reduceMul, Nat.reduceLT, Nat.reduceLeDiff, Nat.reduceEqDiff, Nat.succ_ne_zero, reduceIte]
  refine cndC.mk (fun h => ?_) (fun h => ?_)
  · have h0 : szConf d.c0 (l) < 0 := by simpa using h
    simp only [go_sem, Nat.reduceAdd, Nat.reduceSub, Nat.reduceMul, Nat.reduceLT, Nat.reduceLeDiff, Nat.reduceEqDiff, Nat.succ_ne_zero, reduceIte]
    simp [sq, h0]
  · have h0 : ¬ szConf d.c0 (l) < 0 := by simpa using h
    simp only [go_sem, Nat.reduceAdd, Nat.reduceSub, Nat.reduceMul, Nat.reduceLT, Nat.reduceLeDiff, Nat.reduceEqDiff, Nat.succ_ne_zero, reduceIte]
    refine CallK.mk _ (by simpa only [go_sem] using szDir_spec d.d _ (by omega)) fun _ => ?_
    simp only [go_sem, Nat.reduceAdd, Nat.reduceSub, Nat.reduceMul, Nat.reduceLT, Nat.reduceLeDiff, Nat.reduceEqDiff, Nat.succ_ne_zero, reduceIte]
    refine cndC.mk (fun h => ?_) (fun h => ?_)
    · have h1 : szDir d.d (szConf d.c0 (l)) < 0 := by simpa using h
      simp only [go_sem, Nat.reduceAdd, Nat.reduceSub, Nat.reduceMul, Nat.reduceLT, Nat.reduceLeDiff, Nat.reduceEqDiff, Nat.succ_ne_zero, reduceIte]
      simp [sq, h0, h1]
    · have h1 : ¬ szDir d.d (szConf d.c0 (l)) < 0 := by simpa using h
      simp only [go_sem, Nat.reduceAdd, Nat.reduceSub, Nat.reduceMul, Nat.reduceLT, Nat.reduceLeDiff, Nat.reduceEqDiff, Nat.succ_ne_zero, reduceIte]
      refine CallK.mk _ (by simpa only [go_sem] using szBufS_spec d.b _ (by omega)) fun _ => ?_
      simp only [go_sem, Nat.reduceAdd, Nat.reduceSub, Nat.reduceMul, Nat.reduceLT, Nat.reduceLeDiff, Nat.reduceEqDiff, Nat.succ_ne_zero, reduceIte]
      refine cndC.mk (fun h => ?_) (fun h => ?_)
      · have h2 : szS szBuf d.b (szDir d.d (szConf d.c0 (l))) < 0 := by simpa using h
        simp only [go_sem, Nat.reduceAdd, Nat.reduceSub, Nat.reduceMul, Nat.reduceLT, Nat.reduceLeDiff, Nat.reduceEqDiff, Nat.succ_ne_zero, reduceIte]
        simp [sq, h0, h1, h2]
      · have h2 : ¬ szS szBuf d.b (szDir d.d (szConf d.c0 (l))) < 0 := by simpa using h
        simp only [go_sem, Nat.reduceAdd, Nat.reduceSub, Nat.reduceMul, Nat.reduceLT, Nat.reduceLeDiff, Nat.reduceEqDiff, Nat.succ_ne_zero, reduceIte]
        refine CallK.mk _ (by simpa only [go_sem] using szIntS_spec d.m _ (by omega)) fun _ => ?_
        simp only [go_sem, Nat.reduceAdd, Nat.reduceSub, Nat.reduceMul, Nat.reduceLT, Nat.reduceLeDiff, Nat.reduceEqDiff, Nat.succ_ne_zero, reduceIte]
        refine cndC.mk (fun h => ?_) (fun h => ?_)
        · have h3 : szI d.m.length (szS szBuf d.b (szDir d.d (szConf d.c0 (l)))) < 0 := by simpa using h
          simp only [go_sem, Nat.reduceAdd, Nat.reduceSub, Nat.reduceMul, Nat.reduceLT, Nat.reduceLeDiff, Nat.reduceEqDiff, Nat.succ_ne_zero, reduceIte]
          simp [sq, h0, h1, h2, h3]
        · have h3 : ¬ szI d.m.length (szS szBuf d.b (szDir d.d (szConf d.c0 (l)))) < 0 := by simpa using h
          simp only [go_sem, Nat.reduceAdd, Nat.reduceSub, Nat.reduceMul, Nat.reduceLT, Nat.reduceLeDiff, Nat.reduceEqDiff, Nat.succ_ne_zero, reduceIte]
          refine CallK.mk _ (by simpa only [go_sem] using szDeadS_spec d.x _ (by omega)) fun _ => ?_
          simp only [go_sem, Nat.reduceAdd, Nat.reduceSub, Nat.reduceMul, Nat.reduceLT, Nat.reduceLeDiff, Nat.reduceEqDiff, Nat.succ_ne_zero, reduceIte]
          refine cndC.mk (fun h => ?_) (fun h => ?_)
          · have h4 : szI d.x.length (szI d.m.length (szS szBuf d.b (szDir d.d (szConf d.c0 (l))))) < 0 := by simpa using h
            simp only [go_sem, Nat.reduceAdd, Nat.reduceSub, Nat.reduceMul, Nat.reduceLT, Nat.reduceLeDiff, Nat.reduceEqDiff, Nat.succ_ne_zero, reduceIte]
            simp [sq, h0, h1, h2, h3, h4]
          · have h4 : ¬ szI d.x.length (szI d.m.length (szS szBuf d.b (szDir d.d (szConf d.c0 (l))))) < 0 := by simpa using h
            simp only [go_sem, Nat.reduceAdd, Nat.reduceSub, Nat.reduceMul, Nat.reduceLT, Nat.reduceLeDiff, Nat.reduceEqDiff, Nat.succ_ne_zero, reduceIte]
            refine CallK.mk _ (by simpa only [go_sem] using szIntS_spec d.p _ (by omega)) fun _ => ?_
            simp only [go_sem, Nat.reduceAdd, Nat.reduceSub, Nat.reduceMul, Nat.reduceLT, Nat.reduceLeDiff, Nat.reduceEqDiff, Nat.succ_ne_zero, reduceIte]
            refine cndC.mk (fun h => ?_) (fun h => ?_)
            · have h5 : szI d.p.length (szI d.x.length (szI d.m.length (szS szBuf d.b (szDir d.d (szConf d.c0 (l)))))) < 0 := by simpa using h
              simp only [go_sem, Nat.reduceAdd, Nat.reduceSub, Nat.reduceMul, Nat.reduceLT, Nat.reduceLeDiff, Nat.reduceEqDiff, Nat.succ_ne_zero, reduceIte]
              simp [sq, h0, h1, h2, h3, h4, h5]
            · have h5 : ¬ szI d.p.length (szI d.x.length (szI d.m.length (szS szBuf d.b (szDir d.d (szConf d.c0 (l)))))) < 0 := by simpa using h
              simp only [go_sem, Nat.reduceAdd, Nat.reduceSub, Nat.reduceMul, Nat.reduceLT, Nat.reduceLeDiff, Nat.reduceEqDiff, Nat.succ_ne_zero, reduceIte]
              refine CallK.mk _ (by simpa only [go_sem] using szTaskS_spec d.tasks _ (by omega)) fun _ => ?_
              simp only [go_sem, Nat.reduceAdd, Nat.reduceSub, Nat.reduceMul, Nat.reduceLT, Nat.reduceLeDiff, Nat.reduceEqDiff, Nat.succ_ne_zero, reduceIte]
              refine cndC.mk (fun h => ?_) (fun h => ?_)
              · have h6 : szS szTask d.tasks (szI d.p.length (szI d.x.length (szI d.m.length (szS szBuf d.b (szDir d.d (szConf d.c0 (l))))))) < 0 := by simpa using h
                simp only [go_sem, Nat.reduceAdd, Nat.reduceSub, Nat.reduceMul, Nat.reduceLT, Nat.reduceLeDiff, Nat.reduceEqDiff, Nat.succ_ne_zero, reduceIte]
                simp [sq, h0, h1, h2, h3, h4, h5, h6]
              · have h6 : ¬ szS szTask d.tasks (szI d.p.length (szI d.x.length (szI d.m.length (szS szBuf d.b (szDir d.d (szConf d.c0 (l))))))) < 0 := by simpa using h
                simp only [go_sem, Nat.reduceAdd, Nat.reduceSub, Nat.reduceMul, Nat.reduceLT, Nat.reduceLeDiff, Nat.reduceEqDiff, Nat.succ_ne_zero, reduceIte]
                refine CallK.mk _ (by simpa only [go_sem] using szDeedS_spec d.deeds _ (by omega)) fun _ => ?_
                simp only [go_sem, Nat.reduceAdd, Nat.reduceSub, Nat.reduceMul, Nat.reduceLT, Nat.reduceLeDiff, Nat.reduceEqDiff, Nat.succ_ne_zero, reduceIte]
                refine cndC.mk (fun h => ?_) (fun h => ?_)
                · have h7 : szS szDeed d.deeds (szS szTask d.tasks (szI d.p.length (szI d.x.length (szI d.m.length (szS szBuf d.b (szDir d.d (szConf d.c0 (l)))))))) < 0 := by simpa using h
                  simp only [go_sem, Nat.reduceAdd, Nat.reduceSub, Nat.reduceMul, Nat.reduceLT, Nat.reduceLeDiff, Nat.reduceEqDiff, Nat.succ_ne_zero, reduceIte]
                  simp [sq, h0, h1, h2, h3, h4, h5, h6, h7]
                · have h7 : ¬ szS szDeed d.deeds (szS szTask d.tasks (szI d.p.length (szI d.x.length (szI d.m.length (szS szBuf d.b (szDir d.d (szConf d.c0 (l)))))))) < 0 := by simpa using h
                  simp only [go_sem, Nat.reduceAdd, Nat.reduceSub, Nat.reduceMul, Nat.reduceLT, Nat.reduceLeDiff, Nat.reduceEqDiff, Nat.succ_ne_zero, reduceIte]
                  simp [sq, h0, h1, h2, h3, h4, h5, h6, h7]
theorem toIntS_own (xs : List Int) (hf : xs.length ≤ 1048576) : Ctr Try.prog 23 [.c (.sl (xs.map intC))] [.own 3 1 (xs.map intC) true] := by
  refine Ctr.mk (fn := Try.f23) Try.call23 Try.func23 rfl mixed Try.ntmps23 Try.results23 (by kernel_rfl) rfl fun _ => ?_
  have hc : (0 : Int) ≤ xs.length ∧ (xs.length : Int) ≤ xs.length ∧ (xs.length : Int) ≤ 2147483648 := by omega
  simp only [go_sem, Nat.reduceAdd, Nat.reduceSub, Nat.reduceMul, Nat.reduceLT, Nat.reduceLeDiff, Nat.reduceEqDiff, Nat.succ_ne_zero, reduceIte, List.length_map, hc, List.length_replicate]
  have hg := fun k => @trim1_grow _ intC intC.pure [.v (.int .i64 0)] rfl xs k 3 1 true true
  refine LoopK.mk 1 [0, 3, 4] (A := Nat) (fun k => ⟨22, [(0, .c (.sl (xs.map intC))), (3, .c (.ref 0)), (4, .c (.v (.int .i64 k)))], [⟨3, 1, grow (xs.map intC) [.v (.int .i64 0)] k, true, true⟩]⟩) (fun k => k ≤ xs.length) (fun k => xs.length - k) 0 ⟨⟨rfl, by have := hg 0; simp only [grow_zero, List.length_map] at this; exact this⟩, by simp only [grow_zero, List.length_map]; rfl, Nat.zero_le _⟩ ?_
  intro k hk
  simp only [go_sem, Nat.reduceAdd, Nat.reduceSub, Nat.reduceMul, Nat.reduceLT, Nat.reduceLeDiff, Nat.reduceEqDiff, Nat.succ_ne_zero, reduceIte, List.length_map]
  refine cndC.mk (fun h => ?_) (fun h => ?_)
  · have hk' : k < xs.length := by simpa using h
    have hset := @grow_setm _ intC xs [.v (.int .i64 0)] k hk'
    simp only [go_sem] at hset
    simp only [go_sem, Nat.reduceAdd, Nat.reduceSub, Nat.reduceMul, Nat.reduceLT, Nat.reduceLeDiff, Nat.reduceEqDiff, Nat.succ_ne_zero, reduceIte, map_at _ hk', grow_lenm hk, grow_atm hk', hk', hset, wrap_i64 (n := (k : Int) + 1) (by omega) (by omega)]
    exact ⟨k + 1, ⟨rfl, hg _⟩, rfl, by omega, by first | omega | (simp only; omega)⟩
  · have hk' : k = xs.length := by simp at h; omega
    subst hk'
    rw [grow_allm]
    simp only [go_sem, Nat.reduceAdd, Nat.reduceSub, Nat.reduceMul, Nat.reduceLT, Nat.reduceLeDiff, Nat.reduceEqDiff, Nat.succ_ne_zero, reduceIte]
    simp [nrE_of_pure (pureE_map intC.pure)]
theorem toByteS_own (xs : List Int) (hf : xs.length ≤ 1048576) : Ctr Try.prog 68 [.c (.sl (xs.map byteC))] [.own 5 1 (xs.map byteC) true] := by
  refine Ctr.mk (fn := Try.f68) Try.call68 Try.func68 rfl mixed Try.ntmps68 Try.results68 (by kernel_rfl) rfl fun _ => ?_
  have hc : (0 : Int) ≤ xs.length ∧ (xs.length : Int) ≤ xs.length ∧ (xs.length : Int) ≤ 2147483648 := by omega
  simp only [go_sem, Nat.reduceAdd, Nat.reduceSub, Nat.reduceMul, Nat.reduceLT, Nat.reduceLeDiff, Nat.reduceEqDiff, Nat.succ_ne_zero, reduceIte, List.length_map, hc, List.length_replicate]
  have hg := fun k => @trim1_grow _ byteC byteC.pure [.v (.int .u8 0)] rfl xs k 5 1 true true
  refine LoopK.mk 1 [0, 3, 4] (A := Nat) (fun k => ⟨22, [(0, .c (.sl (xs.map byteC))), (3, .c (.ref 0)), (4, .c (.v (.int .i64 k)))], [⟨5, 1, grow (xs.map byteC) [.v (.int .u8 0)] k, true, true⟩]⟩) (fun k => k ≤ xs.length) (fun k => xs.length - k) 0 ⟨⟨rfl, by have := hg 0; simp only [grow_zero, List.length_map] at this; exact this⟩, by simp only [grow_zero, List.length_map]; rfl, Nat.zero_le _⟩ ?_
  intro k hk
  simp only [go_sem, Nat.reduceAdd, Nat.reduceSub, Nat.reduceMul, Nat.reduceLT, Nat.reduceLeDiff, Nat.reduceEqDiff, Nat.succ_ne_zero, reduceIte, List.length_map]
  refine cndC.mk (fun h => ?_) (fun h => ?_)
  · have hk' : k < xs.length := by simpa using h
    have hset := @grow_setm _ byteC xs [.v (.int .u8 0)] k hk'
    simp only [go_sem] at hset
    simp only [go_sem, Nat.reduceAdd, Nat.reduceSub, Nat.reduceMul, Nat.reduceLT, Nat.reduceLeDiff, Nat.reduceEqDiff, Nat.succ_ne_zero, reduceIte, map_at _ hk', grow_lenm hk, grow_atm hk', hk', hset, wrap_i64 (n := (k : Int) + 1) (by omega) (by omega)]
    exact ⟨k + 1, ⟨rfl, hg _⟩, rfl, by omega, by first | omega | (simp only; omega)⟩
  · have hk' : k = xs.length := by simp at h; omega
    subst hk'
    rw [grow_allm]
    simp only [go_sem, Nat.reduceAdd, Nat.reduceSub, Nat.reduceMul, Nat.reduceLT, Nat.reduceLeDiff, Nat.reduceEqDiff, Nat.succ_ne_zero, reduceIte]
    simp [nrE_of_pure (pureE_map byteC.pure)]
theorem toIntS_spec (xs : List Int) (hf : xs.length ≤ 1048576) : Ctr Try.prog 23 [.c (.sl (xs.map intC))] [.val (.c (.sl (xs.map intC)))] := (toIntS_own xs hf).val (pureE_map intC.pure)
theorem toByteS_spec (xs : List Int) (hf : xs.length ≤ 1048576) : Ctr Try.prog 68 [.c (.sl (xs.map byteC))] [.val (.c (.sl (xs.map byteC)))] := (toByteS_own xs hf).val (pureE_map byteC.pure)
theorem toVal_spec (d : DVal) (hf : fitVal d) : Ctr Try.prog 85 [.agg d.c] [.val (.agg d.c)] := by
  rw [fitVal_eq] at hf
  have f0 := hf
  refine Ctr.mk (fn := Try.f85) Try.call85 Try.func85 rfl mixed Try.ntmps85 Try.results85 (by kernel_rfl) rfl fun _ => ?_
  simp only [go_sem, Nat.reduceAdd, Nat.reduceSub, Nat.reduceMul, Nat.reduceLT, Nat.reduceLeDiff, Nat.reduceEqDiff, Nat.succ_ne_zero, reduceIte]
theorem toValS_own (xs : List DVal) (hf : xs.length ≤ 1048576) (hx : ∀ x ∈ xs, Ctr Try.prog 85 [.agg x.c] [.val (.agg x.c)]) : Ctr Try.prog 69 [.c (.sl (xs.map DVal.c))] [.own 114 3 (xs.map DVal.c) true] := by
  refine Ctr.mk (fn := Try.f69) Try.call69 Try.func69 rfl mixed Try.ntmps69 Try.results69 (by kernel_rfl) rfl fun _ => ?_
  have hc : (0 : Int) ≤ xs.length ∧ (xs.length : Int) ≤ xs.length ∧ (xs.length : Int) ≤ 2147483648 := by omega
  simp only [go_sem, Nat.reduceAdd, Nat.reduceSub, Nat.reduceMul, Nat.reduceLT, Nat.reduceLeDiff, Nat.reduceEqDiff, Nat.succ_ne_zero, reduceIte, List.length_map, hc, List.length_replicate]
  have hg := fun k => @trim1_grow _ DVal.c DVal.pure [.v (.int .i64 0), .v (.int .i64 0), .v (.string ByteArray.empty)] rfl xs k 114 3 true true
  refine LoopK.mk 1 [0, 3, 4] (A := Nat) (fun k => ⟨23, [(0, .c (.sl (xs.map DVal.c))), (3, .c (.ref 0)), (4, .c (.v (.int .i64 k)))], [⟨114, 3, grow (xs.map DVal.c) [.v (.int .i64 0), .v (.int .i64 0), .v (.string ByteArray.empty)] k, true, true⟩]⟩) (fun k => k ≤ xs.length) (fun k => xs.length - k) 0 ⟨⟨rfl, by have := hg 0; simp only [grow_zero, List.length_map] at this; exact this⟩, by simp only [grow_zero, List.length_map]; rfl, Nat.zero_le _⟩ ?_
  intro k hk
  simp only [go_sem, Nat.reduceAdd, Nat.reduceSub, Nat.reduceMul, Nat.reduceLT, Nat.reduceLeDiff, Nat.reduceEqDiff, Nat.succ_ne_zero, reduceIte, List.length_map]
  refine cndC.mk (fun h => ?_) (fun h => ?_)
  · have hk' : k < xs.length := by simpa using h
    have hset := @grow_setm _ DVal.c xs [.v (.int .i64 0), .v (.int .i64 0), .v (.string ByteArray.empty)] k hk'
    simp only [go_sem] at hset
    simp only [go_sem, Nat.reduceAdd, Nat.reduceSub, Nat.reduceMul, Nat.reduceLT, Nat.reduceLeDiff, Nat.reduceEqDiff, Nat.succ_ne_zero, reduceIte, map_at _ hk', grow_lenm hk, grow_atm hk', hk', hset, wrap_i64 (n := (k : Int) + 1) (by omega) (by omega)]
    refine CallK.mk _ (by simpa only [go_sem] using hx xs[k] (List.getElem_mem hk')) fun _ => ?_
    simp only [go_sem, Nat.reduceAdd, Nat.reduceSub, Nat.reduceMul, Nat.reduceLT, Nat.reduceLeDiff, Nat.reduceEqDiff, Nat.succ_ne_zero, reduceIte, map_at _ hk', grow_lenm hk, grow_atm hk', hk', hset, wrap_i64 (n := (k : Int) + 1) (by omega) (by omega)]
    exact ⟨k + 1, ⟨rfl, hg _⟩, rfl, by omega, by first | omega | (simp only; omega)⟩
  · have hk' : k = xs.length := by simp at h; omega
    subst hk'
    rw [grow_allm]
    simp only [go_sem, Nat.reduceAdd, Nat.reduceSub, Nat.reduceMul, Nat.reduceLT, Nat.reduceLeDiff, Nat.reduceEqDiff, Nat.succ_ne_zero, reduceIte]
    simp [nrE_of_pure (pureE_map DVal.pure)]
theorem toValS_spec (xs : List DVal) (hf : fitS fitVal xs) : Ctr Try.prog 69 [.c (.sl (xs.map DVal.c))] [.val (.c (.sl (xs.map DVal.c)))] := (toValS_own xs hf.1 fun x hx => toVal_spec x (hf.2 x hx)).val (pureE_map DVal.pure)
theorem toRow_spec (d : DRow) (hf : fitRow d) : Ctr Try.prog 87 [.agg d.c] [.val (.agg d.c)] := by
  rw [fitRow_eq] at hf
  have f0 := hf
  refine Ctr.mk (fn := Try.f87) Try.call87 Try.func87 rfl mixed Try.ntmps87 Try.results87 (by kernel_rfl) rfl fun _ => ?_
  simp only [go_sem, Nat.reduceAdd, Nat.reduceSub, Nat.reduceMul, Nat.reduceLT, Nat.reduceLeDiff, Nat.reduceEqDiff, Nat.succ_ne_zero, reduceIte]
  refine CallK.mk _ (by simpa only [go_sem] using toValS_spec d.l f0) fun _ => ?_
  simp only [go_sem, Nat.reduceAdd, Nat.reduceSub, Nat.reduceMul, Nat.reduceLT, Nat.reduceLeDiff, Nat.reduceEqDiff, Nat.succ_ne_zero, reduceIte]
theorem toRowS_own (xs : List DRow) (hf : xs.length ≤ 1048576) (hx : ∀ x ∈ xs, Ctr Try.prog 87 [.agg x.c] [.val (.agg x.c)]) : Ctr Try.prog 71 [.c (.sl (xs.map DRow.c))] [.own 166 2 (xs.map DRow.c) true] := by
  refine Ctr.mk (fn := Try.f71) Try.call71 Try.func71 rfl mixed Try.ntmps71 Try.results71 (by kernel_rfl) rfl fun _ => ?_
  have hc : (0 : Int) ≤ xs.length ∧ (xs.length : Int) ≤ xs.length ∧ (xs.length : Int) ≤ 2147483648 := by omega
  simp only [go_sem, Nat.reduceAdd, Nat.reduceSub, Nat.reduceMul, Nat.reduceLT, Nat.reduceLeDiff, Nat.reduceEqDiff, Nat.succ_ne_zero, reduceIte, List.length_map, hc, List.length_replicate]
  have hg := fun k => @trim1_grow _ DRow.c DRow.pure [.v (.int .i64 0), .v (.slice none 0 0)] rfl xs k 166 2 true true
  refine LoopK.mk 1 [0, 3, 4] (A := Nat) (fun k => ⟨23, [(0, .c (.sl (xs.map DRow.c))), (3, .c (.ref 0)), (4, .c (.v (.int .i64 k)))], [⟨166, 2, grow (xs.map DRow.c) [.v (.int .i64 0), .v (.slice none 0 0)] k, true, true⟩]⟩) (fun k => k ≤ xs.length) (fun k => xs.length - k) 0 ⟨⟨rfl, by have := hg 0; simp only [grow_zero, List.length_map] at this; exact this⟩, by simp only [grow_zero, List.length_map]; rfl, Nat.zero_le _⟩ ?_
  intro k hk
  simp only [go_sem, Nat.reduceAdd, Nat.reduceSub, Nat.reduceMul, Nat.reduceLT, Nat.reduceLeDiff, Nat.reduceEqDiff, Nat.succ_ne_zero, reduceIte, List.length_map]
  refine cndC.mk (fun h => ?_) (fun h => ?_)
  · have hk' : k < xs.length := by simpa using h
    have hset := @grow_setm _ DRow.c xs [.v (.int .i64 0), .v (.slice none 0 0)] k hk'
    simp only [go_sem] at hset
    simp only [go_sem, Nat.reduceAdd, Nat.reduceSub, Nat.reduceMul, Nat.reduceLT, Nat.reduceLeDiff, Nat.reduceEqDiff, Nat.succ_ne_zero, reduceIte, map_at _ hk', grow_lenm hk, grow_atm hk', hk', hset, wrap_i64 (n := (k : Int) + 1) (by omega) (by omega)]
    refine CallK.mk _ (by simpa only [go_sem] using hx xs[k] (List.getElem_mem hk')) fun _ => ?_
    simp only [go_sem, Nat.reduceAdd, Nat.reduceSub, Nat.reduceMul, Nat.reduceLT, Nat.reduceLeDiff, Nat.reduceEqDiff, Nat.succ_ne_zero, reduceIte, map_at _ hk', grow_lenm hk, grow_atm hk', hk', hset, wrap_i64 (n := (k : Int) + 1) (by omega) (by omega)]
    exact ⟨k + 1, ⟨rfl, hg _⟩, rfl, by omega, by first | omega | (simp only; omega)⟩
  · have hk' : k = xs.length := by simp at h; omega
    subst hk'
    rw [grow_allm]
    simp only [go_sem, Nat.reduceAdd, Nat.reduceSub, Nat.reduceMul, Nat.reduceLT, Nat.reduceLeDiff, Nat.reduceEqDiff, Nat.succ_ne_zero, reduceIte]
    simp [nrE_of_pure (pureE_map DRow.pure)]
theorem toRowS_spec (xs : List DRow) (hf : fitS fitRow xs) : Ctr Try.prog 71 [.c (.sl (xs.map DRow.c))] [.val (.c (.sl (xs.map DRow.c)))] := (toRowS_own xs hf.1 fun x hx => toRow_spec x (hf.2 x hx)).val (pureE_map DRow.pure)
theorem toPredS_own (xs : List DPred) (hf : xs.length ≤ 1048576) (hx : ∀ x ∈ xs, Ctr Try.prog 86 [.agg x.c] [.val (.agg x.c)]) : Ctr Try.prog 95 [.c (.sl (xs.map DPred.c))] [.own 117 7 (xs.map DPred.c) true] := by
  refine Ctr.mk (fn := Try.f95) Try.call95 Try.func95 rfl mixed Try.ntmps95 Try.results95 (by kernel_rfl) rfl fun _ => ?_
  have hc : (0 : Int) ≤ xs.length ∧ (xs.length : Int) ≤ xs.length ∧ (xs.length : Int) ≤ 2147483648 := by omega
  simp only [go_sem, Nat.reduceAdd, Nat.reduceSub, Nat.reduceMul, Nat.reduceLT, Nat.reduceLeDiff, Nat.reduceEqDiff, Nat.succ_ne_zero, reduceIte, List.length_map, hc, List.length_replicate]
  have hg := fun k => @trim1_grow _ DPred.c DPred.pure [.v (.int .i64 0), .v (.int .i64 0), .v (.int .i64 0), .v (.int .i64 0), .v (.int .i64 0), .v (.string ByteArray.empty), .v (.slice none 0 0)] rfl xs k 117 7 true true
  refine LoopK.mk 1 [0, 3, 4] (A := Nat) (fun k => ⟨23, [(0, .c (.sl (xs.map DPred.c))), (3, .c (.ref 0)), (4, .c (.v (.int .i64 k)))], [⟨117, 7, grow (xs.map DPred.c) [.v (.int .i64 0), .v (.int .i64 0), .v (.int .i64 0), .v (.int .i64 0), .v (.int .i64 0), .v (.string ByteArray.empty), .v (.slice none 0 0)] k, true, true⟩]⟩) (fun k => k ≤ xs.length) (fun k => xs.length - k) 0 ⟨⟨rfl, by have := hg 0; simp only [grow_zero, List.length_map] at this; exact this⟩, by simp only [grow_zero, List.length_map]; rfl, Nat.zero_le _⟩ ?_
  intro k hk
  simp only [go_sem, Nat.reduceAdd, Nat.reduceSub, Nat.reduceMul, Nat.reduceLT, Nat.reduceLeDiff, Nat.reduceEqDiff, Nat.succ_ne_zero, reduceIte, List.length_map]
  refine cndC.mk (fun h => ?_) (fun h => ?_)
  · have hk' : k < xs.length := by simpa using h
    have hset := @grow_setm _ DPred.c xs [.v (.int .i64 0), .v (.int .i64 0), .v (.int .i64 0), .v (.int .i64 0), .v (.int .i64 0), .v (.string ByteArray.empty), .v (.slice none 0 0)] k hk'
    simp only [go_sem] at hset
    simp only [go_sem, Nat.reduceAdd, Nat.reduceSub, Nat.reduceMul, Nat.reduceLT, Nat.reduceLeDiff, Nat.reduceEqDiff, Nat.succ_ne_zero, reduceIte, map_at _ hk', grow_lenm hk, grow_atm hk', hk', hset, wrap_i64 (n := (k : Int) + 1) (by omega) (by omega)]
    refine CallK.mk _ (by simpa only [go_sem] using hx xs[k] (List.getElem_mem hk')) fun _ => ?_
    simp only [go_sem, Nat.reduceAdd, Nat.reduceSub, Nat.reduceMul, Nat.reduceLT, Nat.reduceLeDiff, Nat.reduceEqDiff, Nat.succ_ne_zero, reduceIte, map_at _ hk', grow_lenm hk, grow_atm hk', hk', hset, wrap_i64 (n := (k : Int) + 1) (by omega) (by omega)]
    exact ⟨k + 1, ⟨rfl, hg _⟩, rfl, by omega, by first | omega | (simp only; omega)⟩
  · have hk' : k = xs.length := by simp at h; omega
    subst hk'
    rw [grow_allm]
    simp only [go_sem, Nat.reduceAdd, Nat.reduceSub, Nat.reduceMul, Nat.reduceLT, Nat.reduceLeDiff, Nat.reduceEqDiff, Nat.succ_ne_zero, reduceIte]
    simp [nrE_of_pure (pureE_map DPred.pure)]
theorem toPred_of (d : DPred) (hf : fitPred d) (hx : ∀ x ∈ d.l, Ctr Try.prog 86 [.agg x.c] [.val (.agg x.c)]) : Ctr Try.prog 86 [.agg d.c] [.val (.agg d.c)] := by
  rw [fitPred_eq] at hf
  obtain ⟨f0, f1⟩ := hf
  refine Ctr.mk (fn := Try.f86) Try.call86 Try.func86 rfl mixed Try.ntmps86 Try.results86 (by kernel_rfl) rfl fun _ => ?_
  simp only [go_sem, Nat.reduceAdd, Nat.reduceSub, Nat.reduceMul, Nat.reduceLT, Nat.reduceLeDiff, Nat.reduceEqDiff, Nat.succ_ne_zero, reduceIte]
  refine CallK.mk _ (by simpa only [go_sem] using toVal_spec d.v f0) fun _ => ?_
  simp only [go_sem, Nat.reduceAdd, Nat.reduceSub, Nat.reduceMul, Nat.reduceLT, Nat.reduceLeDiff, Nat.reduceEqDiff, Nat.succ_ne_zero, reduceIte]
  refine CallK.mk _ (by simpa only [go_sem] using (toPredS_own d.l f1.1 hx).val (pureE_map DPred.pure)) fun _ => ?_
  simp only [go_sem, Nat.reduceAdd, Nat.reduceSub, Nat.reduceMul, Nat.reduceLT, Nat.reduceLeDiff, Nat.reduceEqDiff, Nat.succ_ne_zero, reduceIte]
theorem toPred_fuel : ∀ (n : Nat) (d : DPred), SizeOf.sizeOf d ≤ n → fitPred d → Ctr Try.prog 86 [.agg d.c] [.val (.agg d.c)]
  | 0, d, h, _ => by cases d; simp at h
  | n + 1, d, h, hf => toPred_of d hf fun x hx => toPred_fuel n x (by
    have h1 : SizeOf.sizeOf x < SizeOf.sizeOf d.l := List.sizeOf_lt_of_mem hx
    have h2 : SizeOf.sizeOf d.l < SizeOf.sizeOf d := by cases d; simp [DPred.l]; omega
    omega) (by rw [fitPred_eq] at hf; exact (hf.2).2 x hx)
theorem toPred_spec (d : DPred) (hf : fitPred d) : Ctr Try.prog 86 [.agg d.c] [.val (.agg d.c)] := toPred_fuel _ d (Nat.le_refl _) hf
theorem toPredS_spec (xs : List DPred) (hf : fitS fitPred xs) : Ctr Try.prog 95 [.c (.sl (xs.map DPred.c))] [.val (.c (.sl (xs.map DPred.c)))] := (toPredS_own xs hf.1 fun x hx => toPred_spec x (hf.2 x hx)).val (pureE_map DPred.pure)
theorem toQuery_spec (d : DQuery) (hf : fitQuery d) : Ctr Try.prog 70 [.agg d.c] [.val (.agg d.c)] := by
  rw [fitQuery_eq] at hf
  obtain ⟨f0, f1⟩ := hf
  refine Ctr.mk (fn := Try.f70) Try.call70 Try.func70 rfl mixed Try.ntmps70 Try.results70 (by kernel_rfl) rfl fun _ => ?_
  simp only [go_sem, Nat.reduceAdd, Nat.reduceSub, Nat.reduceMul, Nat.reduceLT, Nat.reduceLeDiff, Nat.reduceEqDiff, Nat.succ_ne_zero, reduceIte]
  refine CallK.mk _ (by simpa only [go_sem] using toPred_spec d.p f0) fun _ => ?_
  simp only [go_sem, Nat.reduceAdd, Nat.reduceSub, Nat.reduceMul, Nat.reduceLT, Nat.reduceLeDiff, Nat.reduceEqDiff, Nat.succ_ne_zero, reduceIte]
  refine CallK.mk _ (by simpa only [go_sem] using toIntS_spec d.out f1) fun _ => ?_
  simp only [go_sem, Nat.reduceAdd, Nat.reduceSub, Nat.reduceMul, Nat.reduceLT, Nat.reduceLeDiff, Nat.reduceEqDiff, Nat.succ_ne_zero, reduceIte]
theorem toResult_spec (d : DResult) (hf : fitResult d) : Ctr Try.prog 72 [.agg d.c] [.val (.agg d.c)] := by
  rw [fitResult_eq] at hf
  obtain ⟨f0, f1⟩ := hf
  refine Ctr.mk (fn := Try.f72) Try.call72 Try.func72 rfl mixed Try.ntmps72 Try.results72 (by kernel_rfl) rfl fun _ => ?_
  simp only [go_sem, Nat.reduceAdd, Nat.reduceSub, Nat.reduceMul, Nat.reduceLT, Nat.reduceLeDiff, Nat.reduceEqDiff, Nat.succ_ne_zero, reduceIte]
  refine CallK.mk _ (by simpa only [go_sem] using toRowS_spec d.rows f0) fun _ => ?_
  simp only [go_sem, Nat.reduceAdd, Nat.reduceSub, Nat.reduceMul, Nat.reduceLT, Nat.reduceLeDiff, Nat.reduceEqDiff, Nat.succ_ne_zero, reduceIte]
  refine CallK.mk _ (by simpa only [go_sem] using toVal_spec d.v f1) fun _ => ?_
  simp only [go_sem, Nat.reduceAdd, Nat.reduceSub, Nat.reduceMul, Nat.reduceLT, Nat.reduceLeDiff, Nat.reduceEqDiff, Nat.succ_ne_zero, reduceIte]
theorem toSlot_spec (d : DSlot) (hf : fitSlot d) : Ctr Try.prog 94 [.agg d.c] [.val (.agg d.c)] := by
  rw [fitSlot_eq] at hf
  have f0 := hf
  refine Ctr.mk (fn := Try.f94) Try.call94 Try.func94 rfl mixed Try.ntmps94 Try.results94 (by kernel_rfl) rfl fun _ => ?_
  simp only [go_sem, Nat.reduceAdd, Nat.reduceSub, Nat.reduceMul, Nat.reduceLT, Nat.reduceLeDiff, Nat.reduceEqDiff, Nat.succ_ne_zero, reduceIte]
  refine CallK.mk _ (by simpa only [go_sem] using toValS_spec d.l f0) fun _ => ?_
  simp only [go_sem, Nat.reduceAdd, Nat.reduceSub, Nat.reduceMul, Nat.reduceLT, Nat.reduceLeDiff, Nat.reduceEqDiff, Nat.succ_ne_zero, reduceIte]
theorem toSlotS_own (xs : List DSlot) (hf : xs.length ≤ 1048576) (hx : ∀ x ∈ xs, Ctr Try.prog 94 [.agg x.c] [.val (.agg x.c)]) : Ctr Try.prog 84 [.c (.sl (xs.map DSlot.c))] [.own 164 2 (xs.map DSlot.c) true] := by
  refine Ctr.mk (fn := Try.f84) Try.call84 Try.func84 rfl mixed Try.ntmps84 Try.results84 (by kernel_rfl) rfl fun _ => ?_
  have hc : (0 : Int) ≤ xs.length ∧ (xs.length : Int) ≤ xs.length ∧ (xs.length : Int) ≤ 2147483648 := by omega
  simp only [go_sem, Nat.reduceAdd, Nat.reduceSub, Nat.reduceMul, Nat.reduceLT, Nat.reduceLeDiff, Nat.reduceEqDiff, Nat.succ_ne_zero, reduceIte, List.length_map, hc, List.length_replicate]
  have hg := fun k => @trim1_grow _ DSlot.c DSlot.pure [.v (.int .i64 0), .v (.slice none 0 0)] rfl xs k 164 2 true true
  refine LoopK.mk 1 [0, 3, 4] (A := Nat) (fun k => ⟨23, [(0, .c (.sl (xs.map DSlot.c))), (3, .c (.ref 0)), (4, .c (.v (.int .i64 k)))], [⟨164, 2, grow (xs.map DSlot.c) [.v (.int .i64 0), .v (.slice none 0 0)] k, true, true⟩]⟩) (fun k => k ≤ xs.length) (fun k => xs.length - k) 0 ⟨⟨rfl, by have := hg 0; simp only [grow_zero, List.length_map] at this; exact this⟩, by simp only [grow_zero, List.length_map]; rfl, Nat.zero_le _⟩ ?_
  intro k hk
  simp only [go_sem, Nat.reduceAdd, Nat.reduceSub, Nat.reduceMul, Nat.reduceLT, Nat.reduceLeDiff, Nat.reduceEqDiff, Nat.succ_ne_zero, reduceIte, List.length_map]
  refine cndC.mk (fun h => ?_) (fun h => ?_)
  · have hk' : k < xs.length := by simpa using h
    have hset := @grow_setm _ DSlot.c xs [.v (.int .i64 0), .v (.slice none 0 0)] k hk'
    simp only [go_sem] at hset
    simp only [go_sem, Nat.reduceAdd, Nat.reduceSub, Nat.reduceMul, Nat.reduceLT, Nat.reduceLeDiff, Nat.reduceEqDiff, Nat.succ_ne_zero, reduceIte, map_at _ hk', grow_lenm hk, grow_atm hk', hk', hset, wrap_i64 (n := (k : Int) + 1) (by omega) (by omega)]
    refine CallK.mk _ (by simpa only [go_sem] using hx xs[k] (List.getElem_mem hk')) fun _ => ?_
    simp only [go_sem, Nat.reduceAdd, Nat.reduceSub, Nat.reduceMul, Nat.reduceLT, Nat.reduceLeDiff, Nat.reduceEqDiff, Nat.succ_ne_zero, reduceIte, map_at _ hk', grow_lenm hk, grow_atm hk', hk', hset, wrap_i64 (n := (k : Int) + 1) (by omega) (by omega)]
    exact ⟨k + 1, ⟨rfl, hg _⟩, rfl, by omega, by first | omega | (simp only; omega)⟩
  · have hk' : k = xs.length := by simp at h; omega
    subst hk'
    rw [grow_allm]
    simp only [go_sem, Nat.reduceAdd, Nat.reduceSub, Nat.reduceMul, Nat.reduceLT, Nat.reduceLeDiff, Nat.reduceEqDiff, Nat.succ_ne_zero, reduceIte]
    simp [nrE_of_pure (pureE_map DSlot.pure)]
theorem toSlotS_spec (xs : List DSlot) (hf : fitS fitSlot xs) : Ctr Try.prog 84 [.c (.sl (xs.map DSlot.c))] [.val (.c (.sl (xs.map DSlot.c)))] := (toSlotS_own xs hf.1 fun x hx => toSlot_spec x (hf.2 x hx)).val (pureE_map DSlot.pure)
theorem toChunk_spec (d : DChunk) (hf : fitChunk d) : Ctr Try.prog 67 [.agg d.c] [.val (.agg d.c)] := by
  rw [fitChunk_eq] at hf
  have f0 := hf
  refine Ctr.mk (fn := Try.f67) Try.call67 Try.func67 rfl mixed Try.ntmps67 Try.results67 (by kernel_rfl) rfl fun _ => ?_
  simp only [go_sem, Nat.reduceAdd, Nat.reduceSub, Nat.reduceMul, Nat.reduceLT, Nat.reduceLeDiff, Nat.reduceEqDiff, Nat.succ_ne_zero, reduceIte]
  refine CallK.mk _ (by simpa only [go_sem] using toSlotS_spec d.l f0) fun _ => ?_
  simp only [go_sem, Nat.reduceAdd, Nat.reduceSub, Nat.reduceMul, Nat.reduceLT, Nat.reduceLeDiff, Nat.reduceEqDiff, Nat.succ_ne_zero, reduceIte]
theorem toBuf_spec (d : DBuf) (hf : fitBuf d) : Ctr Try.prog 44 [.agg d.c] [.val (.agg d.c)] := by
  rw [fitBuf_eq] at hf
  obtain ⟨f0, f1⟩ := hf
  refine Ctr.mk (fn := Try.f44) Try.call44 Try.func44 rfl mixed Try.ntmps44 Try.results44 (by kernel_rfl) rfl fun _ => ?_
  simp only [go_sem, Nat.reduceAdd, Nat.reduceSub, Nat.reduceMul, Nat.reduceLT, Nat.reduceLeDiff, Nat.reduceEqDiff, Nat.succ_ne_zero, reduceIte]
  refine CallK.mk _ (by simpa only [go_sem] using toChunk_spec d.c0 f0) fun _ => ?_
  simp only [go_sem, Nat.reduceAdd, Nat.reduceSub, Nat.reduceMul, Nat.reduceLT, Nat.reduceLeDiff, Nat.reduceEqDiff, Nat.succ_ne_zero, reduceIte]
  refine CallK.mk _ (by simpa only [go_sem] using toByteS_spec d.g f1) fun _ => ?_
  simp only [go_sem, Nat.reduceAdd, Nat.reduceSub, Nat.reduceMul, Nat.reduceLT, Nat.reduceLeDiff, Nat.reduceEqDiff, Nat.succ_ne_zero, reduceIte]
theorem toBufS_own (xs : List DBuf) (hf : xs.length ≤ 1048576) (hx : ∀ x ∈ xs, Ctr Try.prog 44 [.agg x.c] [.val (.agg x.c)]) : Ctr Try.prog 22 [.c (.sl (xs.map DBuf.c))] [.own 107 5 (xs.map DBuf.c) true] := by
  refine Ctr.mk (fn := Try.f22) Try.call22 Try.func22 rfl mixed Try.ntmps22 Try.results22 (by kernel_rfl) rfl fun _ => ?_
  have hc : (0 : Int) ≤ xs.length ∧ (xs.length : Int) ≤ xs.length ∧ (xs.length : Int) ≤ 2147483648 := by omega
  simp only [go_sem, Nat.reduceAdd, Nat.reduceSub, Nat.reduceMul, Nat.reduceLT, Nat.reduceLeDiff, Nat.reduceEqDiff, Nat.succ_ne_zero, reduceIte, List.length_map, hc, List.length_replicate]
  have hg := fun k => @trim1_grow _ DBuf.c DBuf.pure [.v (.int .i64 0), .v (.int .i64 0), .v (.int .i64 0), .v (.slice none 0 0), .v (.slice none 0 0)] rfl xs k 107 5 true true
  refine LoopK.mk 1 [0, 3, 4] (A := Nat) (fun k => ⟨23, [(0, .c (.sl (xs.map DBuf.c))), (3, .c (.ref 0)), (4, .c (.v (.int .i64 k)))], [⟨107, 5, grow (xs.map DBuf.c) [.v (.int .i64 0), .v (.int .i64 0), .v (.int .i64 0), .v (.slice none 0 0), .v (.slice none 0 0)] k, true, true⟩]⟩) (fun k => k ≤ xs.length) (fun k => xs.length - k) 0 ⟨⟨rfl, by have := hg 0; simp only [grow_zero, List.length_map] at this; exact this⟩, by simp only [grow_zero, List.length_map]; rfl, Nat.zero_le _⟩ ?_
  intro k hk
  simp only [go_sem, Nat.reduceAdd, Nat.reduceSub, Nat.reduceMul, Nat.reduceLT, Nat.reduceLeDiff, Nat.reduceEqDiff, Nat.succ_ne_zero, reduceIte, List.length_map]
  refine cndC.mk (fun h => ?_) (fun h => ?_)
  · have hk' : k < xs.length := by simpa using h
    have hset := @grow_setm _ DBuf.c xs [.v (.int .i64 0), .v (.int .i64 0), .v (.int .i64 0), .v (.slice none 0 0), .v (.slice none 0 0)] k hk'
    simp only [go_sem] at hset
    simp only [go_sem, Nat.reduceAdd, Nat.reduceSub, Nat.reduceMul, Nat.reduceLT, Nat.reduceLeDiff, Nat.reduceEqDiff, Nat.succ_ne_zero, reduceIte, map_at _ hk', grow_lenm hk, grow_atm hk', hk', hset, wrap_i64 (n := (k : Int) + 1) (by omega) (by omega)]
    refine CallK.mk _ (by simpa only [go_sem] using hx xs[k] (List.getElem_mem hk')) fun _ => ?_
    simp only [go_sem, Nat.reduceAdd, Nat.reduceSub, Nat.reduceMul, Nat.reduceLT, Nat.reduceLeDiff, Nat.reduceEqDiff, Nat.succ_ne_zero, reduceIte, map_at _ hk', grow_lenm hk, grow_atm hk', hk', hset, wrap_i64 (n := (k : Int) + 1) (by omega) (by omega)]
    exact ⟨k + 1, ⟨rfl, hg _⟩, rfl, by omega, by first | omega | (simp only; omega)⟩
  · have hk' : k = xs.length := by simp at h; omega
    subst hk'
    rw [grow_allm]
    simp only [go_sem, Nat.reduceAdd, Nat.reduceSub, Nat.reduceMul, Nat.reduceLT, Nat.reduceLeDiff, Nat.reduceEqDiff, Nat.succ_ne_zero, reduceIte]
    simp [nrE_of_pure (pureE_map DBuf.pure)]
theorem toBufS_spec (xs : List DBuf) (hf : fitS fitBuf xs) : Ctr Try.prog 22 [.c (.sl (xs.map DBuf.c))] [.val (.c (.sl (xs.map DBuf.c)))] := (toBufS_own xs hf.1 fun x hx => toBuf_spec x (hf.2 x hx)).val (pureE_map DBuf.pure)
theorem toDead_spec (d : DDead) : Ctr Try.prog 45 [.agg d.c] [.val (.agg d.c)] := by
  refine Ctr.mk (fn := Try.f45) Try.call45 Try.func45 rfl mixed Try.ntmps45 Try.results45 (by kernel_rfl) rfl fun _ => ?_
  simp only [go_sem, Nat.reduceAdd, Nat.reduceSub, Nat.reduceMul, Nat.reduceLT, Nat.reduceLeDiff, Nat.reduceEqDiff, Nat.succ_ne_zero, reduceIte]
theorem toDeadS_own (xs : List DDead) (hf : xs.length ≤ 1048576) (hx : ∀ x ∈ xs, Ctr Try.prog 45 [.agg x.c] [.val (.agg x.c)]) : Ctr Try.prog 24 [.c (.sl (xs.map DDead.c))] [.own 110 3 (xs.map DDead.c) true] := by
  refine Ctr.mk (fn := Try.f24) Try.call24 Try.func24 rfl mixed Try.ntmps24 Try.results24 (by kernel_rfl) rfl fun _ => ?_
  have hc : (0 : Int) ≤ xs.length ∧ (xs.length : Int) ≤ xs.length ∧ (xs.length : Int) ≤ 2147483648 := by omega
  simp only [go_sem, Nat.reduceAdd, Nat.reduceSub, Nat.reduceMul, Nat.reduceLT, Nat.reduceLeDiff, Nat.reduceEqDiff, Nat.succ_ne_zero, reduceIte, List.length_map, hc, List.length_replicate]
  have hg := fun k => @trim1_grow _ DDead.c DDead.pure [.v (.int .i64 0), .v (.int .i64 0), .v (.int .i64 0)] rfl xs k 110 3 true true
  refine LoopK.mk 1 [0, 3, 4] (A := Nat) (fun k => ⟨23, [(0, .c (.sl (xs.map DDead.c))), (3, .c (.ref 0)), (4, .c (.v (.int .i64 k)))], [⟨110, 3, grow (xs.map DDead.c) [.v (.int .i64 0), .v (.int .i64 0), .v (.int .i64 0)] k, true, true⟩]⟩) (fun k => k ≤ xs.length) (fun k => xs.length - k) 0 ⟨⟨rfl, by have := hg 0; simp only [grow_zero, List.length_map] at this; exact this⟩, by simp only [grow_zero, List.length_map]; rfl, Nat.zero_le _⟩ ?_
  intro k hk
  simp only [go_sem, Nat.reduceAdd, Nat.reduceSub, Nat.reduceMul, Nat.reduceLT, Nat.reduceLeDiff, Nat.reduceEqDiff, Nat.succ_ne_zero, reduceIte, List.length_map]
  refine cndC.mk (fun h => ?_) (fun h => ?_)
  · have hk' : k < xs.length := by simpa using h
    have hset := @grow_setm _ DDead.c xs [.v (.int .i64 0), .v (.int .i64 0), .v (.int .i64 0)] k hk'
    simp only [go_sem] at hset
    simp only [go_sem, Nat.reduceAdd, Nat.reduceSub, Nat.reduceMul, Nat.reduceLT, Nat.reduceLeDiff, Nat.reduceEqDiff, Nat.succ_ne_zero, reduceIte, map_at _ hk', grow_lenm hk, grow_atm hk', hk', hset, wrap_i64 (n := (k : Int) + 1) (by omega) (by omega)]
    refine CallK.mk _ (by simpa only [go_sem] using hx xs[k] (List.getElem_mem hk')) fun _ => ?_
    simp only [go_sem, Nat.reduceAdd, Nat.reduceSub, Nat.reduceMul, Nat.reduceLT, Nat.reduceLeDiff, Nat.reduceEqDiff, Nat.succ_ne_zero, reduceIte, map_at _ hk', grow_lenm hk, grow_atm hk', hk', hset, wrap_i64 (n := (k : Int) + 1) (by omega) (by omega)]
    exact ⟨k + 1, ⟨rfl, hg _⟩, rfl, by omega, by first | omega | (simp only; omega)⟩
  · have hk' : k = xs.length := by simp at h; omega
    subst hk'
    rw [grow_allm]
    simp only [go_sem, Nat.reduceAdd, Nat.reduceSub, Nat.reduceMul, Nat.reduceLT, Nat.reduceLeDiff, Nat.reduceEqDiff, Nat.succ_ne_zero, reduceIte]
    simp [nrE_of_pure (pureE_map DDead.pure)]
theorem toDeadS_spec (xs : List DDead) (hf : xs.length ≤ 1048576) : Ctr Try.prog 24 [.c (.sl (xs.map DDead.c))] [.val (.c (.sl (xs.map DDead.c)))] := (toDeadS_own xs hf fun x _ => toDead_spec x).val (pureE_map DDead.pure)
theorem toRef_spec (d : DRef) : Ctr Try.prog 66 [.agg d.c] [.val (.agg d.c)] := by
  refine Ctr.mk (fn := Try.f66) Try.call66 Try.func66 rfl mixed Try.ntmps66 Try.results66 (by kernel_rfl) rfl fun _ => ?_
  simp only [go_sem, Nat.reduceAdd, Nat.reduceSub, Nat.reduceMul, Nat.reduceLT, Nat.reduceLeDiff, Nat.reduceEqDiff, Nat.succ_ne_zero, reduceIte]
theorem toRefS_own (xs : List DRef) (hf : xs.length ≤ 1048576) (hx : ∀ x ∈ xs, Ctr Try.prog 66 [.agg x.c] [.val (.agg x.c)]) : Ctr Try.prog 43 [.c (.sl (xs.map DRef.c))] [.own 147 5 (xs.map DRef.c) true] := by
  refine Ctr.mk (fn := Try.f43) Try.call43 Try.func43 rfl mixed Try.ntmps43 Try.results43 (by kernel_rfl) rfl fun _ => ?_
  have hc : (0 : Int) ≤ xs.length ∧ (xs.length : Int) ≤ xs.length ∧ (xs.length : Int) ≤ 2147483648 := by omega
  simp only [go_sem, Nat.reduceAdd, Nat.reduceSub, Nat.reduceMul, Nat.reduceLT, Nat.reduceLeDiff, Nat.reduceEqDiff, Nat.succ_ne_zero, reduceIte, List.length_map, hc, List.length_replicate]
  have hg := fun k => @trim1_grow _ DRef.c DRef.pure [.v (.int .i64 0), .v (.int .i64 0), .v (.int .i64 0), .v (.int .i64 0), .v (.int .i64 0)] rfl xs k 147 5 true true
  refine LoopK.mk 1 [0, 3, 4] (A := Nat) (fun k => ⟨23, [(0, .c (.sl (xs.map DRef.c))), (3, .c (.ref 0)), (4, .c (.v (.int .i64 k)))], [⟨147, 5, grow (xs.map DRef.c) [.v (.int .i64 0), .v (.int .i64 0), .v (.int .i64 0), .v (.int .i64 0), .v (.int .i64 0)] k, true, true⟩]⟩) (fun k => k ≤ xs.length) (fun k => xs.length - k) 0 ⟨⟨rfl, by have := hg 0; simp only [grow_zero, List.length_map] at this; exact this⟩, by simp only [grow_zero, List.length_map]; rfl, Nat.zero_le _⟩ ?_
  intro k hk
  simp only [go_sem, Nat.reduceAdd, Nat.reduceSub, Nat.reduceMul, Nat.reduceLT, Nat.reduceLeDiff, Nat.reduceEqDiff, Nat.succ_ne_zero, reduceIte, List.length_map]
  refine cndC.mk (fun h => ?_) (fun h => ?_)
  · have hk' : k < xs.length := by simpa using h
    have hset := @grow_setm _ DRef.c xs [.v (.int .i64 0), .v (.int .i64 0), .v (.int .i64 0), .v (.int .i64 0), .v (.int .i64 0)] k hk'
    simp only [go_sem] at hset
    simp only [go_sem, Nat.reduceAdd, Nat.reduceSub, Nat.reduceMul, Nat.reduceLT, Nat.reduceLeDiff, Nat.reduceEqDiff, Nat.succ_ne_zero, reduceIte, map_at _ hk', grow_lenm hk, grow_atm hk', hk', hset, wrap_i64 (n := (k : Int) + 1) (by omega) (by omega)]
    refine CallK.mk _ (by simpa only [go_sem] using hx xs[k] (List.getElem_mem hk')) fun _ => ?_
    simp only [go_sem, Nat.reduceAdd, Nat.reduceSub, Nat.reduceMul, Nat.reduceLT, Nat.reduceLeDiff, Nat.reduceEqDiff, Nat.succ_ne_zero, reduceIte, map_at _ hk', grow_lenm hk, grow_atm hk', hk', hset, wrap_i64 (n := (k : Int) + 1) (by omega) (by omega)]
    exact ⟨k + 1, ⟨rfl, hg _⟩, rfl, by omega, by first | omega | (simp only; omega)⟩
  · have hk' : k = xs.length := by simp at h; omega
    subst hk'
    rw [grow_allm]
    simp only [go_sem, Nat.reduceAdd, Nat.reduceSub, Nat.reduceMul, Nat.reduceLT, Nat.reduceLeDiff, Nat.reduceEqDiff, Nat.succ_ne_zero, reduceIte]
    simp [nrE_of_pure (pureE_map DRef.pure)]
theorem toRefS_spec (xs : List DRef) (hf : xs.length ≤ 1048576) : Ctr Try.prog 43 [.c (.sl (xs.map DRef.c))] [.val (.c (.sl (xs.map DRef.c)))] := (toRefS_own xs hf fun x _ => toRef_spec x).val (pureE_map DRef.pure)
theorem toDir_spec (d : DDir) (hf : fitDir d) : Ctr Try.prog 21 [.agg d.c] [.val (.agg d.c)] := by
  rw [fitDir_eq] at hf
  have f0 := hf
  refine Ctr.mk (fn := Try.f21) Try.call21 Try.func21 rfl mixed Try.ntmps21 Try.results21 (by kernel_rfl) rfl fun _ => ?_
  simp only [go_sem, Nat.reduceAdd, Nat.reduceSub, Nat.reduceMul, Nat.reduceLT, Nat.reduceLeDiff, Nat.reduceEqDiff, Nat.succ_ne_zero, reduceIte]
  refine CallK.mk _ (by simpa only [go_sem] using toRefS_spec d.l f0) fun _ => ?_
  simp only [go_sem, Nat.reduceAdd, Nat.reduceSub, Nat.reduceMul, Nat.reduceLT, Nat.reduceLeDiff, Nat.reduceEqDiff, Nat.succ_ne_zero, reduceIte]
theorem toTask_spec (d : DTask) (hf : fitTask d) : Ctr Try.prog 46 [.agg d.c] [.val (.agg d.c)] := by
  rw [fitTask_eq] at hf
  obtain ⟨f0, f1, f2, f3⟩ := hf
  refine Ctr.mk (fn := Try.f46) Try.call46 Try.func46 rfl mixed Try.ntmps46 Try.results46 (by kernel_rfl) rfl fun _ => ?_
  simp only [go_sem, Nat.reduceAdd, Nat.reduceSub, Nat.reduceMul, Nat.reduceLT, Nat.reduceLeDiff, Nat.reduceEqDiff, Nat.succ_ne_zero, reduceIte]
  refine CallK.mk _ (by simpa only [go_sem] using toValS_spec d.r f0) fun _ => ?_
  simp only [go_sem, Nat.reduceAdd, Nat.reduceSub, Nat.reduceMul, Nat.reduceLT, Nat.reduceLeDiff, Nat.reduceEqDiff, Nat.succ_ne_zero, reduceIte]
  refine CallK.mk _ (by simpa only [go_sem] using toQuery_spec d.q f1) fun _ => ?_
  simp only [go_sem, Nat.reduceAdd, Nat.reduceSub, Nat.reduceMul, Nat.reduceLT, Nat.reduceLeDiff, Nat.reduceEqDiff, Nat.succ_ne_zero, reduceIte]
  refine CallK.mk _ (by simpa only [go_sem] using toRefS_spec d.l f2) fun _ => ?_
  simp only [go_sem, Nat.reduceAdd, Nat.reduceSub, Nat.reduceMul, Nat.reduceLT, Nat.reduceLeDiff, Nat.reduceEqDiff, Nat.succ_ne_zero, reduceIte]
  refine CallK.mk _ (by simpa only [go_sem] using toRowS_spec d.got f3) fun _ => ?_
  simp only [go_sem, Nat.reduceAdd, Nat.reduceSub, Nat.reduceMul, Nat.reduceLT, Nat.reduceLeDiff, Nat.reduceEqDiff, Nat.succ_ne_zero, reduceIte]
theorem toTaskS_own (xs : List DTask) (hf : xs.length ≤ 1048576) (hx : ∀ x ∈ xs, Ctr Try.prog 46 [.agg x.c] [.val (.agg x.c)]) : Ctr Try.prog 25 [.c (.sl (xs.map DTask.c))] [.own 122 25 (xs.map DTask.c) true] := by
  refine Ctr.mk (fn := Try.f25) Try.call25 Try.func25 rfl mixed Try.ntmps25 Try.results25 (by kernel_rfl) rfl fun _ => ?_
  have hc : (0 : Int) ≤ xs.length ∧ (xs.length : Int) ≤ xs.length ∧ (xs.length : Int) ≤ 2147483648 := by omega
  simp only [go_sem, Nat.reduceAdd, Nat.reduceSub, Nat.reduceMul, Nat.reduceLT, Nat.reduceLeDiff, Nat.reduceEqDiff, Nat.succ_ne_zero, reduceIte, List.length_map, hc, List.length_replicate]
  have hg := fun k => @trim1_grow _ DTask.c DTask.pure [.v (.int .i64 0), .v (.int .i64 0), .v (.int .i64 0), .v (.slice none 0 0), .v (.int .i64 0), .v (.int .i64 0), .v (.int .i64 0), .v (.int .i64 0), .v (.int .i64 0), .v (.int .i64 0), .v (.int .i64 0), .v (.string ByteArray.empty), .v (.slice none 0 0), .v (.int .i64 0), .v (.slice none 0 0), .v (.int .i64 0), .v (.int .i64 0), .v (.slice none 0 0), .v (.int .i64 0), .v (.int .i64 0), .v (.int .i64 0), .v (.int .i64 0), .v (.int .i64 0), .v (.bool false), .v (.slice none 0 0)] rfl xs k 122 25 true true
  refine LoopK.mk 1 [0, 3, 4] (A := Nat) (fun k => ⟨23, [(0, .c (.sl (xs.map DTask.c))), (3, .c (.ref 0)), (4, .c (.v (.int .i64 k)))], [⟨122, 25, grow (xs.map DTask.c) [.v (.int .i64 0), .v (.int .i64 0), .v (.int .i64 0), .v (.slice none 0 0), .v (.int .i64 0), .v (.int .i64 0), .v (.int .i64 0), .v (.int .i64 0), .v (.int .i64 0), .v (.int .i64 0), .v (.int .i64 0), .v (.string ByteArray.empty), .v (.slice none 0 0), .v (.int .i64 0), .v (.slice none 0 0), .v (.int .i64 0), .v (.int .i64 0), .v (.slice none 0 0), .v (.int .i64 0), .v (.int .i64 0), .v (.int .i64 0), .v (.int .i64 0), .v (.int .i64 0), .v (.bool false), .v (.slice none 0 0)] k, true, true⟩]⟩) (fun k => k ≤ xs.length) (fun k => xs.length - k) 0 ⟨⟨rfl, by have := hg 0; simp only [grow_zero, List.length_map] at this; exact this⟩, by simp only [grow_zero, List.length_map]; rfl, Nat.zero_le _⟩ ?_
  intro k hk
  simp only [go_sem, Nat.reduceAdd, Nat.reduceSub, Nat.reduceMul, Nat.reduceLT, Nat.reduceLeDiff, Nat.reduceEqDiff, Nat.succ_ne_zero, reduceIte, List.length_map]
  refine cndC.mk (fun h => ?_) (fun h => ?_)
  · have hk' : k < xs.length := by simpa using h
    have hset := @grow_setm _ DTask.c xs [.v (.int .i64 0), .v (.int .i64 0), .v (.int .i64 0), .v (.slice none 0 0), .v (.int .i64 0), .v (.int .i64 0), .v (.int .i64 0), .v (.int .i64 0), .v (.int .i64 0), .v (.int .i64 0), .v (.int .i64 0), .v (.string ByteArray.empty), .v (.slice none 0 0), .v (.int .i64 0), .v (.slice none 0 0), .v (.int .i64 0), .v (.int .i64 0), .v (.slice none 0 0), .v (.int .i64 0), .v (.int .i64 0), .v (.int .i64 0), .v (.int .i64 0), .v (.int .i64 0), .v (.bool false), .v (.slice none 0 0)] k hk'
    simp only [go_sem] at hset
    simp only [go_sem, Nat.reduceAdd, Nat.reduceSub, Nat.reduceMul, Nat.reduceLT, Nat.reduceLeDiff, Nat.reduceEqDiff, Nat.succ_ne_zero, reduceIte, map_at _ hk', grow_lenm hk, grow_atm hk', hk', hset, wrap_i64 (n := (k : Int) + 1) (by omega) (by omega)]
    refine CallK.mk _ (by simpa only [go_sem] using hx xs[k] (List.getElem_mem hk')) fun _ => ?_
    simp only [go_sem, Nat.reduceAdd, Nat.reduceSub, Nat.reduceMul, Nat.reduceLT, Nat.reduceLeDiff, Nat.reduceEqDiff, Nat.succ_ne_zero, reduceIte, map_at _ hk', grow_lenm hk, grow_atm hk', hk', hset, wrap_i64 (n := (k : Int) + 1) (by omega) (by omega)]
    exact ⟨k + 1, ⟨rfl, hg _⟩, rfl, by omega, by first | omega | (simp only; omega)⟩
  · have hk' : k = xs.length := by simp at h; omega
    subst hk'
    rw [grow_allm]
    simp only [go_sem, Nat.reduceAdd, Nat.reduceSub, Nat.reduceMul, Nat.reduceLT, Nat.reduceLeDiff, Nat.reduceEqDiff, Nat.succ_ne_zero, reduceIte]
    simp [nrE_of_pure (pureE_map DTask.pure)]
theorem toTaskS_spec (xs : List DTask) (hf : fitS fitTask xs) : Ctr Try.prog 25 [.c (.sl (xs.map DTask.c))] [.val (.c (.sl (xs.map DTask.c)))] := (toTaskS_own xs hf.1 fun x hx => toTask_spec x (hf.2 x hx)).val (pureE_map DTask.pure)
theorem toDeed_spec (d : DDeed) (hf : fitDeed d) : Ctr Try.prog 47 [.agg d.c] [.val (.agg d.c)] := by
  rw [fitDeed_eq] at hf
  obtain ⟨f0, f1, f2⟩ := hf
  refine Ctr.mk (fn := Try.f47) Try.call47 Try.func47 rfl mixed Try.ntmps47 Try.results47 (by kernel_rfl) rfl fun _ => ?_
  simp only [go_sem, Nat.reduceAdd, Nat.reduceSub, Nat.reduceMul, Nat.reduceLT, Nat.reduceLeDiff, Nat.reduceEqDiff, Nat.succ_ne_zero, reduceIte]
  refine CallK.mk _ (by simpa only [go_sem] using toValS_spec d.r f0) fun _ => ?_
  simp only [go_sem, Nat.reduceAdd, Nat.reduceSub, Nat.reduceMul, Nat.reduceLT, Nat.reduceLeDiff, Nat.reduceEqDiff, Nat.succ_ne_zero, reduceIte]
  refine CallK.mk _ (by simpa only [go_sem] using toQuery_spec d.q f1) fun _ => ?_
  simp only [go_sem, Nat.reduceAdd, Nat.reduceSub, Nat.reduceMul, Nat.reduceLT, Nat.reduceLeDiff, Nat.reduceEqDiff, Nat.succ_ne_zero, reduceIte]
  refine CallK.mk _ (by simpa only [go_sem] using toResult_spec d.res f2) fun _ => ?_
  simp only [go_sem, Nat.reduceAdd, Nat.reduceSub, Nat.reduceMul, Nat.reduceLT, Nat.reduceLeDiff, Nat.reduceEqDiff, Nat.succ_ne_zero, reduceIte]
theorem toDeedS_own (xs : List DDeed) (hf : xs.length ≤ 1048576) (hx : ∀ x ∈ xs, Ctr Try.prog 47 [.agg x.c] [.val (.agg x.c)]) : Ctr Try.prog 26 [.c (.sl (xs.map DDeed.c))] [.own 127 25 (xs.map DDeed.c) true] := by
  refine Ctr.mk (fn := Try.f26) Try.call26 Try.func26 rfl mixed Try.ntmps26 Try.results26 (by kernel_rfl) rfl fun _ => ?_
  have hc : (0 : Int) ≤ xs.length ∧ (xs.length : Int) ≤ xs.length ∧ (xs.length : Int) ≤ 2147483648 := by omega
  simp only [go_sem, Nat.reduceAdd, Nat.reduceSub, Nat.reduceMul, Nat.reduceLT, Nat.reduceLeDiff, Nat.reduceEqDiff, Nat.succ_ne_zero, reduceIte, List.length_map, hc, List.length_replicate]
  have hg := fun k => @trim1_grow _ DDeed.c DDeed.pure [.v (.int .i64 0), .v (.int .i64 0), .v (.slice none 0 0), .v (.int .i64 0), .v (.int .i64 0), .v (.int .i64 0), .v (.int .i64 0), .v (.int .i64 0), .v (.int .i64 0), .v (.int .i64 0), .v (.string ByteArray.empty), .v (.slice none 0 0), .v (.int .i64 0), .v (.slice none 0 0), .v (.slice none 0 0), .v (.int .i64 0), .v (.bool false), .v (.int .i64 0), .v (.int .i64 0), .v (.string ByteArray.empty), .v (.int .i64 0), .v (.int .i64 0), .v (.int .i64 0), .v (.int .i64 0), .v (.int .i64 0)] rfl xs k 127 25 true true
  refine LoopK.mk 1 [0, 3, 4] (A := Nat) (fun k => ⟨23, [(0, .c (.sl (xs.map DDeed.c))), (3, .c (.ref 0)), (4, .c (.v (.int .i64 k)))], [⟨127, 25, grow (xs.map DDeed.c) [.v (.int .i64 0), .v (.int .i64 0), .v (.slice none 0 0), .v (.int .i64 0), .v (.int .i64 0), .v (.int .i64 0), .v (.int .i64 0), .v (.int .i64 0), .v (.int .i64 0), .v (.int .i64 0), .v (.string ByteArray.empty), .v (.slice none 0 0), .v (.int .i64 0), .v (.slice none 0 0), .v (.slice none 0 0), .v (.int .i64 0), .v (.bool false), .v (.int .i64 0), .v (.int .i64 0), .v (.string ByteArray.empty), .v (.int .i64 0), .v (.int .i64 0), .v (.int .i64 0), .v (.int .i64 0), .v (.int .i64 0)] k, true, true⟩]⟩) (fun k => k ≤ xs.length) (fun k => xs.length - k) 0 ⟨⟨rfl, by have := hg 0; simp only [grow_zero, List.length_map] at this; exact this⟩, by simp only [grow_zero, List.length_map]; rfl, Nat.zero_le _⟩ ?_
  intro k hk
  simp only [go_sem, Nat.reduceAdd, Nat.reduceSub, Nat.reduceMul, Nat.reduceLT, Nat.reduceLeDiff, Nat.reduceEqDiff, Nat.succ_ne_zero, reduceIte, List.length_map]
  refine cndC.mk (fun h => ?_) (fun h => ?_)
  · have hk' : k < xs.length := by simpa using h
    have hset := @grow_setm _ DDeed.c xs [.v (.int .i64 0), .v (.int .i64 0), .v (.slice none 0 0), .v (.int .i64 0), .v (.int .i64 0), .v (.int .i64 0), .v (.int .i64 0), .v (.int .i64 0), .v (.int .i64 0), .v (.int .i64 0), .v (.string ByteArray.empty), .v (.slice none 0 0), .v (.int .i64 0), .v (.slice none 0 0), .v (.slice none 0 0), .v (.int .i64 0), .v (.bool false), .v (.int .i64 0), .v (.int .i64 0), .v (.string ByteArray.empty), .v (.int .i64 0), .v (.int .i64 0), .v (.int .i64 0), .v (.int .i64 0), .v (.int .i64 0)] k hk'
    simp only [go_sem] at hset
    simp only [go_sem, Nat.reduceAdd, Nat.reduceSub, Nat.reduceMul, Nat.reduceLT, Nat.reduceLeDiff, Nat.reduceEqDiff, Nat.succ_ne_zero, reduceIte, map_at _ hk', grow_lenm hk, grow_atm hk', hk', hset, wrap_i64 (n := (k : Int) + 1) (by omega) (by omega)]
    refine CallK.mk _ (by simpa only [go_sem] using hx xs[k] (List.getElem_mem hk')) fun _ => ?_
    simp only [go_sem, Nat.reduceAdd, Nat.reduceSub, Nat.reduceMul, Nat.reduceLT, Nat.reduceLeDiff, Nat.reduceEqDiff, Nat.succ_ne_zero, reduceIte, map_at _ hk', grow_lenm hk, grow_atm hk', hk', hset, wrap_i64 (n := (k : Int) + 1) (by omega) (by omega)]
    exact ⟨k + 1, ⟨rfl, hg _⟩, rfl, by omega, by first | omega | (simp only; omega)⟩
  · have hk' : k = xs.length := by simp at h; omega
    subst hk'
    rw [grow_allm]
    simp only [go_sem, Nat.reduceAdd, Nat.reduceSub, Nat.reduceMul, Nat.reduceLT, Nat.reduceLeDiff, Nat.reduceEqDiff, Nat.succ_ne_zero, reduceIte]
    simp [nrE_of_pure (pureE_map DDeed.pure)]
theorem toDeedS_spec (xs : List DDeed) (hf : fitS fitDeed xs) : Ctr Try.prog 26 [.c (.sl (xs.map DDeed.c))] [.val (.c (.sl (xs.map DDeed.c)))] := (toDeedS_own xs hf.1 fun x hx => toDeed_spec x (hf.2 x hx)).val (pureE_map DDeed.pure)
theorem toConf_spec (d : DConf) (hf : fitConf d) : Ctr Try.prog 20 [.agg d.c] [.val (.agg d.c)] := by
  rw [fitConf_eq] at hf
  have f0 := hf
  refine Ctr.mk (fn := Try.f20) Try.call20 Try.func20 rfl mixed Try.ntmps20 Try.results20 (by kernel_rfl) rfl fun _ => ?_
  simp only [go_sem, Nat.reduceAdd, Nat.reduceSub, Nat.reduceMul, Nat.reduceLT, Nat.reduceLeDiff, Nat.reduceEqDiff, Nat.succ_ne_zero, reduceIte]
  refine CallK.mk _ (by simpa only [go_sem] using toIntS_spec d.cols f0) fun _ => ?_
  simp only [go_sem, Nat.reduceAdd, Nat.reduceSub, Nat.reduceMul, Nat.reduceLT, Nat.reduceLeDiff, Nat.reduceEqDiff, Nat.succ_ne_zero, reduceIte]
theorem toWorld_spec (d : DWorld) (hf : fitWorld d) : Ctr Try.prog 6 [.agg d.c] [.val (.agg d.c)] := by
  rw [fitWorld_eq] at hf
  obtain ⟨f0, f1, f2, f3, f4, f5, f6, f7⟩ := hf
  refine Ctr.mk (fn := Try.f6) Try.call6 Try.func6 rfl mixed Try.ntmps6 Try.results6 (by kernel_rfl) rfl fun _ => ?_
  simp only [go_sem, Nat.reduceAdd, Nat.reduceSub, Nat.reduceMul, Nat.reduceLT, Nat.reduceLeDiff, Nat.reduceEqDiff, Nat.succ_ne_zero, reduceIte]
  refine CallK.mk _ (by simpa only [go_sem] using toConf_spec d.c0 f0) fun _ => ?_
  simp only [go_sem, Nat.reduceAdd, Nat.reduceSub, Nat.reduceMul, Nat.reduceLT, Nat.reduceLeDiff, Nat.reduceEqDiff, Nat.succ_ne_zero, reduceIte]
  refine CallK.mk _ (by simpa only [go_sem] using toDir_spec d.d f1) fun _ => ?_
  simp only [go_sem, Nat.reduceAdd, Nat.reduceSub, Nat.reduceMul, Nat.reduceLT, Nat.reduceLeDiff, Nat.reduceEqDiff, Nat.succ_ne_zero, reduceIte]
  refine CallK.mk _ (by simpa only [go_sem] using toBufS_spec d.b f2) fun _ => ?_
  simp only [go_sem, Nat.reduceAdd, Nat.reduceSub, Nat.reduceMul, Nat.reduceLT, Nat.reduceLeDiff, Nat.reduceEqDiff, Nat.succ_ne_zero, reduceIte]
  refine CallK.mk _ (by simpa only [go_sem] using toIntS_spec d.m f3) fun _ => ?_
  simp only [go_sem, Nat.reduceAdd, Nat.reduceSub, Nat.reduceMul, Nat.reduceLT, Nat.reduceLeDiff, Nat.reduceEqDiff, Nat.succ_ne_zero, reduceIte]
  refine CallK.mk _ (by simpa only [go_sem] using toDeadS_spec d.x f4) fun _ => ?_
  simp only [go_sem, Nat.reduceAdd, Nat.reduceSub, Nat.reduceMul, Nat.reduceLT, Nat.reduceLeDiff, Nat.reduceEqDiff, Nat.succ_ne_zero, reduceIte]
  refine CallK.mk _ (by simpa only [go_sem] using toIntS_spec d.p f5) fun _ => ?_
  simp only [go_sem, Nat.reduceAdd, Nat.reduceSub, Nat.reduceMul, Nat.reduceLT, Nat.reduceLeDiff, Nat.reduceEqDiff, Nat.succ_ne_zero, reduceIte]
  refine CallK.mk _ (by simpa only [go_sem] using toTaskS_spec d.tasks f6) fun _ => ?_
  simp only [go_sem, Nat.reduceAdd, Nat.reduceSub, Nat.reduceMul, Nat.reduceLT, Nat.reduceLeDiff, Nat.reduceEqDiff, Nat.succ_ne_zero, reduceIte]
  refine CallK.mk _ (by simpa only [go_sem] using toDeedS_spec d.deeds f7) fun _ => ?_
  simp only [go_sem, Nat.reduceAdd, Nat.reduceSub, Nat.reduceMul, Nat.reduceLT, Nat.reduceLeDiff, Nat.reduceEqDiff, Nat.succ_ne_zero, reduceIte]
theorem eqIntS_spec (xs : List Int) : Ctr Try.prog 8 [.c (.sl (xs.map intC)), .c (.sl (xs.map intC))] [.val (.c (.v (.bool true)))] := by
  refine Ctr.mk (fn := Try.f8) Try.call8 Try.func8 rfl mixed Try.ntmps8 Try.results8 (by kernel_rfl) rfl fun hw => ?_
  have hlen : xs.length ≤ 9223372036854775807 := by have := hw.1.1; simpa [Go.maxLen] using this
  simp only [go_sem, Nat.reduceAdd, Nat.reduceSub, Nat.reduceMul, Nat.reduceLT, Nat.reduceLeDiff, Nat.reduceEqDiff, Nat.succ_ne_zero, reduceIte, List.length_map, bne_self_eq_false, beq_self_eq_true]
  refine LoopK.mk 0 [0, 1, 5] (A := Nat) (fun k => ⟨26, [(0, .c (.sl (xs.map intC))), (1, .c (.sl (xs.map intC))), (5, .c (.v (.int .i64 k)))], []⟩) (fun k => k ≤ xs.length) (fun k => xs.length - k) 0 ⟨⟨rfl, rfl⟩, rfl, Nat.zero_le _⟩ ?_
  intro k hk
  simp only [go_sem, Nat.reduceAdd, Nat.reduceSub, Nat.reduceMul, Nat.reduceLT, Nat.reduceLeDiff, Nat.reduceEqDiff, Nat.succ_ne_zero, reduceIte, List.length_map]
  refine cndC.mk (fun h => ?_) (fun h => ?_)
  · have hk' : k < xs.length := by simpa using h
    simp only [go_sem, Nat.reduceAdd, Nat.reduceSub, Nat.reduceMul, Nat.reduceLT, Nat.reduceLeDiff, Nat.reduceEqDiff, Nat.succ_ne_zero, reduceIte]
    refine DrawK.mk ?_
    simp only [go_sem, Nat.reduceAdd, Nat.reduceSub, Nat.reduceMul, Nat.reduceLT, Nat.reduceLeDiff, Nat.reduceEqDiff, Nat.succ_ne_zero, reduceIte, List.length_map, bne_self_eq_false, beq_self_eq_true, map_at _ hk', hk', wrap_i64 (n := (k : Int) + 1) (by omega) (by omega)]
    exact ⟨k + 1, ⟨rfl, rfl⟩, rfl, by omega, by first | omega | (simp only; omega)⟩
  · simp only [go_sem, Nat.reduceAdd, Nat.reduceSub, Nat.reduceMul, Nat.reduceLT, Nat.reduceLeDiff, Nat.reduceEqDiff, Nat.succ_ne_zero, reduceIte]
theorem eqByteS_spec (xs : List Int) : Ctr Try.prog 75 [.c (.sl (xs.map byteC)), .c (.sl (xs.map byteC))] [.val (.c (.v (.bool true)))] := by
  refine Ctr.mk (fn := Try.f75) Try.call75 Try.func75 rfl mixed Try.ntmps75 Try.results75 (by kernel_rfl) rfl fun hw => ?_
  have hlen : xs.length ≤ 9223372036854775807 := by have := hw.1.1; simpa [Go.maxLen] using this
  simp only [go_sem, Nat.reduceAdd, Nat.reduceSub, Nat.reduceMul, Nat.reduceLT, Nat.reduceLeDiff, Nat.reduceEqDiff, Nat.succ_ne_zero, reduceIte, List.length_map, bne_self_eq_false, beq_self_eq_true]
  refine LoopK.mk 0 [0, 1, 5] (A := Nat) (fun k => ⟨26, [(0, .c (.sl (xs.map byteC))), (1, .c (.sl (xs.map byteC))), (5, .c (.v (.int .i64 k)))], []⟩) (fun k => k ≤ xs.length) (fun k => xs.length - k) 0 ⟨⟨rfl, rfl⟩, rfl, Nat.zero_le _⟩ ?_
  intro k hk
  simp only [go_sem, Nat.reduceAdd, Nat.reduceSub, Nat.reduceMul, Nat.reduceLT, Nat.reduceLeDiff, Nat.reduceEqDiff, Nat.succ_ne_zero, reduceIte, List.length_map]
  refine cndC.mk (fun h => ?_) (fun h => ?_)
  · have hk' : k < xs.length := by simpa using h
    simp only [go_sem, Nat.reduceAdd, Nat.reduceSub, Nat.reduceMul, Nat.reduceLT, Nat.reduceLeDiff, Nat.reduceEqDiff, Nat.succ_ne_zero, reduceIte]
    refine DrawK.mk ?_
    simp only [go_sem, Nat.reduceAdd, Nat.reduceSub, Nat.reduceMul, Nat.reduceLT, Nat.reduceLeDiff, Nat.reduceEqDiff, Nat.succ_ne_zero, reduceIte, List.length_map, bne_self_eq_false, beq_self_eq_true, map_at _ hk', hk', wrap_i64 (n := (k : Int) + 1) (by omega) (by omega)]
    exact ⟨k + 1, ⟨rfl, rfl⟩, rfl, by omega, by first | omega | (simp only; omega)⟩
  · simp only [go_sem, Nat.reduceAdd, Nat.reduceSub, Nat.reduceMul, Nat.reduceLT, Nat.reduceLeDiff, Nat.reduceEqDiff, Nat.succ_ne_zero, reduceIte]
theorem eqVal_spec (d : DVal) : Ctr Try.prog 89 [.agg d.c, .agg d.c] [.val (.c (.v (.bool true)))] := by
  refine Ctr.mk (fn := Try.f89) Try.call89 Try.func89 rfl mixed Try.ntmps89 Try.results89 (by kernel_rfl) rfl fun _ => ?_
  simp only [go_sem, Nat.reduceAdd, Nat.reduceSub, Nat.reduceMul, Nat.reduceLT, Nat.reduceLeDiff, Nat.reduceEqDiff, Nat.succ_ne_zero, reduceIte, bne_self_eq_false, beq_self_eq_true]
theorem eqValS_of (xs : List DVal) (hx : ∀ x ∈ xs, Ctr Try.prog 89 [.agg x.c, .agg x.c] [.val (.c (.v (.bool true)))]) : Ctr Try.prog 76 [.c (.sl (xs.map DVal.c)), .c (.sl (xs.map DVal.c))] [.val (.c (.v (.bool true)))] := by
  refine Ctr.mk (fn := Try.f76) Try.call76 Try.func76 rfl mixed Try.ntmps76 Try.results76 (by kernel_rfl) rfl fun hw => ?_
  have hlen : xs.length ≤ 9223372036854775807 := by have := hw.1.1; simpa [Go.maxLen] using this
  simp only [go_sem, Nat.reduceAdd, Nat.reduceSub, Nat.reduceMul, Nat.reduceLT, Nat.reduceLeDiff, Nat.reduceEqDiff, Nat.succ_ne_zero, reduceIte, List.length_map, bne_self_eq_false, beq_self_eq_true]
  refine LoopK.mk 0 [0, 1, 5] (A := Nat) (fun k => ⟨27, [(0, .c (.sl (xs.map DVal.c))), (1, .c (.sl (xs.map DVal.c))), (5, .c (.v (.int .i64 k)))], []⟩) (fun k => k ≤ xs.length) (fun k => xs.length - k) 0 ⟨⟨rfl, rfl⟩, rfl, Nat.zero_le _⟩ ?_
  intro k hk
  simp only [go_sem, Nat.reduceAdd, Nat.reduceSub, Nat.reduceMul, Nat.reduceLT, Nat.reduceLeDiff, Nat.reduceEqDiff, Nat.succ_ne_zero, reduceIte, List.length_map]
  refine cndC.mk (fun h => ?_) (fun h => ?_)
  · have hk' : k < xs.length := by simpa using h
    simp only [go_sem, Nat.reduceAdd, Nat.reduceSub, Nat.reduceMul, Nat.reduceLT, Nat.reduceLeDiff, Nat.reduceEqDiff, Nat.succ_ne_zero, reduceIte]
    refine DrawK.mk ?_
    simp only [go_sem, Nat.reduceAdd, Nat.reduceSub, Nat.reduceMul, Nat.reduceLT, Nat.reduceLeDiff, Nat.reduceEqDiff, Nat.succ_ne_zero, reduceIte, List.length_map, bne_self_eq_false, beq_self_eq_true, map_at _ hk', hk', wrap_i64 (n := (k : Int) + 1) (by omega) (by omega)]
    refine CallF.mk _ (by simpa only [go_sem] using hx xs[k] (List.getElem_mem hk')) ?_
    simp only [go_sem, Nat.reduceAdd, Nat.reduceSub, Nat.reduceMul, Nat.reduceLT, Nat.reduceLeDiff, Nat.reduceEqDiff, Nat.succ_ne_zero, reduceIte, map_at _ hk', wrap_i64 (n := (k : Int) + 1) (by omega) (by omega)]
    exact ⟨k + 1, ⟨rfl, rfl⟩, rfl, by omega, by first | omega | (simp only; omega)⟩
  · simp only [go_sem, Nat.reduceAdd, Nat.reduceSub, Nat.reduceMul, Nat.reduceLT, Nat.reduceLeDiff, Nat.reduceEqDiff, Nat.succ_ne_zero, reduceIte]
theorem eqValS_spec (xs : List DVal) : Ctr Try.prog 76 [.c (.sl (xs.map DVal.c)), .c (.sl (xs.map DVal.c))] [.val (.c (.v (.bool true)))] := eqValS_of xs fun x _ => eqVal_spec x
theorem eqRow_spec (d : DRow) : Ctr Try.prog 91 [.agg d.c, .agg d.c] [.val (.c (.v (.bool true)))] := by
  refine Ctr.mk (fn := Try.f91) Try.call91 Try.func91 rfl mixed Try.ntmps91 Try.results91 (by kernel_rfl) rfl fun _ => ?_
  simp only [go_sem, Nat.reduceAdd, Nat.reduceSub, Nat.reduceMul, Nat.reduceLT, Nat.reduceLeDiff, Nat.reduceEqDiff, Nat.succ_ne_zero, reduceIte, bne_self_eq_false, beq_self_eq_true]
  refine CallK.mk _ (by simpa only [go_sem] using eqValS_spec d.l) fun _ => ?_
  simp only [go_sem, Nat.reduceAdd, Nat.reduceSub, Nat.reduceMul, Nat.reduceLT, Nat.reduceLeDiff, Nat.reduceEqDiff, Nat.succ_ne_zero, reduceIte, bne_self_eq_false, beq_self_eq_true]
theorem eqRowS_of (xs : List DRow) (hx : ∀ x ∈ xs, Ctr Try.prog 91 [.agg x.c, .agg x.c] [.val (.c (.v (.bool true)))]) : Ctr Try.prog 78 [.c (.sl (xs.map DRow.c)), .c (.sl (xs.map DRow.c))] [.val (.c (.v (.bool true)))] := by
  refine Ctr.mk (fn := Try.f78) Try.call78 Try.func78 rfl mixed Try.ntmps78 Try.results78 (by kernel_rfl) rfl fun hw => ?_
  have hlen : xs.length ≤ 9223372036854775807 := by have := hw.1.1; simpa [Go.maxLen] using this
  simp only [go_sem, Nat.reduceAdd, Nat.reduceSub, Nat.reduceMul, Nat.reduceLT, Nat.reduceLeDiff, Nat.reduceEqDiff, Nat.succ_ne_zero, reduceIte, List.length_map, bne_self_eq_false, beq_self_eq_true]
  refine LoopK.mk 0 [0, 1, 5] (A := Nat) (fun k => ⟨27, [(0, .c (.sl (xs.map DRow.c))), (1, .c (.sl (xs.map DRow.c))), (5, .c (.v (.int .i64 k)))], []⟩) (fun k => k ≤ xs.length) (fun k => xs.length - k) 0 ⟨⟨rfl, rfl⟩, rfl, Nat.zero_le _⟩ ?_
  intro k hk
  simp only [go_sem, Nat.reduceAdd, Nat.reduceSub, Nat.reduceMul, Nat.reduceLT, Nat.reduceLeDiff, Nat.reduceEqDiff, Nat.succ_ne_zero, reduceIte, List.length_map]
  refine cndC.mk (fun h => ?_) (fun h => ?_)
  · have hk' : k < xs.length := by simpa using h
    simp only [go_sem, Nat.reduceAdd, Nat.reduceSub, Nat.reduceMul, Nat.reduceLT, Nat.reduceLeDiff, Nat.reduceEqDiff, Nat.succ_ne_zero, reduceIte]
    refine DrawK.mk ?_
    simp only [go_sem, Nat.reduceAdd, Nat.reduceSub, Nat.reduceMul, Nat.reduceLT, Nat.reduceLeDiff, Nat.reduceEqDiff, Nat.succ_ne_zero, reduceIte, List.length_map, bne_self_eq_false, beq_self_eq_true, map_at _ hk', hk', wrap_i64 (n := (k : Int) + 1) (by omega) (by omega)]
    refine CallF.mk _ (by simpa only [go_sem] using hx xs[k] (List.getElem_mem hk')) ?_
    simp only [go_sem, Nat.reduceAdd, Nat.reduceSub, Nat.reduceMul, Nat.reduceLT, Nat.reduceLeDiff, Nat.reduceEqDiff, Nat.succ_ne_zero, reduceIte, map_at _ hk', wrap_i64 (n := (k : Int) + 1) (by omega) (by omega)]
    exact ⟨k + 1, ⟨rfl, rfl⟩, rfl, by omega, by first | omega | (simp only; omega)⟩
  · simp only [go_sem, Nat.reduceAdd, Nat.reduceSub, Nat.reduceMul, Nat.reduceLT, Nat.reduceLeDiff, Nat.reduceEqDiff, Nat.succ_ne_zero, reduceIte]
theorem eqRowS_spec (xs : List DRow) : Ctr Try.prog 78 [.c (.sl (xs.map DRow.c)), .c (.sl (xs.map DRow.c))] [.val (.c (.v (.bool true)))] := eqRowS_of xs fun x _ => eqRow_spec x
theorem eqPredS_of (xs : List DPred) (hx : ∀ x ∈ xs, Ctr Try.prog 90 [.agg x.c, .agg x.c] [.val (.c (.v (.bool true)))]) : Ctr Try.prog 97 [.c (.sl (xs.map DPred.c)), .c (.sl (xs.map DPred.c))] [.val (.c (.v (.bool true)))] := by
  refine Ctr.mk (fn := Try.f97) Try.call97 Try.func97 rfl mixed Try.ntmps97 Try.results97 (by kernel_rfl) rfl fun hw => ?_
  have hlen : xs.length ≤ 9223372036854775807 := by have := hw.1.1; simpa [Go.maxLen] using this
  simp only [go_sem, Nat.reduceAdd, Nat.reduceSub, Nat.reduceMul, Nat.reduceLT, Nat.reduceLeDiff, Nat.reduceEqDiff, Nat.succ_ne_zero, reduceIte, List.length_map, bne_self_eq_false, beq_self_eq_true]
  refine LoopK.mk 0 [0, 1, 5] (A := Nat) (fun k => ⟨27, [(0, .c (.sl (xs.map DPred.c))), (1, .c (.sl (xs.map DPred.c))), (5, .c (.v (.int .i64 k)))], []⟩) (fun k => k ≤ xs.length) (fun k => xs.length - k) 0 ⟨⟨rfl, rfl⟩, rfl, Nat.zero_le _⟩ ?_
  intro k hk
  simp only [go_sem, Nat.reduceAdd, Nat.reduceSub, Nat.reduceMul, Nat.reduceLT, Nat.reduceLeDiff, Nat.reduceEqDiff, Nat.succ_ne_zero, reduceIte, List.length_map]
  refine cndC.mk (fun h => ?_) (fun h => ?_)
  · have hk' : k < xs.length := by simpa using h
    simp only [go_sem, Nat.reduceAdd, Nat.reduceSub, Nat.reduceMul, Nat.reduceLT, Nat.reduceLeDiff, Nat.reduceEqDiff, Nat.succ_ne_zero, reduceIte]
    refine DrawK.mk ?_
    simp only [go_sem, Nat.reduceAdd, Nat.reduceSub, Nat.reduceMul, Nat.reduceLT, Nat.reduceLeDiff, Nat.reduceEqDiff, Nat.succ_ne_zero, reduceIte, List.length_map, bne_self_eq_false, beq_self_eq_true, map_at _ hk', hk', wrap_i64 (n := (k : Int) + 1) (by omega) (by omega)]
    refine CallF.mk _ (by simpa only [go_sem] using hx xs[k] (List.getElem_mem hk')) ?_
    simp only [go_sem, Nat.reduceAdd, Nat.reduceSub, Nat.reduceMul, Nat.reduceLT, Nat.reduceLeDiff, Nat.reduceEqDiff, Nat.succ_ne_zero, reduceIte, map_at _ hk', wrap_i64 (n := (k : Int) + 1) (by omega) (by omega)]
    exact ⟨k + 1, ⟨rfl, rfl⟩, rfl, by omega, by first | omega | (simp only; omega)⟩
  · simp only [go_sem, Nat.reduceAdd, Nat.reduceSub, Nat.reduceMul, Nat.reduceLT, Nat.reduceLeDiff, Nat.reduceEqDiff, Nat.succ_ne_zero, reduceIte]
theorem eqPred_of (d : DPred) (hx : ∀ x ∈ d.l, Ctr Try.prog 90 [.agg x.c, .agg x.c] [.val (.c (.v (.bool true)))]) : Ctr Try.prog 90 [.agg d.c, .agg d.c] [.val (.c (.v (.bool true)))] := by
  refine Ctr.mk (fn := Try.f90) Try.call90 Try.func90 rfl mixed Try.ntmps90 Try.results90 (by kernel_rfl) rfl fun _ => ?_
  simp only [go_sem, Nat.reduceAdd, Nat.reduceSub, Nat.reduceMul, Nat.reduceLT, Nat.reduceLeDiff, Nat.reduceEqDiff, Nat.succ_ne_zero, reduceIte, bne_self_eq_false, beq_self_eq_true]
  refine CallK.mk _ (by simpa only [go_sem] using eqVal_spec d.v) fun _ => ?_
  simp only [go_sem, Nat.reduceAdd, Nat.reduceSub, Nat.reduceMul, Nat.reduceLT, Nat.reduceLeDiff, Nat.reduceEqDiff, Nat.succ_ne_zero, reduceIte, bne_self_eq_false, beq_self_eq_true]
  refine CallK.mk _ (by simpa only [go_sem] using eqPredS_of d.l hx) fun _ => ?_
  simp only [go_sem, Nat.reduceAdd, Nat.reduceSub, Nat.reduceMul, Nat.reduceLT, Nat.reduceLeDiff, Nat.reduceEqDiff, Nat.succ_ne_zero, reduceIte, bne_self_eq_false, beq_self_eq_true]
theorem eqPred_fuel : ∀ (n : Nat) (d : DPred), SizeOf.sizeOf d ≤ n → Ctr Try.prog 90 [.agg d.c, .agg d.c] [.val (.c (.v (.bool true)))]
  | 0, d, h => by cases d; simp at h
  | n + 1, d, h => eqPred_of d fun x hx => eqPred_fuel n x (by
    have h1 : SizeOf.sizeOf x < SizeOf.sizeOf d.l := List.sizeOf_lt_of_mem hx
    have h2 : SizeOf.sizeOf d.l < SizeOf.sizeOf d := by cases d; simp [DPred.l]; omega
    omega)
theorem eqPred_spec (d : DPred) : Ctr Try.prog 90 [.agg d.c, .agg d.c] [.val (.c (.v (.bool true)))] := eqPred_fuel _ d (Nat.le_refl _)
theorem eqPredS_spec (xs : List DPred) : Ctr Try.prog 97 [.c (.sl (xs.map DPred.c)), .c (.sl (xs.map DPred.c))] [.val (.c (.v (.bool true)))] := eqPredS_of xs fun x _ => eqPred_spec x
theorem eqQuery_spec (d : DQuery) : Ctr Try.prog 77 [.agg d.c, .agg d.c] [.val (.c (.v (.bool true)))] := by
  refine Ctr.mk (fn := Try.f77) Try.call77 Try.func77 rfl mixed Try.ntmps77 Try.results77 (by kernel_rfl) rfl fun _ => ?_
  simp only [go_sem, Nat.reduceAdd, Nat.reduceSub, Nat.reduceMul, Nat.reduceLT, Nat.reduceLeDiff, Nat.reduceEqDiff, Nat.succ_ne_zero, reduceIte, bne_self_eq_false, beq_self_eq_true]
  refine CallK.mk _ (by simpa only [go_sem] using eqPred_spec d.p) fun _ => ?_
  simp only [go_sem, Nat.reduceAdd, Nat.reduceSub, Nat.reduceMul, Nat.reduceLT, Nat.reduceLeDiff, Nat.reduceEqDiff, Nat.succ_ne_zero, reduceIte, bne_self_eq_false, beq_self_eq_true]
  refine CallK.mk _ (by simpa only [go_sem] using eqIntS_spec d.out) fun _ => ?_
  simp only [go_sem, Nat.reduceAdd, Nat.reduceSub, Nat.reduceMul, Nat.reduceLT, Nat.reduceLeDiff, Nat.reduceEqDiff, Nat.succ_ne_zero, reduceIte, bne_self_eq_false, beq_self_eq_true]
theorem eqResult_spec (d : DResult) : Ctr Try.prog 79 [.agg d.c, .agg d.c] [.val (.c (.v (.bool true)))] := by
  refine Ctr.mk (fn := Try.f79) Try.call79 Try.func79 rfl mixed Try.ntmps79 Try.results79 (by kernel_rfl) rfl fun _ => ?_
  simp only [go_sem, Nat.reduceAdd, Nat.reduceSub, Nat.reduceMul, Nat.reduceLT, Nat.reduceLeDiff, Nat.reduceEqDiff, Nat.succ_ne_zero, reduceIte, bne_self_eq_false, beq_self_eq_true]
  refine CallK.mk _ (by simpa only [go_sem] using eqRowS_spec d.rows) fun _ => ?_
  simp only [go_sem, Nat.reduceAdd, Nat.reduceSub, Nat.reduceMul, Nat.reduceLT, Nat.reduceLeDiff, Nat.reduceEqDiff, Nat.succ_ne_zero, reduceIte, bne_self_eq_false, beq_self_eq_true]
  refine CallK.mk _ (by simpa only [go_sem] using eqVal_spec d.v) fun _ => ?_
  simp only [go_sem, Nat.reduceAdd, Nat.reduceSub, Nat.reduceMul, Nat.reduceLT, Nat.reduceLeDiff, Nat.reduceEqDiff, Nat.succ_ne_zero, reduceIte, bne_self_eq_false, beq_self_eq_true]
theorem eqSlot_spec (d : DSlot) : Ctr Try.prog 96 [.agg d.c, .agg d.c] [.val (.c (.v (.bool true)))] := by
  refine Ctr.mk (fn := Try.f96) Try.call96 Try.func96 rfl mixed Try.ntmps96 Try.results96 (by kernel_rfl) rfl fun _ => ?_
  simp only [go_sem, Nat.reduceAdd, Nat.reduceSub, Nat.reduceMul, Nat.reduceLT, Nat.reduceLeDiff, Nat.reduceEqDiff, Nat.succ_ne_zero, reduceIte, bne_self_eq_false, beq_self_eq_true]
  refine CallK.mk _ (by simpa only [go_sem] using eqValS_spec d.l) fun _ => ?_
  simp only [go_sem, Nat.reduceAdd, Nat.reduceSub, Nat.reduceMul, Nat.reduceLT, Nat.reduceLeDiff, Nat.reduceEqDiff, Nat.succ_ne_zero, reduceIte, bne_self_eq_false, beq_self_eq_true]
theorem eqSlotS_of (xs : List DSlot) (hx : ∀ x ∈ xs, Ctr Try.prog 96 [.agg x.c, .agg x.c] [.val (.c (.v (.bool true)))]) : Ctr Try.prog 88 [.c (.sl (xs.map DSlot.c)), .c (.sl (xs.map DSlot.c))] [.val (.c (.v (.bool true)))] := by
  refine Ctr.mk (fn := Try.f88) Try.call88 Try.func88 rfl mixed Try.ntmps88 Try.results88 (by kernel_rfl) rfl fun hw => ?_
  have hlen : xs.length ≤ 9223372036854775807 := by have := hw.1.1; simpa [Go.maxLen] using this
  simp only [go_sem, Nat.reduceAdd, Nat.reduceSub, Nat.reduceMul, Nat.reduceLT, Nat.reduceLeDiff, Nat.reduceEqDiff, Nat.succ_ne_zero, reduceIte, List.length_map, bne_self_eq_false, beq_self_eq_true]
  refine LoopK.mk 0 [0, 1, 5] (A := Nat) (fun k => ⟨27, [(0, .c (.sl (xs.map DSlot.c))), (1, .c (.sl (xs.map DSlot.c))), (5, .c (.v (.int .i64 k)))], []⟩) (fun k => k ≤ xs.length) (fun k => xs.length - k) 0 ⟨⟨rfl, rfl⟩, rfl, Nat.zero_le _⟩ ?_
  intro k hk
  simp only [go_sem, Nat.reduceAdd, Nat.reduceSub, Nat.reduceMul, Nat.reduceLT, Nat.reduceLeDiff, Nat.reduceEqDiff, Nat.succ_ne_zero, reduceIte, List.length_map]
  refine cndC.mk (fun h => ?_) (fun h => ?_)
  · have hk' : k < xs.length := by simpa using h
    simp only [go_sem, Nat.reduceAdd, Nat.reduceSub, Nat.reduceMul, Nat.reduceLT, Nat.reduceLeDiff, Nat.reduceEqDiff, Nat.succ_ne_zero, reduceIte]
    refine DrawK.mk ?_
    simp only [go_sem, Nat.reduceAdd, Nat.reduceSub, Nat.reduceMul, Nat.reduceLT, Nat.reduceLeDiff, Nat.reduceEqDiff, Nat.succ_ne_zero, reduceIte, List.length_map, bne_self_eq_false, beq_self_eq_true, map_at _ hk', hk', wrap_i64 (n := (k : Int) + 1) (by omega) (by omega)]
    refine CallF.mk _ (by simpa only [go_sem] using hx xs[k] (List.getElem_mem hk')) ?_
    simp only [go_sem, Nat.reduceAdd, Nat.reduceSub, Nat.reduceMul, Nat.reduceLT, Nat.reduceLeDiff, Nat.reduceEqDiff, Nat.succ_ne_zero, reduceIte, map_at _ hk', wrap_i64 (n := (k : Int) + 1) (by omega) (by omega)]
    exact ⟨k + 1, ⟨rfl, rfl⟩, rfl, by omega, by first | omega | (simp only; omega)⟩
  · simp only [go_sem, Nat.reduceAdd, Nat.reduceSub, Nat.reduceMul, Nat.reduceLT, Nat.reduceLeDiff, Nat.reduceEqDiff, Nat.succ_ne_zero, reduceIte]
theorem eqSlotS_spec (xs : List DSlot) : Ctr Try.prog 88 [.c (.sl (xs.map DSlot.c)), .c (.sl (xs.map DSlot.c))] [.val (.c (.v (.bool true)))] := eqSlotS_of xs fun x _ => eqSlot_spec x
theorem eqChunk_spec (d : DChunk) : Ctr Try.prog 74 [.agg d.c, .agg d.c] [.val (.c (.v (.bool true)))] := by
  refine Ctr.mk (fn := Try.f74) Try.call74 Try.func74 rfl mixed Try.ntmps74 Try.results74 (by kernel_rfl) rfl fun _ => ?_
  simp only [go_sem, Nat.reduceAdd, Nat.reduceSub, Nat.reduceMul, Nat.reduceLT, Nat.reduceLeDiff, Nat.reduceEqDiff, Nat.succ_ne_zero, reduceIte, bne_self_eq_false, beq_self_eq_true]
  refine CallK.mk _ (by simpa only [go_sem] using eqSlotS_spec d.l) fun _ => ?_
  simp only [go_sem, Nat.reduceAdd, Nat.reduceSub, Nat.reduceMul, Nat.reduceLT, Nat.reduceLeDiff, Nat.reduceEqDiff, Nat.succ_ne_zero, reduceIte, bne_self_eq_false, beq_self_eq_true]
theorem eqBuf_spec (d : DBuf) : Ctr Try.prog 49 [.agg d.c, .agg d.c] [.val (.c (.v (.bool true)))] := by
  refine Ctr.mk (fn := Try.f49) Try.call49 Try.func49 rfl mixed Try.ntmps49 Try.results49 (by kernel_rfl) rfl fun _ => ?_
  simp only [go_sem, Nat.reduceAdd, Nat.reduceSub, Nat.reduceMul, Nat.reduceLT, Nat.reduceLeDiff, Nat.reduceEqDiff, Nat.succ_ne_zero, reduceIte, bne_self_eq_false, beq_self_eq_true]
  refine CallK.mk _ (by simpa only [go_sem] using eqChunk_spec d.c0) fun _ => ?_
  simp only [go_sem, Nat.reduceAdd, Nat.reduceSub, Nat.reduceMul, Nat.reduceLT, Nat.reduceLeDiff, Nat.reduceEqDiff, Nat.succ_ne_zero, reduceIte, bne_self_eq_false, beq_self_eq_true]
  refine CallK.mk _ (by simpa only [go_sem] using eqByteS_spec d.g) fun _ => ?_
  simp only [go_sem, Nat.reduceAdd, Nat.reduceSub, Nat.reduceMul, Nat.reduceLT, Nat.reduceLeDiff, Nat.reduceEqDiff, Nat.succ_ne_zero, reduceIte, bne_self_eq_false, beq_self_eq_true]
theorem eqBufS_of (xs : List DBuf) (hx : ∀ x ∈ xs, Ctr Try.prog 49 [.agg x.c, .agg x.c] [.val (.c (.v (.bool true)))]) : Ctr Try.prog 29 [.c (.sl (xs.map DBuf.c)), .c (.sl (xs.map DBuf.c))] [.val (.c (.v (.bool true)))] := by
  refine Ctr.mk (fn := Try.f29) Try.call29 Try.func29 rfl mixed Try.ntmps29 Try.results29 (by kernel_rfl) rfl fun hw => ?_
  have hlen : xs.length ≤ 9223372036854775807 := by have := hw.1.1; simpa [Go.maxLen] using this
  simp only [go_sem, Nat.reduceAdd, Nat.reduceSub, Nat.reduceMul, Nat.reduceLT, Nat.reduceLeDiff, Nat.reduceEqDiff, Nat.succ_ne_zero, reduceIte, List.length_map, bne_self_eq_false, beq_self_eq_true]
  refine LoopK.mk 0 [0, 1, 5] (A := Nat) (fun k => ⟨27, [(0, .c (.sl (xs.map DBuf.c))), (1, .c (.sl (xs.map DBuf.c))), (5, .c (.v (.int .i64 k)))], []⟩) (fun k => k ≤ xs.length) (fun k => xs.length - k) 0 ⟨⟨rfl, rfl⟩, rfl, Nat.zero_le _⟩ ?_
  intro k hk
  simp only [go_sem, Nat.reduceAdd, Nat.reduceSub, Nat.reduceMul, Nat.reduceLT, Nat.reduceLeDiff, Nat.reduceEqDiff, Nat.succ_ne_zero, reduceIte, List.length_map]
  refine cndC.mk (fun h => ?_) (fun h => ?_)
  · have hk' : k < xs.length := by simpa using h
    simp only [go_sem, Nat.reduceAdd, Nat.reduceSub, Nat.reduceMul, Nat.reduceLT, Nat.reduceLeDiff, Nat.reduceEqDiff, Nat.succ_ne_zero, reduceIte]
    refine DrawK.mk ?_
    simp only [go_sem, Nat.reduceAdd, Nat.reduceSub, Nat.reduceMul, Nat.reduceLT, Nat.reduceLeDiff, Nat.reduceEqDiff, Nat.succ_ne_zero, reduceIte, List.length_map, bne_self_eq_false, beq_self_eq_true, map_at _ hk', hk', wrap_i64 (n := (k : Int) + 1) (by omega) (by omega)]
    refine CallF.mk _ (by simpa only [go_sem] using hx xs[k] (List.getElem_mem hk')) ?_
    simp only [go_sem, Nat.reduceAdd, Nat.reduceSub, Nat.reduceMul, Nat.reduceLT, Nat.reduceLeDiff, Nat.reduceEqDiff, Nat.succ_ne_zero, reduceIte, map_at _ hk', wrap_i64 (n := (k : Int) + 1) (by omega) (by omega)]
    exact ⟨k + 1, ⟨rfl, rfl⟩, rfl, by omega, by first | omega | (simp only; omega)⟩
  · simp only [go_sem, Nat.reduceAdd, Nat.reduceSub, Nat.reduceMul, Nat.reduceLT, Nat.reduceLeDiff, Nat.reduceEqDiff, Nat.succ_ne_zero, reduceIte]
theorem eqBufS_spec (xs : List DBuf) : Ctr Try.prog 29 [.c (.sl (xs.map DBuf.c)), .c (.sl (xs.map DBuf.c))] [.val (.c (.v (.bool true)))] := eqBufS_of xs fun x _ => eqBuf_spec x
theorem eqDead_spec (d : DDead) : Ctr Try.prog 50 [.agg d.c, .agg d.c] [.val (.c (.v (.bool true)))] := by
  refine Ctr.mk (fn := Try.f50) Try.call50 Try.func50 rfl mixed Try.ntmps50 Try.results50 (by kernel_rfl) rfl fun _ => ?_
  simp only [go_sem, Nat.reduceAdd, Nat.reduceSub, Nat.reduceMul, Nat.reduceLT, Nat.reduceLeDiff, Nat.reduceEqDiff, Nat.succ_ne_zero, reduceIte, bne_self_eq_false, beq_self_eq_true]
theorem eqDeadS_of (xs : List DDead) (hx : ∀ x ∈ xs, Ctr Try.prog 50 [.agg x.c, .agg x.c] [.val (.c (.v (.bool true)))]) : Ctr Try.prog 30 [.c (.sl (xs.map DDead.c)), .c (.sl (xs.map DDead.c))] [.val (.c (.v (.bool true)))] := by
  refine Ctr.mk (fn := Try.f30) Try.call30 Try.func30 rfl mixed Try.ntmps30 Try.results30 (by kernel_rfl) rfl fun hw => ?_
  have hlen : xs.length ≤ 9223372036854775807 := by have := hw.1.1; simpa [Go.maxLen] using this
  simp only [go_sem, Nat.reduceAdd, Nat.reduceSub, Nat.reduceMul, Nat.reduceLT, Nat.reduceLeDiff, Nat.reduceEqDiff, Nat.succ_ne_zero, reduceIte, List.length_map, bne_self_eq_false, beq_self_eq_true]
  refine LoopK.mk 0 [0, 1, 5] (A := Nat) (fun k => ⟨27, [(0, .c (.sl (xs.map DDead.c))), (1, .c (.sl (xs.map DDead.c))), (5, .c (.v (.int .i64 k)))], []⟩) (fun k => k ≤ xs.length) (fun k => xs.length - k) 0 ⟨⟨rfl, rfl⟩, rfl, Nat.zero_le _⟩ ?_
  intro k hk
  simp only [go_sem, Nat.reduceAdd, Nat.reduceSub, Nat.reduceMul, Nat.reduceLT, Nat.reduceLeDiff, Nat.reduceEqDiff, Nat.succ_ne_zero, reduceIte, List.length_map]
  refine cndC.mk (fun h => ?_) (fun h => ?_)
  · have hk' : k < xs.length := by simpa using h
    simp only [go_sem, Nat.reduceAdd, Nat.reduceSub, Nat.reduceMul, Nat.reduceLT, Nat.reduceLeDiff, Nat.reduceEqDiff, Nat.succ_ne_zero, reduceIte]
    refine DrawK.mk ?_
    simp only [go_sem, Nat.reduceAdd, Nat.reduceSub, Nat.reduceMul, Nat.reduceLT, Nat.reduceLeDiff, Nat.reduceEqDiff, Nat.succ_ne_zero, reduceIte, List.length_map, bne_self_eq_false, beq_self_eq_true, map_at _ hk', hk', wrap_i64 (n := (k : Int) + 1) (by omega) (by omega)]
    refine CallF.mk _ (by simpa only [go_sem] using hx xs[k] (List.getElem_mem hk')) ?_
    simp only [go_sem, Nat.reduceAdd, Nat.reduceSub, Nat.reduceMul, Nat.reduceLT, Nat.reduceLeDiff, Nat.reduceEqDiff, Nat.succ_ne_zero, reduceIte, map_at _ hk', wrap_i64 (n := (k : Int) + 1) (by omega) (by omega)]
    exact ⟨k + 1, ⟨rfl, rfl⟩, rfl, by omega, by first | omega | (simp only; omega)⟩
  · simp only [go_sem, Nat.reduceAdd, Nat.reduceSub, Nat.reduceMul, Nat.reduceLT, Nat.reduceLeDiff, Nat.reduceEqDiff, Nat.succ_ne_zero, reduceIte]
theorem eqDeadS_spec (xs : List DDead) : Ctr Try.prog 30 [.c (.sl (xs.map DDead.c)), .c (.sl (xs.map DDead.c))] [.val (.c (.v (.bool true)))] := eqDeadS_of xs fun x _ => eqDead_spec x
theorem eqRef_spec (d : DRef) : Ctr Try.prog 73 [.agg d.c, .agg d.c] [.val (.c (.v (.bool true)))] := by
  refine Ctr.mk (fn := Try.f73) Try.call73 Try.func73 rfl mixed Try.ntmps73 Try.results73 (by kernel_rfl) rfl fun _ => ?_
  simp only [go_sem, Nat.reduceAdd, Nat.reduceSub, Nat.reduceMul, Nat.reduceLT, Nat.reduceLeDiff, Nat.reduceEqDiff, Nat.succ_ne_zero, reduceIte, bne_self_eq_false, beq_self_eq_true]
theorem eqRefS_of (xs : List DRef) (hx : ∀ x ∈ xs, Ctr Try.prog 73 [.agg x.c, .agg x.c] [.val (.c (.v (.bool true)))]) : Ctr Try.prog 48 [.c (.sl (xs.map DRef.c)), .c (.sl (xs.map DRef.c))] [.val (.c (.v (.bool true)))] := by
  refine Ctr.mk (fn := Try.f48) Try.call48 Try.func48 rfl mixed Try.ntmps48 Try.results48 (by kernel_rfl) rfl fun hw => ?_
  have hlen : xs.length ≤ 9223372036854775807 := by have := hw.1.1; simpa [Go.maxLen] using this
  simp only [go_sem, Nat.reduceAdd, Nat.reduceSub, Nat.reduceMul, Nat.reduceLT, Nat.reduceLeDiff, Nat.reduceEqDiff, Nat.succ_ne_zero, reduceIte, List.length_map, bne_self_eq_false, beq_self_eq_true]
  refine LoopK.mk 0 [0, 1, 5] (A := Nat) (fun k => ⟨27, [(0, .c (.sl (xs.map DRef.c))), (1, .c (.sl (xs.map DRef.c))), (5, .c (.v (.int .i64 k)))], []⟩) (fun k => k ≤ xs.length) (fun k => xs.length - k) 0 ⟨⟨rfl, rfl⟩, rfl, Nat.zero_le _⟩ ?_
  intro k hk
  simp only [go_sem, Nat.reduceAdd, Nat.reduceSub, Nat.reduceMul, Nat.reduceLT, Nat.reduceLeDiff, Nat.reduceEqDiff, Nat.succ_ne_zero, reduceIte, List.length_map]
  refine cndC.mk (fun h => ?_) (fun h => ?_)
  · have hk' : k < xs.length := by simpa using h
    simp only [go_sem, Nat.reduceAdd, Nat.reduceSub, Nat.reduceMul, Nat.reduceLT, Nat.reduceLeDiff, Nat.reduceEqDiff, Nat.succ_ne_zero, reduceIte]
    refine DrawK.mk ?_
    simp only [go_sem, Nat.reduceAdd, Nat.reduceSub, Nat.reduceMul, Nat.reduceLT, Nat.reduceLeDiff, Nat.reduceEqDiff, Nat.succ_ne_zero, reduceIte, List.length_map, bne_self_eq_false, beq_self_eq_true, map_at _ hk', hk', wrap_i64 (n := (k : Int) + 1) (by omega) (by omega)]
    refine CallF.mk _ (by simpa only [go_sem] using hx xs[k] (List.getElem_mem hk')) ?_
    simp only [go_sem, Nat.reduceAdd, Nat.reduceSub, Nat.reduceMul, Nat.reduceLT, Nat.reduceLeDiff, Nat.reduceEqDiff, Nat.succ_ne_zero, reduceIte, map_at _ hk', wrap_i64 (n := (k : Int) + 1) (by omega) (by omega)]
    exact ⟨k + 1, ⟨rfl, rfl⟩, rfl, by omega, by first | omega | (simp only; omega)⟩
  · simp only [go_sem, Nat.reduceAdd, Nat.reduceSub, Nat.reduceMul, Nat.reduceLT, Nat.reduceLeDiff, Nat.reduceEqDiff, Nat.succ_ne_zero, reduceIte]
theorem eqRefS_spec (xs : List DRef) : Ctr Try.prog 48 [.c (.sl (xs.map DRef.c)), .c (.sl (xs.map DRef.c))] [.val (.c (.v (.bool true)))] := eqRefS_of xs fun x _ => eqRef_spec x
theorem eqDir_spec (d : DDir) : Ctr Try.prog 28 [.agg d.c, .agg d.c] [.val (.c (.v (.bool true)))] := by
  refine Ctr.mk (fn := Try.f28) Try.call28 Try.func28 rfl mixed Try.ntmps28 Try.results28 (by kernel_rfl) rfl fun _ => ?_
  simp only [go_sem, Nat.reduceAdd, Nat.reduceSub, Nat.reduceMul, Nat.reduceLT, Nat.reduceLeDiff, Nat.reduceEqDiff, Nat.succ_ne_zero, reduceIte, bne_self_eq_false, beq_self_eq_true]
  refine CallK.mk _ (by simpa only [go_sem] using eqRefS_spec d.l) fun _ => ?_
  simp only [go_sem, Nat.reduceAdd, Nat.reduceSub, Nat.reduceMul, Nat.reduceLT, Nat.reduceLeDiff, Nat.reduceEqDiff, Nat.succ_ne_zero, reduceIte, bne_self_eq_false, beq_self_eq_true]
theorem eqTask_spec (d : DTask) : Ctr Try.prog 51 [.agg d.c, .agg d.c] [.val (.c (.v (.bool true)))] := by
  refine Ctr.mk (fn := Try.f51) Try.call51 Try.func51 rfl mixed Try.ntmps51 Try.results51 (by kernel_rfl) rfl fun _ => ?_
  simp only [go_sem, Nat.reduceAdd, Nat.reduceSub, Nat.reduceMul, Nat.reduceLT, Nat.reduceLeDiff, Nat.reduceEqDiff, Nat.succ_ne_zero, reduceIte, bne_self_eq_false, beq_self_eq_true]
  refine CallK.mk _ (by simpa only [go_sem] using eqValS_spec d.r) fun _ => ?_
  simp only [go_sem, Nat.reduceAdd, Nat.reduceSub, Nat.reduceMul, Nat.reduceLT, Nat.reduceLeDiff, Nat.reduceEqDiff, Nat.succ_ne_zero, reduceIte, bne_self_eq_false, beq_self_eq_true]
  refine CallK.mk _ (by simpa only [go_sem] using eqQuery_spec d.q) fun _ => ?_
  simp only [go_sem, Nat.reduceAdd, Nat.reduceSub, Nat.reduceMul, Nat.reduceLT, Nat.reduceLeDiff, Nat.reduceEqDiff, Nat.succ_ne_zero, reduceIte, bne_self_eq_false, beq_self_eq_true]
  refine CallK.mk _ (by simpa only [go_sem] using eqRefS_spec d.l) fun _ => ?_
  simp only [go_sem, Nat.reduceAdd, Nat.reduceSub, Nat.reduceMul, Nat.reduceLT, Nat.reduceLeDiff, Nat.reduceEqDiff, Nat.succ_ne_zero, reduceIte, bne_self_eq_false, beq_self_eq_true]
  refine CallK.mk _ (by simpa only [go_sem] using eqRowS_spec d.got) fun _ => ?_
  simp only [go_sem, Nat.reduceAdd, Nat.reduceSub, Nat.reduceMul, Nat.reduceLT, Nat.reduceLeDiff, Nat.reduceEqDiff, Nat.succ_ne_zero, reduceIte, bne_self_eq_false, beq_self_eq_true]
theorem eqTaskS_of (xs : List DTask) (hx : ∀ x ∈ xs, Ctr Try.prog 51 [.agg x.c, .agg x.c] [.val (.c (.v (.bool true)))]) : Ctr Try.prog 31 [.c (.sl (xs.map DTask.c)), .c (.sl (xs.map DTask.c))] [.val (.c (.v (.bool true)))] := by
  refine Ctr.mk (fn := Try.f31) Try.call31 Try.func31 rfl mixed Try.ntmps31 Try.results31 (by kernel_rfl) rfl fun hw => ?_
  have hlen : xs.length ≤ 9223372036854775807 := by have := hw.1.1; simpa [Go.maxLen] using this
  simp only [go_sem, Nat.reduceAdd, Nat.reduceSub, Nat.reduceMul, Nat.reduceLT, Nat.reduceLeDiff, Nat.reduceEqDiff, Nat.succ_ne_zero, reduceIte, List.length_map, bne_self_eq_false, beq_self_eq_true]
  refine LoopK.mk 0 [0, 1, 5] (A := Nat) (fun k => ⟨27, [(0, .c (.sl (xs.map DTask.c))), (1, .c (.sl (xs.map DTask.c))), (5, .c (.v (.int .i64 k)))], []⟩) (fun k => k ≤ xs.length) (fun k => xs.length - k) 0 ⟨⟨rfl, rfl⟩, rfl, Nat.zero_le _⟩ ?_
  intro k hk
  simp only [go_sem, Nat.reduceAdd, Nat.reduceSub, Nat.reduceMul, Nat.reduceLT, Nat.reduceLeDiff, Nat.reduceEqDiff, Nat.succ_ne_zero, reduceIte, List.length_map]
  refine cndC.mk (fun h => ?_) (fun h => ?_)
  · have hk' : k < xs.length := by simpa using h
    simp only [go_sem, Nat.reduceAdd, Nat.reduceSub, Nat.reduceMul, Nat.reduceLT, Nat.reduceLeDiff, Nat.reduceEqDiff, Nat.succ_ne_zero, reduceIte]
    refine DrawK.mk ?_
    simp only [go_sem, Nat.reduceAdd, Nat.reduceSub, Nat.reduceMul, Nat.reduceLT, Nat.reduceLeDiff, Nat.reduceEqDiff, Nat.succ_ne_zero, reduceIte, List.length_map, bne_self_eq_false, beq_self_eq_true, map_at _ hk', hk', wrap_i64 (n := (k : Int) + 1) (by omega) (by omega)]
    refine CallF.mk _ (by simpa only [go_sem] using hx xs[k] (List.getElem_mem hk')) ?_
    simp only [go_sem, Nat.reduceAdd, Nat.reduceSub, Nat.reduceMul, Nat.reduceLT, Nat.reduceLeDiff, Nat.reduceEqDiff, Nat.succ_ne_zero, reduceIte, map_at _ hk', wrap_i64 (n := (k : Int) + 1) (by omega) (by omega)]
    exact ⟨k + 1, ⟨rfl, rfl⟩, rfl, by omega, by first | omega | (simp only; omega)⟩
  · simp only [go_sem, Nat.reduceAdd, Nat.reduceSub, Nat.reduceMul, Nat.reduceLT, Nat.reduceLeDiff, Nat.reduceEqDiff, Nat.succ_ne_zero, reduceIte]
theorem eqTaskS_spec (xs : List DTask) : Ctr Try.prog 31 [.c (.sl (xs.map DTask.c)), .c (.sl (xs.map DTask.c))] [.val (.c (.v (.bool true)))] := eqTaskS_of xs fun x _ => eqTask_spec x
theorem eqDeed_spec (d : DDeed) : Ctr Try.prog 52 [.agg d.c, .agg d.c] [.val (.c (.v (.bool true)))] := by
  refine Ctr.mk (fn := Try.f52) Try.call52 Try.func52 rfl mixed Try.ntmps52 Try.results52 (by kernel_rfl) rfl fun _ => ?_
  simp only [go_sem, Nat.reduceAdd, Nat.reduceSub, Nat.reduceMul, Nat.reduceLT, Nat.reduceLeDiff, Nat.reduceEqDiff, Nat.succ_ne_zero, reduceIte, bne_self_eq_false, beq_self_eq_true]
  refine CallK.mk _ (by simpa only [go_sem] using eqValS_spec d.r) fun _ => ?_
  simp only [go_sem, Nat.reduceAdd, Nat.reduceSub, Nat.reduceMul, Nat.reduceLT, Nat.reduceLeDiff, Nat.reduceEqDiff, Nat.succ_ne_zero, reduceIte, bne_self_eq_false, beq_self_eq_true]
  refine CallK.mk _ (by simpa only [go_sem] using eqQuery_spec d.q) fun _ => ?_
  simp only [go_sem, Nat.reduceAdd, Nat.reduceSub, Nat.reduceMul, Nat.reduceLT, Nat.reduceLeDiff, Nat.reduceEqDiff, Nat.succ_ne_zero, reduceIte, bne_self_eq_false, beq_self_eq_true]
  refine CallK.mk _ (by simpa only [go_sem] using eqResult_spec d.res) fun _ => ?_
  simp only [go_sem, Nat.reduceAdd, Nat.reduceSub, Nat.reduceMul, Nat.reduceLT, Nat.reduceLeDiff, Nat.reduceEqDiff, Nat.succ_ne_zero, reduceIte, bne_self_eq_false, beq_self_eq_true]
theorem eqDeedS_of (xs : List DDeed) (hx : ∀ x ∈ xs, Ctr Try.prog 52 [.agg x.c, .agg x.c] [.val (.c (.v (.bool true)))]) : Ctr Try.prog 32 [.c (.sl (xs.map DDeed.c)), .c (.sl (xs.map DDeed.c))] [.val (.c (.v (.bool true)))] := by
  refine Ctr.mk (fn := Try.f32) Try.call32 Try.func32 rfl mixed Try.ntmps32 Try.results32 (by kernel_rfl) rfl fun hw => ?_
  have hlen : xs.length ≤ 9223372036854775807 := by have := hw.1.1; simpa [Go.maxLen] using this
  simp only [go_sem, Nat.reduceAdd, Nat.reduceSub, Nat.reduceMul, Nat.reduceLT, Nat.reduceLeDiff, Nat.reduceEqDiff, Nat.succ_ne_zero, reduceIte, List.length_map, bne_self_eq_false, beq_self_eq_true]
  refine LoopK.mk 0 [0, 1, 5] (A := Nat) (fun k => ⟨27, [(0, .c (.sl (xs.map DDeed.c))), (1, .c (.sl (xs.map DDeed.c))), (5, .c (.v (.int .i64 k)))], []⟩) (fun k => k ≤ xs.length) (fun k => xs.length - k) 0 ⟨⟨rfl, rfl⟩, rfl, Nat.zero_le _⟩ ?_
  intro k hk
  simp only [go_sem, Nat.reduceAdd, Nat.reduceSub, Nat.reduceMul, Nat.reduceLT, Nat.reduceLeDiff, Nat.reduceEqDiff, Nat.succ_ne_zero, reduceIte, List.length_map]
  refine cndC.mk (fun h => ?_) (fun h => ?_)
  · have hk' : k < xs.length := by simpa using h
    simp only [go_sem, Nat.reduceAdd, Nat.reduceSub, Nat.reduceMul, Nat.reduceLT, Nat.reduceLeDiff, Nat.reduceEqDiff, Nat.succ_ne_zero, reduceIte]
    refine DrawK.mk ?_
    simp only [go_sem, Nat.reduceAdd, Nat.reduceSub, Nat.reduceMul, Nat.reduceLT, Nat.reduceLeDiff, Nat.reduceEqDiff, Nat.succ_ne_zero, reduceIte, List.length_map, bne_self_eq_false, beq_self_eq_true, map_at _ hk', hk', wrap_i64 (n := (k : Int) + 1) (by omega) (by omega)]
    refine CallF.mk _ (by simpa only [go_sem] using hx xs[k] (List.getElem_mem hk')) ?_
    simp only [go_sem, Nat.reduceAdd, Nat.reduceSub, Nat.reduceMul, Nat.reduceLT, Nat.reduceLeDiff, Nat.reduceEqDiff, Nat.succ_ne_zero, reduceIte, map_at _ hk', wrap_i64 (n := (k : Int) + 1) (by omega) (by omega)]
    exact ⟨k + 1, ⟨rfl, rfl⟩, rfl, by omega, by first | omega | (simp only; omega)⟩
  · simp only [go_sem, Nat.reduceAdd, Nat.reduceSub, Nat.reduceMul, Nat.reduceLT, Nat.reduceLeDiff, Nat.reduceEqDiff, Nat.succ_ne_zero, reduceIte]
theorem eqDeedS_spec (xs : List DDeed) : Ctr Try.prog 32 [.c (.sl (xs.map DDeed.c)), .c (.sl (xs.map DDeed.c))] [.val (.c (.v (.bool true)))] := eqDeedS_of xs fun x _ => eqDeed_spec x
theorem eqConf_spec (d : DConf) : Ctr Try.prog 27 [.agg d.c, .agg d.c] [.val (.c (.v (.bool true)))] := by
  refine Ctr.mk (fn := Try.f27) Try.call27 Try.func27 rfl mixed Try.ntmps27 Try.results27 (by kernel_rfl) rfl fun _ => ?_
  simp only [go_sem, Nat.reduceAdd, Nat.reduceSub, Nat.reduceMul, Nat.reduceLT, Nat.reduceLeDiff, Nat.reduceEqDiff, Nat.succ_ne_zero, reduceIte, bne_self_eq_false, beq_self_eq_true]
  refine CallK.mk _ (by simpa only [go_sem] using eqIntS_spec d.cols) fun _ => ?_
  simp only [go_sem, Nat.reduceAdd, Nat.reduceSub, Nat.reduceMul, Nat.reduceLT, Nat.reduceLeDiff, Nat.reduceEqDiff, Nat.succ_ne_zero, reduceIte, bne_self_eq_false, beq_self_eq_true]
theorem eqWorld_spec (d : DWorld) : Ctr Try.prog 9 [.agg d.c, .agg d.c] [.val (.c (.v (.bool true)))] := by
  refine Ctr.mk (fn := Try.f9) Try.call9 Try.func9 rfl mixed Try.ntmps9 Try.results9 (by kernel_rfl) rfl fun _ => ?_
  simp only [go_sem, Nat.reduceAdd, Nat.reduceSub, Nat.reduceMul, Nat.reduceLT, Nat.reduceLeDiff, Nat.reduceEqDiff, Nat.succ_ne_zero, reduceIte, bne_self_eq_false, beq_self_eq_true]
  refine CallK.mk _ (by simpa only [go_sem] using eqConf_spec d.c0) fun _ => ?_
  simp only [go_sem, Nat.reduceAdd, Nat.reduceSub, Nat.reduceMul, Nat.reduceLT, Nat.reduceLeDiff, Nat.reduceEqDiff, Nat.succ_ne_zero, reduceIte, bne_self_eq_false, beq_self_eq_true]
  refine CallK.mk _ (by simpa only [go_sem] using eqDir_spec d.d) fun _ => ?_
  simp only [go_sem, Nat.reduceAdd, Nat.reduceSub, Nat.reduceMul, Nat.reduceLT, Nat.reduceLeDiff, Nat.reduceEqDiff, Nat.succ_ne_zero, reduceIte, bne_self_eq_false, beq_self_eq_true]
  refine CallK.mk _ (by simpa only [go_sem] using eqBufS_spec d.b) fun _ => ?_
  simp only [go_sem, Nat.reduceAdd, Nat.reduceSub, Nat.reduceMul, Nat.reduceLT, Nat.reduceLeDiff, Nat.reduceEqDiff, Nat.succ_ne_zero, reduceIte, bne_self_eq_false, beq_self_eq_true]
  refine CallK.mk _ (by simpa only [go_sem] using eqIntS_spec d.m) fun _ => ?_
  simp only [go_sem, Nat.reduceAdd, Nat.reduceSub, Nat.reduceMul, Nat.reduceLT, Nat.reduceLeDiff, Nat.reduceEqDiff, Nat.succ_ne_zero, reduceIte, bne_self_eq_false, beq_self_eq_true]
  refine CallK.mk _ (by simpa only [go_sem] using eqDeadS_spec d.x) fun _ => ?_
  simp only [go_sem, Nat.reduceAdd, Nat.reduceSub, Nat.reduceMul, Nat.reduceLT, Nat.reduceLeDiff, Nat.reduceEqDiff, Nat.succ_ne_zero, reduceIte, bne_self_eq_false, beq_self_eq_true]
  refine CallK.mk _ (by simpa only [go_sem] using eqIntS_spec d.p) fun _ => ?_
  simp only [go_sem, Nat.reduceAdd, Nat.reduceSub, Nat.reduceMul, Nat.reduceLT, Nat.reduceLeDiff, Nat.reduceEqDiff, Nat.succ_ne_zero, reduceIte, bne_self_eq_false, beq_self_eq_true]
  refine CallK.mk _ (by simpa only [go_sem] using eqTaskS_spec d.tasks) fun _ => ?_
  simp only [go_sem, Nat.reduceAdd, Nat.reduceSub, Nat.reduceMul, Nat.reduceLT, Nat.reduceLeDiff, Nat.reduceEqDiff, Nat.succ_ne_zero, reduceIte, bne_self_eq_false, beq_self_eq_true]
  refine CallK.mk _ (by simpa only [go_sem] using eqDeedS_spec d.deeds) fun _ => ?_
  simp only [go_sem, Nat.reduceAdd, Nat.reduceSub, Nat.reduceMul, Nat.reduceLT, Nat.reduceLeDiff, Nat.reduceEqDiff, Nat.succ_ne_zero, reduceIte, bne_self_eq_false, beq_self_eq_true]

end Go.Proofs.Ytekkkcelnaomoaa
