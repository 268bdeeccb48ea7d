/- Contracts of the sz/to/eq functions: by program (gen_data.py). -/
import Derived.Test.YteiibjajcbiaoaaGreatDa
import Derived.Test.YteiibjajcbiaoaaGreatTy
namespace Go.Proofs.YteiibjajcbiaoaaGreat
set_option linter.unusedSimpArgs false
set_option linter.unusedVariables false
open Go.Vm

set_option maxHeartbeats 1000000
set_option maxRecDepth 10000

theorem szIntS_spec (xs : List Int) (l : Int) (hl : 0 ≤ l) : Ctr Tryz.prog 40 [.c (.sl (xs.map intC)), .c (.v (.int .i64 l))] [.val (.c (.v (.int .i64 (szI xs.length l))))] := by
  refine Ctr.mk (fn := Tryz.f40) Tryz.call40 Tryz.func40 rfl mixed Tryz.ntmps40 Tryz.results40 (by kernel_rfl) rfl fun hw => ?_
  have hlen : xs.length ≤ 9223372036854775807 := by have := hw.1.1; simpa [Go.maxLen] using this
  have hl2 : l ≤ 9223372036854775807 := i64_le hw.2.1
  simp only [go_sem, Nat.reduceAdd, Nat.reduceSub, Nat.reduceMul, Nat.reduceLT, Nat.reduceLeDiff, Nat.reduceEqDiff, Nat.succ_ne_zero, reduceIte, List.length_map, wrap_i64 (n := l - xs.length) (by omega) (by omega)]
  refine cndC.mk (fun h => ?_) (fun h => ?_)
  · have h' : l - xs.length < 0 := by simpa using h
    simp only [go_sem, Nat.reduceAdd, Nat.reduceSub, Nat.reduceMul, Nat.reduceLT, Nat.reduceLeDiff, Nat.reduceEqDiff, Nat.succ_ne_zero, reduceIte]
    simp [szI, h']
  · have h' : ¬ l - xs.length < 0 := by simpa using h
    simp only [go_sem, Nat.reduceAdd, Nat.reduceSub, Nat.reduceMul, Nat.reduceLT, Nat.reduceLeDiff, Nat.reduceEqDiff, Nat.succ_ne_zero, reduceIte]
    simp [szI, h']
theorem szByteS_spec (xs : List Int) (l : Int) (hl : 0 ≤ l) : Ctr Tryz.prog 180 [.c (.sl (xs.map byteC)), .c (.v (.int .i64 l))] [.val (.c (.v (.int .i64 (szI xs.length l))))] := by
  refine Ctr.mk (fn := Tryz.f180) Tryz.call180 Tryz.func180 rfl mixed Tryz.ntmps180 Tryz.results180 (by kernel_rfl) rfl fun hw => ?_
  have hlen : xs.length ≤ 9223372036854775807 := by have := hw.1.1; simpa [Go.maxLen] using this
  have hl2 : l ≤ 9223372036854775807 := i64_le hw.2.1
  simp only [go_sem, Nat.reduceAdd, Nat.reduceSub, Nat.reduceMul, Nat.reduceLT, Nat.reduceLeDiff, Nat.reduceEqDiff, Nat.succ_ne_zero, reduceIte, List.length_map, wrap_i64 (n := l - xs.length) (by omega) (by omega)]
  refine cndC.mk (fun h => ?_) (fun h => ?_)
  · have h' : l - xs.length < 0 := by simpa using h
    simp only [go_sem, Nat.reduceAdd, Nat.reduceSub, Nat.reduceMul, Nat.reduceLT, Nat.reduceLeDiff, Nat.reduceEqDiff, Nat.succ_ne_zero, reduceIte]
    simp [szI, h']
  · have h' : ¬ l - xs.length < 0 := by simpa using h
    simp only [go_sem, Nat.reduceAdd, Nat.reduceSub, Nat.reduceMul, Nat.reduceLT, Nat.reduceLeDiff, Nat.reduceEqDiff, Nat.succ_ne_zero, reduceIte]
    simp [szI, h']
theorem szVal_spec (d : DVal) (l : Int) (hl : 0 ≤ l) : Ctr Tryz.prog 109 [.agg d.c, .c (.v (.int .i64 l))] [.val (.c (.v (.int .i64 (szVal d l))))] := by
  refine Ctr.mk (fn := Tryz.f109) Tryz.call109 Tryz.func109 rfl mixed Tryz.ntmps109 Tryz.results109 (by kernel_rfl) rfl fun hw => ?_
  rw [szVal_eq]
  have hl2 : l ≤ 9223372036854775807 := i64_le hw.2.1
  have hs : d.s.size ≤ 9223372036854775807 := str_le hw.1.2.2.1
  simp only [go_sem, Nat.reduceAdd, Nat.reduceSub, Nat.reduceMul, Nat.reduceLT, Nat.reduceLeDiff, Nat.reduceEqDiff, Nat.succ_ne_zero, reduceIte, wrap_i64 (n := l - d.s.size) (by omega) (by omega)]
  refine cndC.mk (fun h => ?_) (fun h => ?_)
  · have h0 : l - d.s.size < 0 := by simpa using h
    simp only [go_sem, Nat.reduceAdd, Nat.reduceSub, Nat.reduceMul, Nat.reduceLT, Nat.reduceLeDiff, Nat.reduceEqDiff, Nat.succ_ne_zero, reduceIte]
    simp [szI, sq, h0]
  · have h0 : ¬ l - d.s.size < 0 := by simpa using h
    simp only [go_sem, Nat.reduceAdd, Nat.reduceSub, Nat.reduceMul, Nat.reduceLT, Nat.reduceLeDiff, Nat.reduceEqDiff, Nat.succ_ne_zero, reduceIte]
    simp [szI, sq, h0]
theorem szValS_of (xs : List DVal) (hx : ∀ x ∈ xs, ∀ l, 0 ≤ l → Ctr Tryz.prog 109 [.agg x.c, .c (.v (.int .i64 l))] [.val (.c (.v (.int .i64 (szVal x l))))]) (l : Int) (hl : 0 ≤ l) : Ctr Tryz.prog 41 [.c (.sl (xs.map DVal.c)), .c (.v (.int .i64 l))] [.val (.c (.v (.int .i64 (szS szVal xs l))))] := by
  refine Ctr.mk (fn := Tryz.f41) Tryz.call41 Tryz.func41 rfl mixed Tryz.ntmps41 Tryz.results41 (by kernel_rfl) rfl fun hw => ?_
  have hlen : xs.length ≤ 9223372036854775807 := by have := hw.1.1; simpa [Go.maxLen] using this
  have hl2 : l ≤ 9223372036854775807 := i64_le hw.2.1
  simp only [go_sem, Nat.reduceAdd, Nat.reduceSub, Nat.reduceMul, Nat.reduceLT, Nat.reduceLeDiff, Nat.reduceEqDiff, Nat.succ_ne_zero, reduceIte, List.length_map, wrap_i64 (n := l - xs.length) (by omega) (by omega)]
  refine cndC.mk (fun h => ?_) (fun h => ?_)
  · have h' : l - xs.length < 0 := by simpa using h
    simp only [go_sem, Nat.reduceAdd, Nat.reduceSub, Nat.reduceMul, Nat.reduceLT, Nat.reduceLeDiff, Nat.reduceEqDiff, Nat.succ_ne_zero, reduceIte]
    simp [szS, sq, szI, h']
  · have h' : ¬ l - xs.length < 0 := by simpa using h
    simp only [go_sem, Nat.reduceAdd, Nat.reduceSub, Nat.reduceMul, Nat.reduceLT, Nat.reduceLeDiff, Nat.reduceEqDiff, Nat.succ_ne_zero, reduceIte]
    refine LoopK.mk 0 [0, 1, 5] (A := Nat × Int) (fun x => ⟨27, [(0, .c (.sl (xs.map DVal.c))), (1, .c (.v (.int .i64 x.2))), (5, .c (.v (.int .i64 x.1)))], []⟩) (fun x => x.1 ≤ xs.length ∧ 0 ≤ x.2 ∧ szL szVal (xs.drop x.1) x.2 = szS szVal xs l) (fun x => xs.length - x.1)
      (0, l - xs.length) ⟨⟨rfl, rfl⟩, rfl, Nat.zero_le _, by simp only; omega, by simp [szS, sq, szI, h']⟩ ?_
    rintro ⟨k, m⟩ ⟨hk, hm0, hm⟩
    simp only at hk hm hm0
    simp only [go_sem, Nat.reduceAdd, Nat.reduceSub, Nat.reduceMul, Nat.reduceLT, Nat.reduceLeDiff, Nat.reduceEqDiff, Nat.succ_ne_zero, reduceIte, List.length_map]
    refine cndC.mk (fun h => ?_) (fun h => ?_)
    · have hk' : k < xs.length := by simpa using h
      simp only [go_sem, Nat.reduceAdd, Nat.reduceSub, Nat.reduceMul, Nat.reduceLT, Nat.reduceLeDiff, Nat.reduceEqDiff, Nat.succ_ne_zero, reduceIte, map_at _ hk']
      refine CallK.mk _ (by simpa only [go_sem] using hx xs[k] (List.getElem_mem hk') m hm0) fun _ => ?_
      simp only [go_sem, Nat.reduceAdd, Nat.reduceSub, Nat.reduceMul, Nat.reduceLT, Nat.reduceLeDiff, Nat.reduceEqDiff, Nat.succ_ne_zero, reduceIte]
      rw [List.drop_eq_getElem_cons hk'] at hm
      simp only [szL] at hm
      refine cndC.mk (fun h => ?_) (fun h => ?_)
      · have h' : szVal xs[k] m < 0 := by simpa using h
        simp only [go_sem, Nat.reduceAdd, Nat.reduceSub, Nat.reduceMul, Nat.reduceLT, Nat.reduceLeDiff, Nat.reduceEqDiff, Nat.succ_ne_zero, reduceIte]
        rw [sq_neg h'] at hm
        rw [hm]
      · have h' : ¬ szVal xs[k] m < 0 := by simpa using h
        rw [sq_pos h'] at hm
        simp only [go_sem, Nat.reduceAdd, Nat.reduceSub, Nat.reduceMul, Nat.reduceLT, Nat.reduceLeDiff, Nat.reduceEqDiff, Nat.succ_ne_zero, reduceIte, wrap_i64 (n := (k : Int) + 1) (by omega) (by omega)]
        exact ⟨(k + 1, szVal xs[k] m), ⟨rfl, rfl⟩, rfl, ⟨by simp only; omega, (by omega : (0 : Int) ≤ szVal xs[k] m), hm⟩, by simp only; omega⟩
    · have hk' : k = xs.length := by simp at h; omega
      subst hk'
      simp only [go_sem, Nat.reduceAdd, Nat.reduceSub, Nat.reduceMul, Nat.reduceLT, Nat.reduceLeDiff, Nat.reduceEqDiff, Nat.succ_ne_zero, reduceIte]
      simp [szL] at hm
      rw [hm]
theorem szValS_spec (xs : List DVal) (l : Int) (hl : 0 ≤ l) : Ctr Tryz.prog 41 [.c (.sl (xs.map DVal.c)), .c (.v (.int .i64 l))] [.val (.c (.v (.int .i64 (szS szVal xs l))))] := szValS_of xs (fun x _ l hl => szVal_spec x l hl) l hl
theorem szRow_spec (d : DRow) (l : Int) (hl : 0 ≤ l) : Ctr Tryz.prog 78 [.agg d.c, .c (.v (.int .i64 l))] [.val (.c (.v (.int .i64 (szRow d l))))] := by
  refine Ctr.mk (fn := Tryz.f78) Tryz.call78 Tryz.func78 rfl mixed Tryz.ntmps78 Tryz.results78 (by kernel_rfl) rfl fun hw => ?_
  rw [szRow_eq]
  simp only [go_sem, Nat.reduceAdd, Nat.reduceSub, Nat.reduceMul, Nat.reduceLT, Nat.reduceLeDiff, Nat.reduceEqDiff, Nat.succ_ne_zero, reduceIte]
  refine CallK.mk _ (by simpa only [go_sem] using szValS_spec d.l _ (by omega)) fun _ => ?_
  simp only [go_sem, Nat.reduceAdd, Nat.reduceSub, Nat.reduceMul, Nat.reduceLT, Nat.reduceLeDiff, Nat.reduceEqDiff, Nat.succ_ne_zero, reduceIte]
  refine cndC.mk (fun h => ?_) (fun h => ?_)
  · have h0 : szS szVal d.l (l) < 0 := by simpa using h
    simp only [go_sem, Nat.reduceAdd, Nat.reduceSub, Nat.reduceMul, Nat.reduceLT, Nat.reduceLeDiff, Nat.reduceEqDiff, Nat.succ_ne_zero, reduceIte]
    simp [sq, h0]
  · have h0 : ¬ szS szVal d.l (l) < 0 := by simpa using h
    simp only [go_sem, Nat.reduceAdd, Nat.reduceSub, Nat.reduceMul, Nat.reduceLT, Nat.reduceLeDiff, Nat.reduceEqDiff, Nat.succ_ne_zero, reduceIte]
    simp [sq, h0]
theorem szRowS_of (xs : List DRow) (hx : ∀ x ∈ xs, ∀ l, 0 ≤ l → Ctr Tryz.prog 78 [.agg x.c, .c (.v (.int .i64 l))] [.val (.c (.v (.int .i64 (szRow x l))))]) (l : Int) (hl : 0 ≤ l) : Ctr Tryz.prog 20 [.c (.sl (xs.map DRow.c)), .c (.v (.int .i64 l))] [.val (.c (.v (.int .i64 (szS szRow xs l))))] := by
  refine Ctr.mk (fn := Tryz.f20) Tryz.call20 Tryz.func20 rfl mixed Tryz.ntmps20 Tryz.results20 (by kernel_rfl) rfl fun hw => ?_
  have hlen : xs.length ≤ 9223372036854775807 := by have := hw.1.1; simpa [Go.maxLen] using this
  have hl2 : l ≤ 9223372036854775807 := i64_le hw.2.1
  simp only [go_sem, Nat.reduceAdd, Nat.reduceSub, Nat.reduceMul, Nat.reduceLT, Nat.reduceLeDiff, Nat.reduceEqDiff, Nat.succ_ne_zero, reduceIte, List.length_map, wrap_i64 (n := l - xs.length) (by omega) (by omega)]
  refine cndC.mk (fun h => ?_) (fun h => ?_)
  · have h' : l - xs.length < 0 := by simpa using h
    simp only [go_sem, Nat.reduceAdd, Nat.reduceSub, Nat.reduceMul, Nat.reduceLT, Nat.reduceLeDiff, Nat.reduceEqDiff, Nat.succ_ne_zero, reduceIte]
    simp [szS, sq, szI, h']
  · have h' : ¬ l - xs.length < 0 := by simpa using h
    simp only [go_sem, Nat.reduceAdd, Nat.reduceSub, Nat.reduceMul, Nat.reduceLT, Nat.reduceLeDiff, Nat.reduceEqDiff, Nat.succ_ne_zero, reduceIte]
    refine LoopK.mk 0 [0, 1, 5] (A := Nat × Int) (fun x => ⟨27, [(0, .c (.sl (xs.map DRow.c))), (1, .c (.v (.int .i64 x.2))), (5, .c (.v (.int .i64 x.1)))], []⟩) (fun x => x.1 ≤ xs.length ∧ 0 ≤ x.2 ∧ szL szRow (xs.drop x.1) x.2 = szS szRow xs l) (fun x => xs.length - x.1)
      (0, l - xs.length) ⟨⟨rfl, rfl⟩, rfl, Nat.zero_le _, by simp only; omega, by simp [szS, sq, szI, h']⟩ ?_
    rintro ⟨k, m⟩ ⟨hk, hm0, hm⟩
    simp only at hk hm hm0
    simp only [go_sem, Nat.reduceAdd, Nat.reduceSub, Nat.reduceMul, Nat.reduceLT, Nat.reduceLeDiff, Nat.reduceEqDiff, Nat.succ_ne_zero, reduceIte, List.length_map]
    refine cndC.mk (fun h => ?_) (fun h => ?_)
    · have hk' : k < xs.length := by simpa using h
      simp only [go_sem, Nat.reduceAdd, Nat.reduceSub, Nat.reduceMul, Nat.reduceLT, Nat.reduceLeDiff, Nat.reduceEqDiff, Nat.succ_ne_zero, reduceIte, map_at _ hk']
      refine CallK.mk _ (by simpa only [go_sem] using hx xs[k] (List.getElem_mem hk') m hm0) fun _ => ?_
      simp only [go_sem, Nat.reduceAdd, Nat.reduceSub, Nat.reduceMul, Nat.reduceLT, Nat.reduceLeDiff, Nat.reduceEqDiff, Nat.succ_ne_zero, reduceIte]
      rw [List.drop_eq_getElem_cons hk'] at hm
      simp only [szL] at hm
      refine cndC.mk (fun h => ?_) (fun h => ?_)
      · have h' : szRow xs[k] m < 0 := by simpa using h
        simp only [go_sem, Nat.reduceAdd, Nat.reduceSub, Nat.reduceMul, Nat.reduceLT, Nat.reduceLeDiff, Nat.reduceEqDiff, Nat.succ_ne_zero, reduceIte]
        rw [sq_neg h'] at hm
        rw [hm]
      · have h' : ¬ szRow xs[k] m < 0 := by simpa using h
        rw [sq_pos h'] at hm
        simp only [go_sem, Nat.reduceAdd, Nat.reduceSub, Nat.reduceMul, Nat.reduceLT, Nat.reduceLeDiff, Nat.reduceEqDiff, Nat.succ_ne_zero, reduceIte, wrap_i64 (n := (k : Int) + 1) (by omega) (by omega)]
        exact ⟨(k + 1, szRow xs[k] m), ⟨rfl, rfl⟩, rfl, ⟨by simp only; omega, (by omega : (0 : Int) ≤ szRow xs[k] m), hm⟩, by simp only; omega⟩
    · have hk' : k = xs.length := by simp at h; omega
      subst hk'
      simp only [go_sem, Nat.reduceAdd, Nat.reduceSub, Nat.reduceMul, Nat.reduceLT, Nat.reduceLeDiff, Nat.reduceEqDiff, Nat.succ_ne_zero, reduceIte]
      simp [szL] at hm
      rw [hm]
theorem szRowS_spec (xs : List DRow) (l : Int) (hl : 0 ≤ l) : Ctr Tryz.prog 20 [.c (.sl (xs.map DRow.c)), .c (.v (.int .i64 l))] [.val (.c (.v (.int .i64 (szS szRow xs l))))] := szRowS_of xs (fun x _ l hl => szRow_spec x l hl) l hl
theorem szPredS_of (xs : List DPred) (hx : ∀ x ∈ xs, ∀ l, 0 ≤ l → Ctr Tryz.prog 110 [.agg x.c, .c (.v (.int .i64 l))] [.val (.c (.v (.int .i64 (szPred x l))))]) (l : Int) (hl : 0 ≤ l) : Ctr Tryz.prog 163 [.c (.sl (xs.map DPred.c)), .c (.v (.int .i64 l))] [.val (.c (.v (.int .i64 (szS szPred xs l))))] := by
  refine Ctr.mk (fn := Tryz.f163) Tryz.call163 Tryz.func163 rfl mixed Tryz.ntmps163 Tryz.results163 (by kernel_rfl) rfl fun hw => ?_
  have hlen : xs.length ≤ 9223372036854775807 := by have := hw.1.1; simpa [Go.maxLen] using this
  have hl2 : l ≤ 9223372036854775807 := i64_le hw.2.1
  simp only [go_sem, Nat.reduceAdd, Nat.reduceSub, Nat.reduceMul, Nat.reduceLT, Nat.reduceLeDiff, Nat.reduceEqDiff, Nat.succ_ne_zero, reduceIte, List.length_map, wrap_i64 (n := l - xs.length) (by omega) (by omega)]
  refine cndC.mk (fun h => ?_) (fun h => ?_)
  · have h' : l - xs.length < 0 := by simpa using h
    simp only [go_sem, Nat.reduceAdd, Nat.reduceSub, Nat.reduceMul, Nat.reduceLT, Nat.reduceLeDiff, Nat.reduceEqDiff, Nat.succ_ne_zero, reduceIte]
    simp [szS, sq, szI, h']
  · have h' : ¬ l - xs.length < 0 := by simpa using h
    simp only [go_sem, Nat.reduceAdd, Nat.reduceSub, Nat.reduceMul, Nat.reduceLT, Nat.reduceLeDiff, Nat.reduceEqDiff, Nat.succ_ne_zero, reduceIte]
    refine LoopK.mk 0 [0, 1, 5] (A := Nat × Int) (fun x => ⟨27, [(0, .c (.sl (xs.map DPred.c))), (1, .c (.v (.int .i64 x.2))), (5, .c (.v (.int .i64 x.1)))], []⟩) (fun x => x.1 ≤ xs.length ∧ 0 ≤ x.2 ∧ szL szPred (xs.drop x.1) x.2 = szS szPred xs l) (fun x => xs.length - x.1)
      (0, l - xs.length) ⟨⟨rfl, rfl⟩, rfl, Nat.zero_le _, by simp only; omega, by simp [szS, sq, szI, h']⟩ ?_
    rintro ⟨k, m⟩ ⟨hk, hm0, hm⟩
    simp only at hk hm hm0
    simp only [go_sem, Nat.reduceAdd, Nat.reduceSub, Nat.reduceMul, Nat.reduceLT, Nat.reduceLeDiff, Nat.reduceEqDiff, Nat.succ_ne_zero, reduceIte, List.length_map]
    refine cndC.mk (fun h => ?_) (fun h => ?_)
    · have hk' : k < xs.length := by simpa using h
      simp only [go_sem, Nat.reduceAdd, Nat.reduceSub, Nat.reduceMul, Nat.reduceLT, Nat.reduceLeDiff, Nat.reduceEqDiff, Nat.succ_ne_zero, reduceIte, map_at _ hk']
      refine CallK.mk _ (by simpa only [go_sem] using hx xs[k] (List.getElem_mem hk') m hm0) fun _ => ?_
      simp only [go_sem, Nat.reduceAdd, Nat.reduceSub, Nat.reduceMul, Nat.reduceLT, Nat.reduceLeDiff, Nat.reduceEqDiff, Nat.succ_ne_zero, reduceIte]
      rw [List.drop_eq_getElem_cons hk'] at hm
      simp only [szL] at hm
      refine cndC.mk (fun h => ?_) (fun h => ?_)
      · have h' : szPred xs[k] m < 0 := by simpa using h
        simp only [go_sem, Nat.reduceAdd, Nat.reduceSub, Nat.reduceMul, Nat.reduceLT, Nat.reduceLeDiff, Nat.reduceEqDiff, Nat.succ_ne_zero, reduceIte]
        rw [sq_neg h'] at hm
        rw [hm]
      · have h' : ¬ szPred xs[k] m < 0 := by simpa using h
        rw [sq_pos h'] at hm
        simp only [go_sem, Nat.reduceAdd, Nat.reduceSub, Nat.reduceMul, Nat.reduceLT, Nat.reduceLeDiff, Nat.reduceEqDiff, Nat.succ_ne_zero, reduceIte, wrap_i64 (n := (k : Int) + 1) (by omega) (by omega)]
        exact ⟨(k + 1, szPred xs[k] m), ⟨rfl, rfl⟩, rfl, ⟨by simp only; omega, (by omega : (0 : Int) ≤ szPred xs[k] m), hm⟩, by simp only; omega⟩
    · have hk' : k = xs.length := by simp at h; omega
      subst hk'
      simp only [go_sem, Nat.reduceAdd, Nat.reduceSub, Nat.reduceMul, Nat.reduceLT, Nat.reduceLeDiff, Nat.reduceEqDiff, Nat.succ_ne_zero, reduceIte]
      simp [szL] at hm
      rw [hm]
theorem szPred_of (d : DPred) (hx : ∀ x ∈ d.l, ∀ l, 0 ≤ l → Ctr Tryz.prog 110 [.agg x.c, .c (.v (.int .i64 l))] [.val (.c (.v (.int .i64 (szPred x l))))]) (l : Int) (hl : 0 ≤ l) : Ctr Tryz.prog 110 [.agg d.c, .c (.v (.int .i64 l))] [.val (.c (.v (.int .i64 (szPred d l))))] := by
  refine Ctr.mk (fn := Tryz.f110) Tryz.call110 Tryz.func110 rfl mixed Tryz.ntmps110 Tryz.results110 (by kernel_rfl) rfl fun hw => ?_
  rw [szPred_eq]
  simp only [go_sem, Nat.reduceAdd, Nat.reduceSub, Nat.reduceMul, Nat.reduceLT, Nat.reduceLeDiff, Nat.reduceEqDiff, Nat.succ_ne_zero, reduceIte]
  refine CallK.mk _ (by simpa only [go_sem] using szVal_spec d.v _ (by omega)) fun _ => ?_
  simp only [go_sem, Nat.reduceAdd, Nat.reduceSub, Nat.reduceMul, Nat.reduceLT, Nat.reduceLeDiff, Nat.reduceEqDiff, Nat.succ_ne_zero, reduceIte]
  refine cndC.mk (fun h => ?_) (fun h => ?_)
  · have h0 : szVal d.v (l) < 0 := by simpa using h
    simp only [go_sem, Nat.reduceAdd, Nat.reduceSub, Nat.reduceMul, Nat.reduceLT, Nat.reduceLeDiff, Nat.reduceEqDiff, Nat.succ_ne_zero, reduceIte]
    simp [sq, h0]
  · have h0 : ¬ szVal d.v (l) < 0 := by simpa using h
    simp only [go_sem, Nat.reduceAdd, Nat.reduceSub, Nat.reduceMul, Nat.reduceLT, Nat.reduceLeDiff, Nat.reduceEqDiff, Nat.succ_ne_zero, reduceIte]
    refine CallK.mk _ (by simpa only [go_sem] using szPredS_of d.l hx _ (by omega)) fun _ => ?_
    simp only [go_sem, Nat.reduceAdd, Nat.reduceSub, Nat.reduceMul, Nat.reduceLT, Nat.reduceLeDiff, Nat.reduceEqDiff, Nat.succ_ne_zero, reduceIte]
    refine cndC.mk (fun h => ?_) (fun h => ?_)
    · have h1 : szS szPred d.l (szVal d.v (l)) < 0 := by simpa using h
      simp only [go_sem, Nat.reduceAdd, Nat.reduceSub, Nat.reduceMul, Nat.reduceLT, Nat.reduceLeDiff, Nat.reduceEqDiff, Nat.succ_ne_zero, reduceIte]
      simp [sq, h0, h1]
    · have h1 : ¬ szS szPred d.l (szVal d.v (l)) < 0 := by simpa using h
      simp only [go_sem, Nat.reduceAdd, Nat.reduceSub, Nat.reduceMul, Nat.reduceLT, Nat.reduceLeDiff, Nat.reduceEqDiff, Nat.succ_ne_zero, reduceIte]
      simp [sq, h0, h1]
theorem szPred_fuel : ∀ (n : Nat) (d : DPred), SizeOf.sizeOf d ≤ n → ∀ l, 0 ≤ l → Ctr Tryz.prog 110 [.agg d.c, .c (.v (.int .i64 l))] [.val (.c (.v (.int .i64 (szPred d l))))]
  | 0, d, h => by cases d; simp at h
  | n + 1, d, h => szPred_of d fun x hx => szPred_fuel n x (by
    have h1 : SizeOf.sizeOf x < SizeOf.sizeOf d.l := List.sizeOf_lt_of_mem hx
    have h2 : SizeOf.sizeOf d.l < SizeOf.sizeOf d := by cases d; simp [DPred.l]; omega
    omega)
theorem szPred_spec (d : DPred) (l : Int) (hl : 0 ≤ l) : Ctr Tryz.prog 110 [.agg d.c, .c (.v (.int .i64 l))] [.val (.c (.v (.int .i64 (szPred d l))))] := szPred_fuel _ d (Nat.le_refl _) l hl
theorem szPredS_spec (xs : List DPred) (l : Int) (hl : 0 ≤ l) : Ctr Tryz.prog 163 [.c (.sl (xs.map DPred.c)), .c (.v (.int .i64 l))] [.val (.c (.v (.int .i64 (szS szPred xs l))))] := szPredS_of xs (fun x _ l hl => szPred_spec x l hl) l hl
theorem szQuery_spec (d : DQuery) (l : Int) (hl : 0 ≤ l) : Ctr Tryz.prog 42 [.agg d.c, .c (.v (.int .i64 l))] [.val (.c (.v (.int .i64 (szQuery d l))))] := by
  refine Ctr.mk (fn := Tryz.f42) Tryz.call42 Tryz.func42 rfl mixed Tryz.ntmps42 Tryz.results42 (by kernel_rfl) rfl fun hw => ?_
  rw [szQuery_eq]
  simp only [go_sem, Nat.reduceAdd, Nat.reduceSub, Nat.reduceMul, Nat.reduceLT, Nat.reduceLeDiff, Nat.reduceEqDiff, Nat.succ_ne_zero, reduceIte]
  refine CallK.mk _ (by simpa only [go_sem] using szPred_spec d.p _ (by omega)) fun _ => ?_
  simp only [go_sem, Nat.reduceAdd, Nat.reduceSub, Nat.reduceMul, Nat.reduceLT, Nat.reduceLeDiff, Nat.reduceEqDiff, Nat.succ_ne_zero, reduceIte]
  refine cndC.mk (fun h => ?_) (fun h => ?_)
  · have h0 : szPred d.p (l) < 0 := by simpa using h
    simp only [go_sem, Nat.reduceAdd, Nat.reduceSub, Nat.reduceMul, Nat.reduceLT, Nat.reduceLeDiff, Nat.reduceEqDiff, Nat.succ_ne_zero, reduceIte]
    simp [sq, h0]
  · have h0 : ¬ szPred d.p (l) < 0 := by simpa using h
    simp only [go_sem, Nat.reduceAdd, Nat.reduceSub, Nat.reduceMul, Nat.reduceLT, Nat.reduceLeDiff, Nat.reduceEqDiff, Nat.succ_ne_zero, reduceIte]
    refine CallK.mk _ (by simpa only [go_sem] using szIntS_spec d.out _ (by omega)) fun _ => ?_
    simp only [go_sem, Nat.reduceAdd, Nat.reduceSub, Nat.reduceMul, Nat.reduceLT, Nat.reduceLeDiff, Nat.reduceEqDiff, Nat.succ_ne_zero, reduceIte]
    refine cndC.mk (fun h => ?_) (fun h => ?_)
    · have h1 : szI d.out.length (szPred d.p (l)) < 0 := by simpa using h
      simp only [go_sem, Nat.reduceAdd, Nat.reduceSub, Nat.reduceMul, Nat.reduceLT, Nat.reduceLeDiff, Nat.reduceEqDiff, Nat.succ_ne_zero, reduceIte]
      simp [sq, h0, h1]
    · have h1 : ¬ szI d.out.length (szPred d.p (l)) < 0 := by simpa using h
      simp only [go_sem, Nat.reduceAdd, Nat.reduceSub, Nat.reduceMul, Nat.reduceLT, Nat.reduceLeDiff, Nat.reduceEqDiff, Nat.succ_ne_zero, reduceIte]
      simp [sq, h0, h1]
theorem szResult_spec (d : DResult) (l : Int) (hl : 0 ≤ l) : Ctr Tryz.prog 43 [.agg d.c, .c (.v (.int .i64 l))] [.val (.c (.v (.int .i64 (szResult d l))))] := by
  refine Ctr.mk (fn := Tryz.f43) Tryz.call43 Tryz.func43 rfl mixed Tryz.ntmps43 Tryz.results43 (by kernel_rfl) rfl fun hw => ?_
  rw [szResult_eq]
  simp only [go_sem, Nat.reduceAdd, Nat.reduceSub, Nat.reduceMul, Nat.reduceLT, Nat.reduceLeDiff, Nat.reduceEqDiff, Nat.succ_ne_zero, reduceIte]
  refine CallK.mk _ (by simpa only [go_sem] using szRowS_spec d.rows _ (by omega)) fun _ => ?_
  simp only [go_sem, Nat.reduceAdd, Nat.reduceSub, Nat.reduceMul, Nat.reduceLT, Nat.reduceLeDiff, Nat.reduceEqDiff, Nat.succ_ne_zero, reduceIte]
  refine cndC.mk (fun h => ?_) (fun h => ?_)
  · have h0 : szS szRow d.rows (l) < 0 := by simpa using h
    simp only [go_sem, Nat.reduceAdd, Nat.reduceSub, Nat.reduceMul, Nat.reduceLT, Nat.reduceLeDiff, Nat.reduceEqDiff, Nat.succ_ne_zero, reduceIte]
    simp [sq, h0]
  · have h0 : ¬ szS szRow d.rows (l) < 0 := by simpa using h
    simp only [go_sem, Nat.reduceAdd, Nat.reduceSub, Nat.reduceMul, Nat.reduceLT, Nat.reduceLeDiff, Nat.reduceEqDiff, Nat.succ_ne_zero, reduceIte]
    refine CallK.mk _ (by simpa only [go_sem] using szVal_spec d.v _ (by omega)) fun _ => ?_
    simp only [go_sem, Nat.reduceAdd, Nat.reduceSub, Nat.reduceMul, Nat.reduceLT, Nat.reduceLeDiff, Nat.reduceEqDiff, Nat.succ_ne_zero, reduceIte]
    refine cndC.mk (fun h => ?_) (fun h => ?_)
    · have h1 : szVal d.v (szS szRow d.rows (l)) < 0 := by simpa using h
      simp only [go_sem, Nat.reduceAdd, Nat.reduceSub, Nat.reduceMul, Nat.reduceLT, Nat.reduceLeDiff, Nat.reduceEqDiff, Nat.succ_ne_zero, reduceIte]
      simp [sq, h0, h1]
    · have h1 : ¬ szVal d.v (szS szRow d.rows (l)) < 0 := by simpa using h
      simp only [go_sem, Nat.reduceAdd, Nat.reduceSub, Nat.reduceMul, Nat.reduceLT, Nat.reduceLeDiff, Nat.reduceEqDiff, Nat.succ_ne_zero, reduceIte]
      simp [sq, h0, h1]
theorem szSlot_spec (d : DSlot) (l : Int) (hl : 0 ≤ l) : Ctr Tryz.prog 213 [.agg d.c, .c (.v (.int .i64 l))] [.val (.c (.v (.int .i64 (szSlot d l))))] := by
  refine Ctr.mk (fn := Tryz.f213) Tryz.call213 Tryz.func213 rfl mixed Tryz.ntmps213 Tryz.results213 (by kernel_rfl) rfl fun hw => ?_
  rw [szSlot_eq]
  simp only [go_sem, Nat.reduceAdd, Nat.reduceSub, Nat.reduceMul, Nat.reduceLT, Nat.reduceLeDiff, Nat.reduceEqDiff, Nat.succ_ne_zero, reduceIte]
  refine CallK.mk _ (by simpa only [go_sem] using szValS_spec d.l _ (by omega)) fun _ => ?_
  simp only [go_sem, Nat.reduceAdd, Nat.reduceSub, Nat.reduceMul, Nat.reduceLT, Nat.reduceLeDiff, Nat.reduceEqDiff, Nat.succ_ne_zero, reduceIte]
  refine cndC.mk (fun h => ?_) (fun h => ?_)
  · have h0 : szS szVal d.l (l) < 0 := by simpa using h
    simp only [go_sem, Nat.reduceAdd, Nat.reduceSub, Nat.reduceMul, Nat.reduceLT, Nat.reduceLeDiff, Nat.reduceEqDiff, Nat.succ_ne_zero, reduceIte]
    simp [sq, h0]
  · have h0 : ¬ szS szVal d.l (l) < 0 := by simpa using h
    simp only [go_sem, Nat.reduceAdd, Nat.reduceSub, Nat.reduceMul, Nat.reduceLT, Nat.reduceLeDiff, Nat.reduceEqDiff, Nat.succ_ne_zero, reduceIte]
    simp [sq, h0]
theorem szSlotS_of (xs : List DSlot) (hx : ∀ x ∈ xs, ∀ l, 0 ≤ l → Ctr Tryz.prog 213 [.agg x.c, .c (.v (.int .i64 l))] [.val (.c (.v (.int .i64 (szSlot x l))))]) (l : Int) (hl : 0 ≤ l) : Ctr Tryz.prog 200 [.c (.sl (xs.map DSlot.c)), .c (.v (.int .i64 l))] [.val (.c (.v (.int .i64 (szS szSlot xs l))))] := by
  refine Ctr.mk (fn := Tryz.f200) Tryz.call200 Tryz.func200 rfl mixed Tryz.ntmps200 Tryz.results200 (by kernel_rfl) rfl fun hw => ?_
  have hlen : xs.length ≤ 9223372036854775807 := by have := hw.1.1; simpa [Go.maxLen] using this
  have hl2 : l ≤ 9223372036854775807 := i64_le hw.2.1
  simp only [go_sem, Nat.reduceAdd, Nat.reduceSub, Nat.reduceMul, Nat.reduceLT, Nat.reduceLeDiff, Nat.reduceEqDiff, Nat.succ_ne_zero, reduceIte, List.length_map, wrap_i64 (n := l - xs.length) (by omega) (by omega)]
  refine cndC.mk (fun h => ?_) (fun h => ?_)
  · have h' : l - xs.length < 0 := by simpa using h
    simp only [go_sem, Nat.reduceAdd, Nat.reduceSub, Nat.reduceMul, Nat.reduceLT, Nat.reduceLeDiff, Nat.reduceEqDiff, Nat.succ_ne_zero, reduceIte]
    simp [szS, sq, szI, h']
  · have h' : ¬ l - xs.length < 0 := by simpa using h
    simp only [go_sem, Nat.reduceAdd, Nat.reduceSub, Nat.reduceMul, Nat.reduceLT, Nat.reduceLeDiff, Nat.reduceEqDiff, Nat.succ_ne_zero, reduceIte]
    refine LoopK.mk 0 [0, 1, 5] (A := Nat × Int) (fun x => ⟨27, [(0, .c (.sl (xs.map DSlot.c))), (1, .c (.v (.int .i64 x.2))), (5, .c (.v (.int .i64 x.1)))], []⟩) (fun x => x.1 ≤ xs.length ∧ 0 ≤ x.2 ∧ szL szSlot (xs.drop x.1) x.2 = szS szSlot xs l) (fun x => xs.length - x.1)
      (0, l - xs.length) ⟨⟨rfl, rfl⟩, rfl, Nat.zero_le _, by simp only; omega, by simp [szS, sq, szI, h']⟩ ?_
    rintro ⟨k, m⟩ ⟨hk, hm0, hm⟩
    simp only at hk hm hm0
    simp only [go_sem, Nat.reduceAdd, Nat.reduceSub, Nat.reduceMul, Nat.reduceLT, Nat.reduceLeDiff, Nat.reduceEqDiff, Nat.succ_ne_zero, reduceIte, List.length_map]
    refine cndC.mk (fun h => ?_) (fun h => ?_)
    · have hk' : k < xs.length := by simpa using h
      simp only [go_sem, Nat.reduceAdd, Nat.reduceSub, Nat.reduceMul, Nat.reduceLT, Nat.reduceLeDiff, Nat.reduceEqDiff, Nat.succ_ne_zero, reduceIte, map_at _ hk']
      refine CallK.mk _ (by simpa only [go_sem] using hx xs[k] (List.getElem_mem hk') m hm0) fun _ => ?_
      simp only [go_sem, Nat.reduceAdd, Nat.reduceSub, Nat.reduceMul, Nat.reduceLT, Nat.reduceLeDiff, Nat.reduceEqDiff, Nat.succ_ne_zero, reduceIte]
      rw [List.drop_eq_getElem_cons hk'] at hm
      simp only [szL] at hm
      refine cndC.mk (fun h => ?_) (fun h => ?_)
      · have h' : szSlot xs[k] m < 0 := by simpa using h
        simp only [go_sem, Nat.reduceAdd, Nat.reduceSub, Nat.reduceMul, Nat.reduceLT, Nat.reduceLeDiff, Nat.reduceEqDiff, Nat.succ_ne_zero, reduceIte]
        rw [sq_neg h'] at hm
        rw [hm]
      · have h' : ¬ szSlot xs[k] m < 0 := by simpa using h
        rw [sq_pos h'] at hm
        simp only [go_sem, Nat.reduceAdd, Nat.reduceSub, Nat.reduceMul, Nat.reduceLT, Nat.reduceLeDiff, Nat.reduceEqDiff, Nat.succ_ne_zero, reduceIte, wrap_i64 (n := (k : Int) + 1) (by omega) (by omega)]
        exact ⟨(k + 1, szSlot xs[k] m), ⟨rfl, rfl⟩, rfl, ⟨by simp only; omega, (by omega : (0 : Int) ≤ szSlot xs[k] m), hm⟩, by simp only; omega⟩
    · have hk' : k = xs.length := by simp at h; omega
      subst hk'
      simp only [go_sem, Nat.reduceAdd, Nat.reduceSub, Nat.reduceMul, Nat.reduceLT, Nat.reduceLeDiff, Nat.reduceEqDiff, Nat.succ_ne_zero, reduceIte]
      simp [szL] at hm
      rw [hm]
theorem szSlotS_spec (xs : List DSlot) (l : Int) (hl : 0 ≤ l) : Ctr Tryz.prog 200 [.c (.sl (xs.map DSlot.c)), .c (.v (.int .i64 l))] [.val (.c (.v (.int .i64 (szS szSlot xs l))))] := szSlotS_of xs (fun x _ l hl => szSlot_spec x l hl) l hl
theorem szChunk_spec (d : DChunk) (l : Int) (hl : 0 ≤ l) : Ctr Tryz.prog 179 [.agg d.c, .c (.v (.int .i64 l))] [.val (.c (.v (.int .i64 (szChunk d l))))] := by
  refine Ctr.mk (fn := Tryz.f179) Tryz.call179 Tryz.func179 rfl mixed Tryz.ntmps179 Tryz.results179 (by kernel_rfl) rfl fun hw => ?_
  rw [szChunk_eq]
  simp only [go_sem, Nat.reduceAdd, Nat.reduceSub, Nat.reduceMul, Nat.reduceLT, Nat.reduceLeDiff, Nat.reduceEqDiff, Nat.succ_ne_zero, reduceIte]
  refine CallK.mk _ (by simpa only [go_sem] using szSlotS_spec d.l _ (by omega)) fun _ => ?_
  simp only [go_sem, Nat.reduceAdd, Nat.reduceSub, Nat.reduceMul, Nat.reduceLT, Nat.reduceLeDiff, Nat.reduceEqDiff, Nat.succ_ne_zero, reduceIte]
  refine cndC.mk (fun h => ?_) (fun h => ?_)
  · have h0 : szS szSlot d.l (l) < 0 := by simpa using h
    simp only [go_sem, Nat.reduceAdd, Nat.reduceSub, Nat.reduceMul, Nat.reduceLT, Nat.reduceLeDiff, Nat.reduceEqDiff, Nat.succ_ne_zero, reduceIte]
    simp [sq, h0]
  · have h0 : ¬ szS szSlot d.l (l) < 0 := by simpa using h
    simp only [go_sem, Nat.reduceAdd, Nat.reduceSub, Nat.reduceMul, Nat.reduceLT, Nat.reduceLeDiff, Nat.reduceEqDiff, Nat.succ_ne_zero, reduceIte]
    simp [sq, h0]
theorem szBuf_spec (d : DBuf) (l : Int) (hl : 0 ≤ l) : Ctr Tryz.prog 140 [.agg d.c, .c (.v (.int .i64 l))] [.val (.c (.v (.int .i64 (szBuf d l))))] := by
  refine Ctr.mk (fn := Tryz.f140) Tryz.call140 Tryz.func140 rfl mixed Tryz.ntmps140 Tryz.results140 (by kernel_rfl) rfl fun hw => ?_
  rw [szBuf_eq]
  simp only [go_sem, Nat.reduceAdd, Nat.reduceSub, Nat.reduceMul, Nat.reduceLT, Nat.reduceLeDiff, Nat.reduceEqDiff, Nat.succ_ne_zero, reduceIte]
  refine CallK.mk _ (by simpa only [go_sem] using szChunk_spec d.c0 _ (by omega)) fun _ => ?_
  simp only [go_sem, Nat.reduceAdd, Nat.reduceSub, Nat.reduceMul, Nat.reduceLT, Nat.reduceLeDiff, Nat.reduceEqDiff, Nat.succ_ne_zero, reduceIte]
  refine cndC.mk (fun h => ?_) (fun h => ?_)
  · have h0 : szChunk d.c0 (l) < 0 := by simpa using h
    simp only [go_sem, Nat.reduceAdd, Nat.reduceSub, Nat.reduceMul, Nat.reduceLT, Nat.reduceLeDiff, Nat.reduceEqDiff, Nat.succ_ne_zero, reduceIte]
    simp [sq, h0]
  · have h0 : ¬ szChunk d.c0 (l) < 0 := by simpa using h
    simp only [go_sem, Nat.reduceAdd, Nat.reduceSub, Nat.reduceMul, Nat.reduceLT, Nat.reduceLeDiff, Nat.reduceEqDiff, Nat.succ_ne_zero, reduceIte]
    refine CallK.mk _ (by simpa only [go_sem] using szByteS_spec d.g _ (by omega)) fun _ => ?_
    simp only [go_sem, Nat.reduceAdd, Nat.reduceSub, Nat.reduceMul, Nat.reduceLT, Nat.reduceLeDiff, Nat.reduceEqDiff, Nat.succ_ne_zero, reduceIte]
    refine cndC.mk (fun h => ?_) (fun h => ?_)
    · have h1 : szI d.g.length (szChunk d.c0 (l)) < 0 := by simpa using h
      simp only [go_sem, Nat.reduceAdd, Nat.reduceSub, Nat.reduceMul, Nat.reduceLT, Nat.reduceLeDiff, Nat.reduceEqDiff, Nat.succ_ne_zero, reduceIte]
      simp [sq, h0, h1]
    · have h1 : ¬ szI d.g.length (szChunk d.c0 (l)) < 0 := by simpa using h
      simp only [go_sem, Nat.reduceAdd, Nat.reduceSub, Nat.reduceMul, Nat.reduceLT, Nat.reduceLeDiff, Nat.reduceEqDiff, Nat.succ_ne_zero, reduceIte]
      simp [sq, h0, h1]
theorem szBufS_of (xs : List DBuf) (hx : ∀ x ∈ xs, ∀ l, 0 ≤ l → Ctr Tryz.prog 140 [.agg x.c, .c (.v (.int .i64 l))] [.val (.c (.v (.int .i64 (szBuf x l))))]) (l : Int) (hl : 0 ≤ l) : Ctr Tryz.prog 75 [.c (.sl (xs.map DBuf.c)), .c (.v (.int .i64 l))] [.val (.c (.v (.int .i64 (szS szBuf xs l))))] := by
  refine Ctr.mk (fn := Tryz.f75) Tryz.call75 Tryz.func75 rfl mixed Tryz.ntmps75 Tryz.results75 (by kernel_rfl) rfl fun hw => ?_
  have hlen : xs.length ≤ 9223372036854775807 := by have := hw.1.1; simpa [Go.maxLen] using this
  have hl2 : l ≤ 9223372036854775807 := i64_le hw.2.1
  simp only [go_sem, Nat.reduceAdd, Nat.reduceSub, Nat.reduceMul, Nat.reduceLT, Nat.reduceLeDiff, Nat.reduceEqDiff, Nat.succ_ne_zero, reduceIte, List.length_map, wrap_i64 (n := l - xs.length) (by omega) (by omega)]
  refine cndC.mk (fun h => ?_) (fun h => ?_)
  · have h' : l - xs.length < 0 := by simpa using h
    simp only [go_sem, Nat.reduceAdd, Nat.reduceSub, Nat.reduceMul, Nat.reduceLT, Nat.reduceLeDiff, Nat.reduceEqDiff, Nat.succ_ne_zero, reduceIte]
    simp [szS, sq, szI, h']
  · have h' : ¬ l - xs.length < 0 := by simpa using h
    simp only [go_sem, Nat.reduceAdd, Nat.reduceSub, Nat.reduceMul, Nat.reduceLT, Nat.reduceLeDiff, Nat.reduceEqDiff, Nat.succ_ne_zero, reduceIte]
    refine LoopK.mk 0 [0, 1, 5] (A := Nat × Int) (fun x => ⟨27, [(0, .c (.sl (xs.map DBuf.c))), (1, .c (.v (.int .i64 x.2))), (5, .c (.v (.int .i64 x.1)))], []⟩) (fun x => x.1 ≤ xs.length ∧ 0 ≤ x.2 ∧ szL szBuf (xs.drop x.1) x.2 = szS szBuf xs l) (fun x => xs.length - x.1)
      (0, l - xs.length) ⟨⟨rfl, rfl⟩, rfl, Nat.zero_le _, by simp only; omega, by simp [szS, sq, szI, h']⟩ ?_
    rintro ⟨k, m⟩ ⟨hk, hm0, hm⟩
    simp only at hk hm hm0
    simp only [go_sem, Nat.reduceAdd, Nat.reduceSub, Nat.reduceMul, Nat.reduceLT, Nat.reduceLeDiff, Nat.reduceEqDiff, Nat.succ_ne_zero, reduceIte, List.length_map]
    refine cndC.mk (fun h => ?_) (fun h => ?_)
    · have hk' : k < xs.length := by simpa using h
      simp only [go_sem, Nat.reduceAdd, Nat.reduceSub, Nat.reduceMul, Nat.reduceLT, Nat.reduceLeDiff, Nat.reduceEqDiff, Nat.succ_ne_zero, reduceIte, map_at _ hk']
      refine CallK.mk _ (by simpa only [go_sem] using hx xs[k] (List.getElem_mem hk') m hm0) fun _ => ?_
      simp only [go_sem, Nat.reduceAdd, Nat.reduceSub, Nat.reduceMul, Nat.reduceLT, Nat.reduceLeDiff, Nat.reduceEqDiff, Nat.succ_ne_zero, reduceIte]
      rw [List.drop_eq_getElem_cons hk'] at hm
      simp only [szL] at hm
      refine cndC.mk (fun h => ?_) (fun h => ?_)
      · have h' : szBuf xs[k] m < 0 := by simpa using h
        simp only [go_sem, Nat.reduceAdd, Nat.reduceSub, Nat.reduceMul, Nat.reduceLT, Nat.reduceLeDiff, Nat.reduceEqDiff, Nat.succ_ne_zero, reduceIte]
        rw [sq_neg h'] at hm
        rw [hm]
      · have h' : ¬ szBuf xs[k] m < 0 := by simpa using h
        rw [sq_pos h'] at hm
        simp only [go_sem, Nat.reduceAdd, Nat.reduceSub, Nat.reduceMul, Nat.reduceLT, Nat.reduceLeDiff, Nat.reduceEqDiff, Nat.succ_ne_zero, reduceIte, wrap_i64 (n := (k : Int) + 1) (by omega) (by omega)]
        exact ⟨(k + 1, szBuf xs[k] m), ⟨rfl, rfl⟩, rfl, ⟨by simp only; omega, (by omega : (0 : Int) ≤ szBuf xs[k] m), hm⟩, by simp only; omega⟩
    · have hk' : k = xs.length := by simp at h; omega
      subst hk'
      simp only [go_sem, Nat.reduceAdd, Nat.reduceSub, Nat.reduceMul, Nat.reduceLT, Nat.reduceLeDiff, Nat.reduceEqDiff, Nat.succ_ne_zero, reduceIte]
      simp [szL] at hm
      rw [hm]
theorem szBufS_spec (xs : List DBuf) (l : Int) (hl : 0 ≤ l) : Ctr Tryz.prog 75 [.c (.sl (xs.map DBuf.c)), .c (.v (.int .i64 l))] [.val (.c (.v (.int .i64 (szS szBuf xs l))))] := szBufS_of xs (fun x _ l hl => szBuf_spec x l hl) l hl
theorem szDeadS_spec (xs : List DDead) (l : Int) (hl : 0 ≤ l) : Ctr Tryz.prog 76 [.c (.sl (xs.map DDead.c)), .c (.v (.int .i64 l))] [.val (.c (.v (.int .i64 (szI xs.length l))))] := by
  refine Ctr.mk (fn := Tryz.f76) Tryz.call76 Tryz.func76 rfl mixed Tryz.ntmps76 Tryz.results76 (by kernel_rfl) rfl fun hw => ?_
  have hlen : xs.length ≤ 9223372036854775807 := by have := hw.1.1; simpa [Go.maxLen] using this
  have hl2 : l ≤ 9223372036854775807 := i64_le hw.2.1
  simp only [go_sem, Nat.reduceAdd, Nat.reduceSub, Nat.reduceMul, Nat.reduceLT, Nat.reduceLeDiff, Nat.reduceEqDiff, Nat.succ_ne_zero, reduceIte, List.length_map, wrap_i64 (n := l - xs.length) (by omega) (by omega)]
  refine cndC.mk (fun h => ?_) (fun h => ?_)
  · have h' : l - xs.length < 0 := by simpa using h
    simp only [go_sem, Nat.reduceAdd, Nat.reduceSub, Nat.reduceMul, Nat.reduceLT, Nat.reduceLeDiff, Nat.reduceEqDiff, Nat.succ_ne_zero, reduceIte]
    simp [szI, h']
  · have h' : ¬ l - xs.length < 0 := by simpa using h
    simp only [go_sem, Nat.reduceAdd, Nat.reduceSub, Nat.reduceMul, Nat.reduceLT, Nat.reduceLeDiff, Nat.reduceEqDiff, Nat.succ_ne_zero, reduceIte]
    simp [szI, h']
theorem szRefS_spec (xs : List DRef) (l : Int) (hl : 0 ≤ l) : Ctr Tryz.prog 139 [.c (.sl (xs.map DRef.c)), .c (.v (.int .i64 l))] [.val (.c (.v (.int .i64 (szI xs.length l))))] := by
  refine Ctr.mk (fn := Tryz.f139) Tryz.call139 Tryz.func139 rfl mixed Tryz.ntmps139 Tryz.results139 (by kernel_rfl) rfl fun hw => ?_
  have hlen : xs.length ≤ 9223372036854775807 := by have := hw.1.1; simpa [Go.maxLen] using this
  have hl2 : l ≤ 9223372036854775807 := i64_le hw.2.1
  simp only [go_sem, Nat.reduceAdd, Nat.reduceSub, Nat.reduceMul, Nat.reduceLT, Nat.reduceLeDiff, Nat.reduceEqDiff, Nat.succ_ne_zero, reduceIte, List.length_map, wrap_i64 (n := l - xs.length) (by omega) (by omega)]
  refine cndC.mk (fun h => ?_) (fun h => ?_)
  · have h' : l - xs.length < 0 := by simpa using h
    simp only [go_sem, Nat.reduceAdd, Nat.reduceSub, Nat.reduceMul, Nat.reduceLT, Nat.reduceLeDiff, Nat.reduceEqDiff, Nat.succ_ne_zero, reduceIte]
    simp [szI, h']
  · have h' : ¬ l - xs.length < 0 := by simpa using h
    simp only [go_sem, Nat.reduceAdd, Nat.reduceSub, Nat.reduceMul, Nat.reduceLT, Nat.reduceLeDiff, Nat.reduceEqDiff, Nat.succ_ne_zero, reduceIte]
    simp [szI, h']
theorem szDir_spec (d : DDir) (l : Int) (hl : 0 ≤ l) : Ctr Tryz.prog 74 [.agg d.c, .c (.v (.int .i64 l))] [.val (.c (.v (.int .i64 (szDir d l))))] := by
  refine Ctr.mk (fn := Tryz.f74) Tryz.call74 Tryz.func74 rfl mixed Tryz.ntmps74 Tryz.results74 (by kernel_rfl) rfl fun hw => ?_
  rw [szDir_eq]
  simp only [go_sem, Nat.reduceAdd, Nat.reduceSub, Nat.reduceMul, Nat.reduceLT, Nat.reduceLeDiff, Nat.reduceEqDiff, Nat.succ_ne_zero, reduceIte]
  refine CallK.mk _ (by simpa only [go_sem] using szRefS_spec d.l _ (by omega)) fun _ => ?_
  simp only [go_sem, Nat.reduceAdd, Nat.reduceSub, Nat.reduceMul, Nat.reduceLT, Nat.reduceLeDiff, Nat.reduceEqDiff, Nat.succ_ne_zero, reduceIte]
  refine cndC.mk (fun h => ?_) (fun h => ?_)
  · have h0 : szI d.l.length (l) < 0 := by simpa using h
    simp only [go_sem, Nat.reduceAdd, Nat.reduceSub, Nat.reduceMul, Nat.reduceLT, Nat.reduceLeDiff, Nat.reduceEqDiff, Nat.succ_ne_zero, reduceIte]
    simp [sq, h0]
  · have h0 : ¬ szI d.l.length (l) < 0 := by simpa using h
    simp only [go_sem, Nat.reduceAdd, Nat.reduceSub, Nat.reduceMul, Nat.reduceLT, Nat.reduceLeDiff, Nat.reduceEqDiff, Nat.succ_ne_zero, reduceIte]
    simp [sq, h0]
theorem szTask_spec (d : DTask) (l : Int) (hl : 0 ≤ l) : Ctr Tryz.prog 141 [.agg d.c, .c (.v (.int .i64 l))] [.val (.c (.v (.int .i64 (szTask d l))))] := by
  refine Ctr.mk (fn := Tryz.f141) Tryz.call141 Tryz.func141 rfl mixed Tryz.ntmps141 Tryz.results141 (by kernel_rfl) rfl fun hw => ?_
  rw [szTask_eq]
  simp only [go_sem, Nat.reduceAdd, Nat.reduceSub, Nat.reduceMul, Nat.reduceLT, Nat.reduceLeDiff, Nat.reduceEqDiff, Nat.succ_ne_zero, reduceIte]
  refine CallK.mk _ (by simpa only [go_sem] using szValS_spec d.r _ (by omega)) fun _ => ?_
  simp only [go_sem, Nat.reduceAdd, Nat.reduceSub, Nat.reduceMul, Nat.reduceLT, Nat.reduceLeDiff, Nat.reduceEqDiff, Nat.succ_ne_zero, reduceIte]
  refine cndC.mk (fun h => ?_) (fun h => ?_)
  · have h0 : szS szVal d.r (l) < 0 := by simpa using h
    simp only [go_sem, Nat.reduceAdd, Nat.reduceSub, Nat.reduceMul, Nat.reduceLT, Nat.reduceLeDiff, Nat.reduceEqDiff, Nat.succ_ne_zero, reduceIte]
    simp [sq, h0]
  · have h0 : ¬ szS szVal d.r (l) < 0 := by simpa using h
    simp only [go_sem, Nat.reduceAdd, Nat.reduceSub, Nat.reduceMul, Nat.reduceLT, Nat.reduceLeDiff, Nat.reduceEqDiff, Nat.succ_ne_zero, reduceIte]
    refine CallK.mk _ (by simpa only [go_sem] using szQuery_spec d.q _ (by omega)) fun _ => ?_
    simp only [go_sem, Nat.reduceAdd, Nat.reduceSub, Nat.reduceMul, Nat.reduceLT, Nat.reduceLeDiff, Nat.reduceEqDiff, Nat.succ_ne_zero, reduceIte]
    refine cndC.mk (fun h => ?_) (fun h => ?_)
    · have h1 : szQuery d.q (szS szVal d.r (l)) < 0 := by simpa using h
      simp only [go_sem, Nat.reduceAdd, Nat.reduceSub, Nat.reduceMul, Nat.reduceLT, Nat.reduceLeDiff, Nat.reduceEqDiff, Nat.succ_ne_zero, reduceIte]
      simp [sq, h0, h1]
    · have h1 : ¬ szQuery d.q (szS szVal d.r (l)) < 0 := by simpa using h
      simp only [go_sem, Nat.reduceAdd, Nat.reduceSub, Nat.reduceMul, Nat.reduceLT, Nat.reduceLeDiff, Nat.reduceEqDiff, Nat.succ_ne_zero, reduceIte]
      refine CallK.mk _ (by simpa only [go_sem] using szRefS_spec d.l _ (by omega)) fun _ => ?_
      simp only [go_sem, Nat.reduceAdd, Nat.reduceSub, Nat.reduceMul, Nat.reduceLT, Nat.reduceLeDiff, Nat.reduceEqDiff, Nat.succ_ne_zero, reduceIte]
      refine cndC.mk (fun h => ?_) (fun h => ?_)
      · have h2 : szI d.l.length (szQuery d.q (szS szVal d.r (l))) < 0 := by simpa using h
        simp only [go_sem, Nat.reduceAdd, Nat.reduceSub, Nat.reduceMul, Nat.reduceLT, Nat.reduceLeDiff, Nat.reduceEqDiff, Nat.succ_ne_zero, reduceIte]
        simp [sq, h0, h1, h2]
      · have h2 : ¬ szI d.l.length (szQuery d.q (szS szVal d.r (l))) < 0 := by simpa using h
        simp only [go_sem, Nat.reduceAdd, Nat.reduceSub, Nat.reduceMul, Nat.reduceLT, Nat.reduceLeDiff, Nat.reduceEqDiff, Nat.succ_ne_zero, reduceIte]
        refine CallK.mk _ (by simpa only [go_sem] using szRowS_spec d.got _ (by omega)) fun _ => ?_
        simp only [go_sem, Nat.reduceAdd, Nat.reduceSub, Nat.reduceMul, Nat.reduceLT, Nat.reduceLeDiff, Nat.reduceEqDiff, Nat.succ_ne_zero, reduceIte]
        refine cndC.mk (fun h => ?_) (fun h => ?_)
        · have h3 : szS szRow d.got (szI d.l.length (szQuery d.q (szS szVal d.r (l)))) < 0 := by simpa using h
          simp only [go_sem, Nat.reduceAdd, Nat.reduceSub, Nat.reduceMul, Nat.reduceLT, Nat.reduceLeDiff, Nat.reduceEqDiff, Nat.succ_ne_zero, reduceIte]
          simp [sq, h0, h1, h2, h3]
        · have h3 : ¬ szS szRow d.got (szI d.l.length (szQuery d.q (szS szVal d.r (l)))) < 0 := by simpa using h
          simp only [go_sem, Nat.reduceAdd, Nat.reduceSub, Nat.reduceMul, Nat.reduceLT, Nat.reduceLeDiff, Nat.reduceEqDiff, Nat.succ_ne_zero, reduceIte]
          simp [sq, h0, h1, h2, h3]
theorem szTaskS_of (xs : List DTask) (hx : ∀ x ∈ xs, ∀ l, 0 ≤ l → Ctr Tryz.prog 141 [.agg x.c, .c (.v (.int .i64 l))] [.val (.c (.v (.int .i64 (szTask x l))))]) (l : Int) (hl : 0 ≤ l) : Ctr Tryz.prog 77 [.c (.sl (xs.map DTask.c)), .c (.v (.int .i64 l))] [.val (.c (.v (.int .i64 (szS szTask xs l))))] := by
  refine Ctr.mk (fn := Tryz.f77) Tryz.call77 Tryz.func77 rfl mixed Tryz.ntmps77 Tryz.results77 (by kernel_rfl) rfl fun hw => ?_
  have hlen : xs.length ≤ 9223372036854775807 := by have := hw.1.1; simpa [Go.maxLen] using this
  have hl2 : l ≤ 9223372036854775807 := i64_le hw.2.1
  simp only [go_sem, Nat.reduceAdd, Nat.reduceSub, Nat.reduceMul, Nat.reduceLT, Nat.reduceLeDiff, Nat.reduceEqDiff, Nat.succ_ne_zero, reduceIte, List.length_map, wrap_i64 (n := l - xs.length) (by omega) (by omega)]
  refine cndC.mk (fun h => ?_) (fun h => ?_)
  · have h' : l - xs.length < 0 := by simpa using h
    simp only [go_sem, Nat.reduceAdd, Nat.reduceSub, Nat.reduceMul, Nat.reduceLT, Nat.reduceLeDiff, Nat.reduceEqDiff, Nat.succ_ne_zero, reduceIte]
    simp [szS, sq, szI, h']
  · have h' : ¬ l - xs.length < 0 := by simpa using h
    simp only [go_sem, Nat.reduceAdd, Nat.reduceSub, Nat.reduceMul, Nat.reduceLT, Nat.reduceLeDiff, Nat.reduceEqDiff, Nat.succ_ne_zero, reduceIte]
    refine LoopK.mk 0 [0, 1, 5] (A := Nat × Int) (fun x => ⟨27, [(0, .c (.sl (xs.map DTask.c))), (1, .c (.v (.int .i64 x.2))), (5, .c (.v (.int .i64 x.1)))], []⟩) (fun x => x.1 ≤ xs.length ∧ 0 ≤ x.2 ∧ szL szTask (xs.drop x.1) x.2 = szS szTask xs l) (fun x => xs.length - x.1)
      (0, l - xs.length) ⟨⟨rfl, rfl⟩, rfl, Nat.zero_le _, by simp only; omega, by simp [szS, sq, szI, h']⟩ ?_
    rintro ⟨k, m⟩ ⟨hk, hm0, hm⟩
    simp only at hk hm hm0
    simp only [go_sem, Nat.reduceAdd, Nat.reduceSub, Nat.reduceMul, Nat.reduceLT, Nat.reduceLeDiff, Nat.reduceEqDiff, Nat.succ_ne_zero, reduceIte, List.length_map]
    refine cndC.mk (fun h => ?_) (fun h => ?_)
    · have hk' : k < xs.length := by simpa using h
      simp only [go_sem, Nat.reduceAdd, Nat.reduceSub, Nat.reduceMul, Nat.reduceLT, Nat.reduceLeDiff, Nat.reduceEqDiff, Nat.succ_ne_zero, reduceIte, map_at _ hk']
      refine CallK.mk _ (by simpa only [go_sem] using hx xs[k] (List.getElem_mem hk') m hm0) fun _ => ?_
      simp only [go_sem, Nat.reduceAdd, Nat.reduceSub, Nat.reduceMul, Nat.reduceLT, Nat.reduceLeDiff, Nat.reduceEqDiff, Nat.succ_ne_zero, reduceIte]
      rw [List.drop_eq_getElem_cons hk'] at hm
      simp only [szL] at hm
      refine cndC.mk (fun h => ?_) (fun h => ?_)
      · have h' : szTask xs[k] m < 0 := by simpa using h
        simp only [go_sem, Nat.reduceAdd, Nat.reduceSub, Nat.reduceMul, Nat.reduceLT, Nat.reduceLeDiff, Nat.reduceEqDiff, Nat.succ_ne_zero, reduceIte]
        rw [sq_neg h'] at hm
        rw [hm]
      · have h' : ¬ szTask xs[k] m < 0 := by simpa using h
        rw [sq_pos h'] at hm
        simp only [go_sem, Nat.reduceAdd, Nat.reduceSub, Nat.reduceMul, Nat.reduceLT, Nat.reduceLeDiff, Nat.reduceEqDiff, Nat.succ_ne_zero, reduceIte, wrap_i64 (n := (k : Int) + 1) (by omega) (by omega)]
        exact ⟨(k + 1, szTask xs[k] m), ⟨rfl, rfl⟩, rfl, ⟨by simp only; omega, (by omega : (0 : Int) ≤ szTask xs[k] m), hm⟩, by simp only; omega⟩
    · have hk' : k = xs.length := by simp at h; omega
      subst hk'
      simp only [go_sem, Nat.reduceAdd, Nat.reduceSub, Nat.reduceMul, Nat.reduceLT, Nat.reduceLeDiff, Nat.reduceEqDiff, Nat.succ_ne_zero, reduceIte]
      simp [szL] at hm
      rw [hm]
theorem szTaskS_spec (xs : List DTask) (l : Int) (hl : 0 ≤ l) : Ctr Tryz.prog 77 [.c (.sl (xs.map DTask.c)), .c (.v (.int .i64 l))] [.val (.c (.v (.int .i64 (szS szTask xs l))))] := szTaskS_of xs (fun x _ l hl => szTask_spec x l hl) l hl
theorem szDeed_spec (d : DDeed) (l : Int) (hl : 0 ≤ l) : Ctr Tryz.prog 9 [.agg d.c, .c (.v (.int .i64 l))] [.val (.c (.v (.int .i64 (szDeed d l))))] := by
  refine Ctr.mk (fn := Tryz.f9) Tryz.call9 Tryz.func9 rfl mixed Tryz.ntmps9 Tryz.results9 (by kernel_rfl) rfl fun hw => ?_
  rw [szDeed_eq]
  simp only [go_sem, Nat.reduceAdd, Nat.reduceSub, Nat.reduceMul, Nat.reduceLT, Nat.reduceLeDiff, Nat.reduceEqDiff, Nat.succ_ne_zero, reduceIte]
  refine CallK.mk _ (by simpa only [go_sem] using szValS_spec d.r _ (by omega)) fun _ => ?_
  simp only [go_sem, Nat.reduceAdd, Nat.reduceSub, Nat.reduceMul, Nat.reduceLT, Nat.reduceLeDiff, Nat.reduceEqDiff, Nat.succ_ne_zero, reduceIte]
  refine cndC.mk (fun h => ?_) (fun h => ?_)
  · have h0 : szS szVal d.r (l) < 0 := by simpa using h
    simp only [go_sem, Nat.reduceAdd, Nat.reduceSub, Nat.reduceMul, Nat.reduceLT, Nat.reduceLeDiff, Nat.reduceEqDiff, Nat.succ_ne_zero, reduceIte]
    simp [sq, h0]
  · have h0 : ¬ szS szVal d.r (l) < 0 := by simpa using h
    simp only [go_sem, Nat.reduceAdd, Nat.reduceSub, Nat.reduceMul, Nat.reduceLT, Nat.reduceLeDiff, Nat.reduceEqDiff, Nat.succ_ne_zero, reduceIte]
    refine CallK.mk _ (by simpa only [go_sem] using szQuery_spec d.q _ (by omega)) fun _ => ?_
    simp only [go_sem, Nat.reduceAdd, Nat.reduceSub, Nat.reduceMul, Nat.reduceLT, Nat.reduceLeDiff, Nat.reduceEqDiff, Nat.succ_ne_zero, reduceIte]
    refine cndC.mk (fun h => ?_) (fun h => ?_)
    · have h1 : szQuery d.q (szS szVal d.r (l)) < 0 := by simpa using h
      simp only [go_sem, Nat.reduceAdd, Nat.reduceSub, Nat.reduceMul, Nat.reduceLT, Nat.reduceLeDiff, Nat.reduceEqDiff, Nat.succ_ne_zero, reduceIte]
      simp [sq, h0, h1]
    · have h1 : ¬ szQuery d.q (szS szVal d.r (l)) < 0 := by simpa using h
      simp only [go_sem, Nat.reduceAdd, Nat.reduceSub, Nat.reduceMul, Nat.reduceLT, Nat.reduceLeDiff, Nat.reduceEqDiff, Nat.succ_ne_zero, reduceIte]
      refine CallK.mk _ (by simpa only [go_sem] using szResult_spec d.res _ (by omega)) fun _ => ?_
      simp only [go_sem, Nat.reduceAdd, Nat.reduceSub, Nat.reduceMul, Nat.reduceLT, Nat.reduceLeDiff, Nat.reduceEqDiff, Nat.succ_ne_zero, reduceIte]
      refine cndC.mk (fun h => ?_) (fun h => ?_)
      · have h2 : szResult d.res (szQuery d.q (szS szVal d.r (l))) < 0 := by simpa using h
        simp only [go_sem, Nat.reduceAdd, Nat.reduceSub, Nat.reduceMul, Nat.reduceLT, Nat.reduceLeDiff, Nat.reduceEqDiff, Nat.succ_ne_zero, reduceIte]
        simp [sq, h0, h1, h2]
      · have h2 : ¬ szResult d.res (szQuery d.q (szS szVal d.r (l))) < 0 := by simpa using h
        simp only [go_sem, Nat.reduceAdd, Nat.reduceSub, Nat.reduceMul, Nat.reduceLT, Nat.reduceLeDiff, Nat.reduceEqDiff, Nat.succ_ne_zero, reduceIte]
        simp [sq, h0, h1, h2]
theorem szDeedS_of (xs : List DDeed) (hx : ∀ x ∈ xs, ∀ l, 0 ≤ l → Ctr Tryz.prog 9 [.agg x.c, .c (.v (.int .i64 l))] [.val (.c (.v (.int .i64 (szDeed x l))))]) (l : Int) (hl : 0 ≤ l) : Ctr Tryz.prog 30 [.c (.sl (xs.map DDeed.c)), .c (.v (.int .i64 l))] [.val (.c (.v (.int .i64 (szS szDeed xs l))))] := by
  refine Ctr.mk (fn := Tryz.f30) Tryz.call30 Tryz.func30 rfl mixed Tryz.ntmps30 Tryz.results30 (by kernel_rfl) rfl fun hw => ?_
  have hlen : xs.length ≤ 9223372036854775807 := by have := hw.1.1; simpa [Go.maxLen] using this
  have hl2 : l ≤ 9223372036854775807 := i64_le hw.2.1
  simp only [go_sem, Nat.reduceAdd, Nat.reduceSub, Nat.reduceMul, Nat.reduceLT, Nat.reduceLeDiff, Nat.reduceEqDiff, Nat.succ_ne_zero, reduceIte, List.length_map, wrap_i64 (n := l - xs.length) (by omega) (by omega)]
  refine cndC.mk (fun h => ?_) (fun h => ?_)
  · have h' : l - xs.length < 0 := by simpa using h
    simp only [go_sem, Nat.reduceAdd, Nat.reduceSub, Nat.reduceMul, Nat.reduceLT, Nat.reduceLeDiff, Nat.reduceEqDiff, Nat.succ_ne_zero, reduceIte]
    simp [szS, sq, szI, h']
  · have h' : ¬ l - xs.length < 0 := by simpa using h
    simp only [go_sem, Nat.reduceAdd, Nat.reduceSub, Nat.reduceMul, Nat.reduceLT, Nat.reduceLeDiff, Nat.reduceEqDiff, Nat.succ_ne_zero, reduceIte]
    refine LoopK.mk 0 [0, 1, 5] (A := Nat × Int) (fun x => ⟨27, [(0, .c (.sl (xs.map DDeed.c))), (1, .c (.v (.int .i64 x.2))), (5, .c (.v (.int .i64 x.1)))], []⟩) (fun x => x.1 ≤ xs.length ∧ 0 ≤ x.2 ∧ szL szDeed (xs.drop x.1) x.2 = szS szDeed xs l) (fun x => xs.length - x.1)
      (0, l - xs.length) ⟨⟨rfl, rfl⟩, rfl, Nat.zero_le _, by simp only; omega, by simp [szS, sq, szI, h']⟩ ?_
    rintro ⟨k, m⟩ ⟨hk, hm0, hm⟩
    simp only at hk hm hm0
    simp only [go_sem, Nat.reduceAdd, Nat.reduceSub, Nat.reduceMul, Nat.reduceLT, Nat.reduceLeDiff, Nat.reduceEqDiff, Nat.succ_ne_zero, reduceIte, List.length_map]
    refine cndC.mk (fun h => ?_) (fun h => ?_)
    · have hk' : k < xs.length := by simpa using h
      simp only [go_sem, Nat.reduceAdd, Nat.reduceSub, Nat.reduceMul, Nat.reduceLT, Nat.reduceLeDiff, Nat.reduceEqDiff, Nat.succ_ne_zero, reduceIte, map_at _ hk']
      refine CallK.mk _ (by simpa only [go_sem] using hx xs[k] (List.getElem_mem hk') m hm0) fun _ => ?_
      simp only [go_sem, Nat.reduceAdd, Nat.reduceSub, Nat.reduceMul, Nat.reduceLT, Nat.reduceLeDiff, Nat.reduceEqDiff, Nat.succ_ne_zero, reduceIte]
      rw [List.drop_eq_getElem_cons hk'] at hm
      simp only [szL] at hm
      refine cndC.mk (fun h => ?_) (fun h => ?_)
      · have h' : szDeed xs[k] m < 0 := by simpa using h
        simp only [go_sem, Nat.reduceAdd, Nat.reduceSub, Nat.reduceMul, Nat.reduceLT, Nat.reduceLeDiff, Nat.reduceEqDiff, Nat.succ_ne_zero, reduceIte]
        rw [sq_neg h'] at hm
        rw [hm]
      · have h' : ¬ szDeed xs[k] m < 0 := by simpa using h
        rw [sq_pos h'] at hm
        simp only [go_sem, Nat.reduceAdd, Nat.reduceSub, Nat.reduceMul, Nat.reduceLT, Nat.reduceLeDiff, Nat.reduceEqDiff, Nat.succ_ne_zero, reduceIte, wrap_i64 (n := (k : Int) + 1) (by omega) (by omega)]
        exact ⟨(k + 1, szDeed xs[k] m), ⟨rfl, rfl⟩, rfl, ⟨by simp only; omega, (by omega : (0 : Int) ≤ szDeed xs[k] m), hm⟩, by simp only; omega⟩
    · have hk' : k = xs.length := by simp at h; omega
      subst hk'
      simp only [go_sem, Nat.reduceAdd, Nat.reduceSub, Nat.reduceMul, Nat.reduceLT, Nat.reduceLeDiff, Nat.reduceEqDiff, Nat.succ_ne_zero, reduceIte]
      simp [szL] at hm
      rw [hm]
theorem szDeedS_spec (xs : List DDeed) (l : Int) (hl : 0 ≤ l) : Ctr Tryz.prog 30 [.c (.sl (xs.map DDeed.c)), .c (.v (.int .i64 l))] [.val (.c (.v (.int .i64 (szS szDeed xs l))))] := szDeedS_of xs (fun x _ l hl => szDeed_spec x l hl) l hl
theorem szConf_spec (d : DConf) (l : Int) (hl : 0 ≤ l) : Ctr Tryz.prog 73 [.agg d.c, .c (.v (.int .i64 l))] [.val (.c (.v (.int .i64 (szConf d l))))] := by
  refine Ctr.mk (fn := Tryz.f73) Tryz.call73 Tryz.func73 rfl mixed Tryz.ntmps73 Tryz.results73 (by kernel_rfl) rfl fun hw => ?_
  rw [szConf_eq]
  simp only [go_sem, Nat.reduceAdd, Nat.reduceSub, Nat.reduceMul, Nat.reduceLT, Nat.reduceLeDiff, Nat.reduceEqDiff, Nat.succ_ne_zero, reduceIte]
  refine CallK.mk _ (by simpa only [go_sem] using szIntS_spec d.cols _ (by omega)) fun _ => ?_
  simp only [go_sem, Nat.reduceAdd, Nat.reduceSub, Nat.reduceMul, Nat.reduceLT, Nat.reduceLeDiff, Nat.reduceEqDiff, Nat.succ_ne_zero, reduceIte]
  refine cndC.mk (fun h => ?_) (fun h => ?_)
  · have h0 : szI d.cols.length (l) < 0 := by simpa using h
    simp only [go_sem, Nat.reduceAdd, Nat.reduceSub, Nat.reduceMul, Nat.reduceLT, Nat.reduceLeDiff, Nat.reduceEqDiff, Nat.succ_ne_zero, reduceIte]
    simp [sq, h0]
  · have h0 : ¬ szI d.cols.length (l) < 0 := by simpa using h
    simp only [go_sem, Nat.reduceAdd, Nat.reduceSub, Nat.reduceMul, Nat.reduceLT, Nat.reduceLeDiff, Nat.reduceEqDiff, Nat.succ_ne_zero, reduceIte]
    simp [sq, h0]
theorem szWorld_spec (d : DWorld) (l : Int) (hl : 0 ≤ l) : Ctr Tryz.prog 19 [.agg d.c, .c (.v (.int .i64 l))] [.val (.c (.v (.int .i64 (szWorld d l))))] := by
  refine Ctr.mk (fn := Tryz.f19) Tryz.call19 Tryz.func19 rfl mixed Tryz.ntmps19 Tryz.results19 (by kernel_rfl) rfl fun hw => ?_
  rw [szWorld_eq]
  simp only [go_sem, Nat.reduceAdd, Nat.reduceSub, Nat.reduceMul, Nat.reduceLT, Nat.reduceLeDiff, Nat.reduceEqDiff, Nat.succ_ne_zero, reduceIte]
  refine CallK.mk _ (by simpa only [go_sem] using szConf_spec d.c0 _ (by omega)) fun _ => ?_
  simp only [go_sem, Nat.reduceAdd, Nat.reduceSub, Nat.reduceMul, Nat.reduceLT, Nat.reduceLeDiff, Nat.reduceEqDiff, Nat.succ_ne_zero, reduceIte]
  refine cndC.mk (fun h => ?_) (fun h => ?_)
  · have h0 : szConf d.c0 (l) < 0 := by simpa using h
    simp only [go_sem, Nat.reduceAdd, Nat.reduceSub, Nat.reduceMul, Nat.reduceLT, Nat.reduceLeDiff, Nat.reduceEqDiff, Nat.succ_ne_zero, reduceIte]
    simp [sq, h0]
  · have h0 : ¬ szConf d.c0 (l) < 0 := by simpa using h
    simp only [go_sem, Nat.reduceAdd, Nat.reduceSub, Nat.reduceMul, Nat.reduceLT, Nat.reduceLeDiff, Nat.reduceEqDiff, Nat.succ_ne_zero, reduceIte]
    refine CallK.mk _ (by simpa only [go_sem] using szDir_spec d.d _ (by omega)) fun _ => ?_
    simp only [go_sem, Nat.reduceAdd, Nat.reduceSub, Nat.reduceMul, Nat.reduceLT, Nat.reduceLeDiff, Nat.reduceEqDiff, Nat.succ_ne_zero, reduceIte]
    refine cndC.mk (fun h => ?_) (fun h => ?_)
    · have h1 : szDir d.d (szConf d.c0 (l)) < 0 := by simpa using h
      simp only [go_sem, Nat.reduceAdd, Nat.reduceSub, Nat.reduceMul, Nat.reduceLT, Nat.reduceLeDiff, Nat.reduceEqDiff, Nat.succ_ne_zero, reduceIte]
      simp [sq, h0, h1]
    · have h1 : ¬ szDir d.d (szConf d.c0 (l)) < 0 := by simpa using h
      simp only [go_sem, Nat.reduceAdd, Nat.reduceSub, Nat.reduceMul, Nat.reduceLT, Nat.reduceLeDiff, Nat.reduceEqDiff, Nat.succ_ne_zero, reduceIte]
      refine CallK.mk _ (by simpa only [go_sem] using szBufS_spec d.b _ (by omega)) fun _ => ?_
      simp only [go_sem, Nat.reduceAdd, Nat.reduceSub, Nat.reduceMul, Nat.reduceLT, Nat.reduceLeDiff, Nat.reduceEqDiff, Nat.succ_ne_zero, reduceIte]
      refine cndC.mk (fun h => ?_) (fun h => ?_)
      · have h2 : szS szBuf d.b (szDir d.d (szConf d.c0 (l))) < 0 := by simpa using h
        simp only [go_sem, Nat.reduceAdd, Nat.reduceSub, Nat.reduceMul, Nat.reduceLT, Nat.reduceLeDiff, Nat.reduceEqDiff, Nat.succ_ne_zero, reduceIte]
        simp [sq, h0, h1, h2]
      · have h2 : ¬ szS szBuf d.b (szDir d.d (szConf d.c0 (l))) < 0 := by simpa using h
        simp only [go_sem, Nat.reduceAdd, Nat.reduceSub, Nat.reduceMul, Nat.reduceLT, Nat.reduceLeDiff, Nat.reduceEqDiff, Nat.succ_ne_zero, reduceIte]
        refine CallK.mk _ (by simpa only [go_sem] using szIntS_spec d.m _ (by omega)) fun _ => ?_
        simp only [go_sem, Nat.reduceAdd, Nat.reduceSub, Nat.reduceMul, Nat.reduceLT, Nat.reduceLeDiff, Nat.reduceEqDiff, Nat.succ_ne_zero, reduceIte]
        refine cndC.mk (fun h => ?_) (fun h => ?_)
        · have h3 : szI d.m.length (szS szBuf d.b (szDir d.d (szConf d.c0 (l)))) < 0 := by simpa using h
          simp only [go_sem, Nat.reduceAdd, Nat.reduceSub, Nat.reduceMul, Nat.reduceLT, Nat.reduceLeDiff, Nat.reduceEqDiff, Nat.succ_ne_zero, reduceIte]
          simp [sq, h0, h1, h2, h3]
        · have h3 : ¬ szI d.m.length (szS szBuf d.b (szDir d.d (szConf d.c0 (l)))) < 0 := by simpa using h
          simp only [go_sem, Nat.reduceAdd, Nat.reduceSub, Nat.reduceMul, Nat.reduceLT, Nat.reduceLeDiff, Nat.reduceEqDiff, Nat.succ_ne_zero, reduceIte]
          refine CallK.mk _ (by simpa only [go_sem] using szDeadS_spec d.x _ (by omega)) fun _ => ?_
          simp only [go_sem, Nat.reduceAdd, Nat.reduceSub, Nat.reduceMul, Nat.reduceLT, Nat.reduceLeDiff, Nat.reduceEqDiff, Nat.succ_ne_zero, reduceIte]
          refine cndC.mk (fun h => ?_) (fun h => ?_)
          · have h4 : szI d.x.length (szI d.m.length (szS szBuf d.b (szDir d.d (szConf d.c0 (l))))) < 0 := by simpa using h
            simp only [go_sem, Nat.reduceAdd, Nat.reduceSub, Nat.reduceMul, Nat.reduceLT, Nat.reduceLeDiff, Nat.reduceEqDiff, Nat.succ_ne_zero, reduceIte]
            simp [sq, h0, h1, h2, h3, h4]
          · have h4 : ¬ szI d.x.length (szI d.m.length (szS szBuf d.b (szDir d.d (szConf d.c0 (l))))) < 0 := by simpa using h
            simp only [go_sem, Nat.reduceAdd, Nat.reduceSub, Nat.reduceMul, Nat.reduceLT, Nat.reduceLeDiff, Nat.reduceEqDiff, Nat.succ_ne_zero, reduceIte]
            refine CallK.mk _ (by simpa only [go_sem] using szIntS_spec d.p _ (by omega)) fun _ => ?_
            simp only [go_sem, Nat.reduceAdd, Nat.reduceSub, Nat.reduceMul, Nat.reduceLT, Nat.reduceLeDiff, Nat.reduceEqDiff, Nat.succ_ne_zero, reduceIte]
            refine cndC.mk (fun h => ?_) (fun h => ?_)
            · have h5 : szI d.p.length (szI d.x.length (szI d.m.length (szS szBuf d.b (szDir d.d (szConf d.c0 (l)))))) < 0 := by simpa using h
              simp only [go_sem, Nat.reduceAdd, Nat.reduceSub, Nat.reduceMul, Nat.reduceLT, Nat.reduceLeDiff, Nat.reduceEqDiff, Nat.succ_ne_zero, reduceIte]
              simp [sq, h0, h1, h2, h3, h4, h5]
            · have h5 : ¬ szI d.p.length (szI d.x.length (szI d.m.length (szS szBuf d.b (szDir d.d (szConf d.c0 (l)))))) < 0 := by simpa using h
              simp only [go_sem, Nat.reduceAdd, Nat.reduceSub, Nat.reduceMul, Nat.reduceLT, Nat.reduceLeDiff, Nat.reduceEqDiff, Nat.succ_ne_zero, reduceIte]
              refine CallK.mk _ (by simpa only [go_sem] using szTaskS_spec d.tasks _ (by omega)) fun _ => ?_
              simp only [go_sem, Nat.reduceAdd, Nat.reduceSub, Nat.reduceMul, Nat.reduceLT, Nat.reduceLeDiff, Nat.reduceEqDiff, Nat.succ_ne_zero, reduceIte]
              refine cndC.mk (fun h => ?_) (fun h => ?_)
              · have h6 : szS szTask d.tasks (szI d.p.length (szI d.x.length (szI d.m.length (szS szBuf d.b (szDir d.d (szConf d.c0 (l))))))) < 0 := by simpa using h
                simp only [go_sem, Nat.reduceAdd, Nat.reduceSub, Nat.reduceMul, Nat.reduceLT, Nat.reduceLeDiff, Nat.reduceEqDiff, Nat.succ_ne_zero, reduceIte]
                simp [sq, h0, h1, h2, h3, h4, h5, h6]
              · have h6 : ¬ szS szTask d.tasks (szI d.p.length (szI d.x.length (szI d.m.length (szS szBuf d.b (szDir d.d (szConf d.c0 (l))))))) < 0 := by simpa using h
                simp only [go_sem, Nat.reduceAdd, Nat.reduceSub, Nat.reduceMul, Nat.reduceLT, Nat.reduceLeDiff, Nat.reduceEqDiff, Nat.succ_ne_zero, reduceIte]
                refine CallK.mk _ (by simpa only [go_sem] using szDeedS_spec d.deeds _ (by omega)) fun _ => ?_
                simp only [go_sem, Nat.reduceAdd, Nat.reduceSub, Nat.reduceMul, Nat.reduceLT, Nat.reduceLeDiff, Nat.reduceEqDiff, Nat.succ_ne_zero, reduceIte]
                refine cndC.mk (fun h => ?_) (fun h => ?_)
                · have h7 : szS szDeed d.deeds (szS szTask d.tasks (szI d.p.length (szI d.x.length (szI d.m.length (szS szBuf d.b (szDir d.d (szConf d.c0 (l)))))))) < 0 := by simpa using h
                  simp only [go_sem, Nat.reduceAdd, Nat.reduceSub, Nat.reduceMul, Nat.reduceLT, Nat.reduceLeDiff, Nat.reduceEqDiff, Nat.succ_ne_zero, reduceIte]
                  simp [sq, h0, h1, h2, h3, h4, h5, h6, h7]
                · have h7 : ¬ szS szDeed d.deeds (szS szTask d.tasks (szI d.p.length (szI d.x.length (szI d.m.length (szS szBuf d.b (szDir d.d (szConf d.c0 (l)))))))) < 0 := by simpa using h
                  simp only [go_sem, Nat.reduceAdd, Nat.reduceSub, Nat.reduceMul, Nat.reduceLT, Nat.reduceLeDiff, Nat.reduceEqDiff, Nat.succ_ne_zero, reduceIte]
                  simp [sq, h0, h1, h2, h3, h4, h5, h6, h7]
theorem szTable_spec (d : DTable) (l : Int) (hl : 0 ≤ l) : Ctr Tryz.prog 8 [.agg d.c, .c (.v (.int .i64 l))] [.val (.c (.v (.int .i64 (szTable d l))))] := by
  refine Ctr.mk (fn := Tryz.f8) Tryz.call8 Tryz.func8 rfl mixed Tryz.ntmps8 Tryz.results8 (by kernel_rfl) rfl fun hw => ?_
  rw [szTable_eq]
  simp only [go_sem, Nat.reduceAdd, Nat.reduceSub, Nat.reduceMul, Nat.reduceLT, Nat.reduceLeDiff, Nat.reduceEqDiff, Nat.succ_ne_zero, reduceIte]
  refine CallK.mk _ (by simpa only [go_sem] using szIntS_spec d.cols _ (by omega)) fun _ => ?_
  simp only [go_sem, Nat.reduceAdd, Nat.reduceSub, Nat.reduceMul, Nat.reduceLT, Nat.reduceLeDiff, Nat.reduceEqDiff, Nat.succ_ne_zero, reduceIte]
  refine cndC.mk (fun h => ?_) (fun h => ?_)
  · have h0 : szI d.cols.length (l) < 0 := by simpa using h
    simp only [go_sem, Nat.reduceAdd, Nat.reduceSub, Nat.reduceMul, Nat.reduceLT, Nat.reduceLeDiff, Nat.reduceEqDiff, Nat.succ_ne_zero, reduceIte]
    simp [sq, h0]
  · have h0 : ¬ szI d.cols.length (l) < 0 := by simpa using h
    simp only [go_sem, Nat.reduceAdd, Nat.reduceSub, Nat.reduceMul, Nat.reduceLT, Nat.reduceLeDiff, Nat.reduceEqDiff, Nat.succ_ne_zero, reduceIte]
    refine CallK.mk _ (by simpa only [go_sem] using szRowS_spec d.l _ (by omega)) fun _ => ?_
    simp only [go_sem, Nat.reduceAdd, Nat.reduceSub, Nat.reduceMul, Nat.reduceLT, Nat.reduceLeDiff, Nat.reduceEqDiff, Nat.succ_ne_zero, reduceIte]
    refine cndC.mk (fun h => ?_) (fun h => ?_)
    · have h1 : szS szRow d.l (szI d.cols.length (l)) < 0 := by simpa using h
      simp only [go_sem, Nat.reduceAdd, Nat.reduceSub, Nat.reduceMul, Nat.reduceLT, Nat.reduceLeDiff, Nat.reduceEqDiff, Nat.succ_ne_zero, reduceIte]
      simp [sq, h0, h1]
    · have h1 : ¬ szS szRow d.l (szI d.cols.length (l)) < 0 := by simpa using h
      simp only [go_sem, Nat.reduceAdd, Nat.reduceSub, Nat.reduceMul, Nat.reduceLT, Nat.reduceLeDiff, Nat.reduceEqDiff, Nat.succ_ne_zero, reduceIte]
      simp [sq, h0, h1]
theorem toIntS_own (xs : List Int) (hf : xs.length ≤ 1048576) : Ctr Tryz.prog 50 [.c (.sl (xs.map intC))] [.own 3 1 (xs.map intC) true] := by
  refine Ctr.mk (fn := Tryz.f50) Tryz.call50 Tryz.func50 rfl mixed Tryz.ntmps50 Tryz.results50 (by kernel_rfl) rfl fun _ => ?_
  have hc : (0 : Int) ≤ xs.length ∧ (xs.length : Int) ≤ xs.length ∧ (xs.length : Int) ≤ 2147483648 := by omega
  simp only [go_sem, Nat.reduceAdd, Nat.reduceSub, Nat.reduceMul, Nat.reduceLT, Nat.reduceLeDiff, Nat.reduceEqDiff, Nat.succ_ne_zero, reduceIte, List.length_map, hc, List.length_replicate]
  have hg := fun k => @trim1_grow _ intC intC.pure [.v (.int .i64 0)] rfl xs k 3 1 true true
  refine LoopK.mk 1 [0, 3, 4] (A := Nat) (fun k => ⟨22, [(0, .c (.sl (xs.map intC))), (3, .c (.ref 0)), (4, .c (.v (.int .i64 k)))], [⟨3, 1, grow (xs.map intC) [.v (.int .i64 0)] k, true, true⟩]⟩) (fun k => k ≤ xs.length) (fun k => xs.length - k) 0 ⟨⟨rfl, by have := hg 0; simp only [grow_zero, List.length_map] at this; exact this⟩, by simp only [grow_zero, List.length_map]; rfl, Nat.zero_le _⟩ ?_
  intro k hk
  simp only [go_sem, Nat.reduceAdd, Nat.reduceSub, Nat.reduceMul, Nat.reduceLT, Nat.reduceLeDiff, Nat.reduceEqDiff, Nat.succ_ne_zero, reduceIte, List.length_map]
  refine cndC.mk (fun h => ?_) (fun h => ?_)
  · have hk' : k < xs.length := by simpa using h
    have hset := @grow_setm _ intC xs [.v (.int .i64 0)] k hk'
    simp only [go_sem] at hset
    simp only [go_sem, Nat.reduceAdd, Nat.reduceSub, Nat.reduceMul, Nat.reduceLT, Nat.reduceLeDiff, Nat.reduceEqDiff, Nat.succ_ne_zero, reduceIte, map_at _ hk', grow_lenm hk, grow_atm hk', hk', hset, wrap_i64 (n := (k : Int) + 1) (by omega) (by omega)]
    exact ⟨k + 1, ⟨rfl, hg _⟩, rfl, by omega, by first | omega | (simp only; omega)⟩
  · have hk' : k = xs.length := by simp at h; omega
    subst hk'
    rw [grow_allm]
    simp only [go_sem, Nat.reduceAdd, Nat.reduceSub, Nat.reduceMul, Nat.reduceLT, Nat.reduceLeDiff, Nat.reduceEqDiff, Nat.succ_ne_zero, reduceIte]
    simp [pureE_map intC.pure]
theorem toByteS_own (xs : List Int) (hf : xs.length ≤ 1048576) : Ctr Tryz.prog 183 [.c (.sl (xs.map byteC))] [.own 5 1 (xs.map byteC) true] := by
  refine Ctr.mk (fn := Tryz.f183) Tryz.call183 Tryz.func183 rfl mixed Tryz.ntmps183 Tryz.results183 (by kernel_rfl) rfl fun _ => ?_
  have hc : (0 : Int) ≤ xs.length ∧ (xs.length : Int) ≤ xs.length ∧ (xs.length : Int) ≤ 2147483648 := by omega
  simp only [go_sem, Nat.reduceAdd, Nat.reduceSub, Nat.reduceMul, Nat.reduceLT, Nat.reduceLeDiff, Nat.reduceEqDiff, Nat.succ_ne_zero, reduceIte, List.length_map, hc, List.length_replicate]
  have hg := fun k => @trim1_grow _ byteC byteC.pure [.v (.int .u8 0)] rfl xs k 5 1 true true
  refine LoopK.mk 1 [0, 3, 4] (A := Nat) (fun k => ⟨22, [(0, .c (.sl (xs.map byteC))), (3, .c (.ref 0)), (4, .c (.v (.int .i64 k)))], [⟨5, 1, grow (xs.map byteC) [.v (.int .u8 0)] k, true, true⟩]⟩) (fun k => k ≤ xs.length) (fun k => xs.length - k) 0 ⟨⟨rfl, by have := hg 0; simp only [grow_zero, List.length_map] at this; exact this⟩, by simp only [grow_zero, List.length_map]; rfl, Nat.zero_le _⟩ ?_
  intro k hk
  simp only [go_sem, Nat.reduceAdd, Nat.reduceSub, Nat.reduceMul, Nat.reduceLT, Nat.reduceLeDiff, Nat.reduceEqDiff, Nat.succ_ne_zero, reduceIte, List.length_map]
  refine cndC.mk (fun h => ?_) (fun h => ?_)
  · have hk' : k < xs.length := by simpa using h
    have hset := @grow_setm _ byteC xs [.v (.int .u8 0)] k hk'
    simp only [go_sem] at hset
    simp only [go_sem, Nat.reduceAdd, Nat.reduceSub, Nat.reduceMul, Nat.reduceLT, Nat.reduceLeDiff, Nat.reduceEqDiff, Nat.succ_ne_zero, reduceIte, map_at _ hk', grow_lenm hk, grow_atm hk', hk', hset, wrap_i64 (n := (k : Int) + 1) (by omega) (by omega)]
    exact ⟨k + 1, ⟨rfl, hg _⟩, rfl, by omega, by first | omega | (simp only; omega)⟩
  · have hk' : k = xs.length := by simp at h; omega
    subst hk'
    rw [grow_allm]
    simp only [go_sem, Nat.reduceAdd, Nat.reduceSub, Nat.reduceMul, Nat.reduceLT, Nat.reduceLeDiff, Nat.reduceEqDiff, Nat.succ_ne_zero, reduceIte]
    simp [pureE_map byteC.pure]
theorem toIntS_spec (xs : List Int) (hf : xs.length ≤ 1048576) : Ctr Tryz.prog 50 [.c (.sl (xs.map intC))] [.val (.c (.sl (xs.map intC)))] := (toIntS_own xs hf).val
theorem toByteS_spec (xs : List Int) (hf : xs.length ≤ 1048576) : Ctr Tryz.prog 183 [.c (.sl (xs.map byteC))] [.val (.c (.sl (xs.map byteC)))] := (toByteS_own xs hf).val
theorem toVal_spec (d : DVal) (hf : fitVal d) : Ctr Tryz.prog 122 [.agg d.c] [.val (.agg d.c)] := by
  rw [fitVal_eq] at hf
  have f0 := hf
  refine Ctr.mk (fn := Tryz.f122) Tryz.call122 Tryz.func122 rfl mixed Tryz.ntmps122 Tryz.results122 (by kernel_rfl) rfl fun _ => ?_
  simp only [go_sem, Nat.reduceAdd, Nat.reduceSub, Nat.reduceMul, Nat.reduceLT, Nat.reduceLeDiff, Nat.reduceEqDiff, Nat.succ_ne_zero, reduceIte]
theorem toValS_own (xs : List DVal) (hf : xs.length ≤ 1048576) (hx : ∀ x ∈ xs, Ctr Tryz.prog 122 [.agg x.c] [.val (.agg x.c)]) : Ctr Tryz.prog 51 [.c (.sl (xs.map DVal.c))] [.own 47 3 (xs.map DVal.c) true] := by
  refine Ctr.mk (fn := Tryz.f51) Tryz.call51 Tryz.func51 rfl mixed Tryz.ntmps51 Tryz.results51 (by kernel_rfl) rfl fun _ => ?_
  have hc : (0 : Int) ≤ xs.length ∧ (xs.length : Int) ≤ xs.length ∧ (xs.length : Int) ≤ 2147483648 := by omega
  simp only [go_sem, Nat.reduceAdd, Nat.reduceSub, Nat.reduceMul, Nat.reduceLT, Nat.reduceLeDiff, Nat.reduceEqDiff, Nat.succ_ne_zero, reduceIte, List.length_map, hc, List.length_replicate]
  have hg := fun k => @trim1_grow _ DVal.c DVal.pure [.v (.int .i64 0), .v (.int .i64 0), .v (.string ByteArray.empty)] rfl xs k 47 3 true true
  refine LoopK.mk 1 [0, 3, 4] (A := Nat) (fun k => ⟨23, [(0, .c (.sl (xs.map DVal.c))), (3, .c (.ref 0)), (4, .c (.v (.int .i64 k)))], [⟨47, 3, grow (xs.map DVal.c) [.v (.int .i64 0), .v (.int .i64 0), .v (.string ByteArray.empty)] k, true, true⟩]⟩) (fun k => k ≤ xs.length) (fun k => xs.length - k) 0 ⟨⟨rfl, by have := hg 0; simp only [grow_zero, List.length_map] at this; exact this⟩, by simp only [grow_zero, List.length_map]; rfl, Nat.zero_le _⟩ ?_
  intro k hk
  simp only [go_sem, Nat.reduceAdd, Nat.reduceSub, Nat.reduceMul, Nat.reduceLT, Nat.reduceLeDiff, Nat.reduceEqDiff, Nat.succ_ne_zero, reduceIte, List.length_map]
  refine cndC.mk (fun h => ?_) (fun h => ?_)
  · have hk' : k < xs.length := by simpa using h
    have hset := @grow_setm _ DVal.c xs [.v (.int .i64 0), .v (.int .i64 0), .v (.string ByteArray.empty)] k hk'
    simp only [go_sem] at hset
    simp only [go_sem, Nat.reduceAdd, Nat.reduceSub, Nat.reduceMul, Nat.reduceLT, Nat.reduceLeDiff, Nat.reduceEqDiff, Nat.succ_ne_zero, reduceIte, map_at _ hk', grow_lenm hk, grow_atm hk', hk', hset, wrap_i64 (n := (k : Int) + 1) (by omega) (by omega)]
    refine CallK.mk _ (by simpa only [go_sem] using hx xs[k] (List.getElem_mem hk')) fun _ => ?_
    simp only [go_sem, Nat.reduceAdd, Nat.reduceSub, Nat.reduceMul, Nat.reduceLT, Nat.reduceLeDiff, Nat.reduceEqDiff, Nat.succ_ne_zero, reduceIte, map_at _ hk', grow_lenm hk, grow_atm hk', hk', hset, wrap_i64 (n := (k : Int) + 1) (by omega) (by omega)]
    exact ⟨k + 1, ⟨rfl, hg _⟩, rfl, by omega, by first | omega | (simp only; omega)⟩
  · have hk' : k = xs.length := by simp at h; omega
    subst hk'
    rw [grow_allm]
    simp only [go_sem, Nat.reduceAdd, Nat.reduceSub, Nat.reduceMul, Nat.reduceLT, Nat.reduceLeDiff, Nat.reduceEqDiff, Nat.succ_ne_zero, reduceIte]
    simp [pureE_map DVal.pure]
theorem toValS_spec (xs : List DVal) (hf : fitS fitVal xs) : Ctr Tryz.prog 51 [.c (.sl (xs.map DVal.c))] [.val (.c (.sl (xs.map DVal.c)))] := (toValS_own xs hf.1 fun x hx => toVal_spec x (hf.2 x hx)).val
theorem toRow_spec (d : DRow) (hf : fitRow d) : Ctr Tryz.prog 87 [.agg d.c] [.val (.agg d.c)] := by
  rw [fitRow_eq] at hf
  have f0 := hf
  refine Ctr.mk (fn := Tryz.f87) Tryz.call87 Tryz.func87 rfl mixed Tryz.ntmps87 Tryz.results87 (by kernel_rfl) rfl fun _ => ?_
  simp only [go_sem, Nat.reduceAdd, Nat.reduceSub, Nat.reduceMul, Nat.reduceLT, Nat.reduceLeDiff, Nat.reduceEqDiff, Nat.succ_ne_zero, reduceIte]
  refine CallK.mk _ (by simpa only [go_sem] using toValS_spec d.l f0) fun _ => ?_
  simp only [go_sem, Nat.reduceAdd, Nat.reduceSub, Nat.reduceMul, Nat.reduceLT, Nat.reduceLeDiff, Nat.reduceEqDiff, Nat.succ_ne_zero, reduceIte]
theorem toRowS_own (xs : List DRow) (hf : xs.length ≤ 1048576) (hx : ∀ x ∈ xs, Ctr Tryz.prog 87 [.agg x.c] [.val (.agg x.c)]) : Ctr Tryz.prog 23 [.c (.sl (xs.map DRow.c))] [.own 118 2 (xs.map DRow.c) true] := by
  refine Ctr.mk (fn := Tryz.f23) Tryz.call23 Tryz.func23 rfl mixed Tryz.ntmps23 Tryz.results23 (by kernel_rfl) rfl fun _ => ?_
  have hc : (0 : Int) ≤ xs.length ∧ (xs.length : Int) ≤ xs.length ∧ (xs.length : Int) ≤ 2147483648 := by omega
  simp only [go_sem, Nat.reduceAdd, Nat.reduceSub, Nat.reduceMul, Nat.reduceLT, Nat.reduceLeDiff, Nat.reduceEqDiff, Nat.succ_ne_zero, reduceIte, List.length_map, hc, List.length_replicate]
  have hg := fun k => @trim1_grow _ DRow.c DRow.pure [.v (.int .i64 0), .v (.slice none 0 0)] rfl xs k 118 2 true true
  refine LoopK.mk 1 [0, 3, 4] (A := Nat) (fun k => ⟨23, [(0, .c (.sl (xs.map DRow.c))), (3, .c (.ref 0)), (4, .c (.v (.int .i64 k)))], [⟨118, 2, grow (xs.map DRow.c) [.v (.int .i64 0), .v (.slice none 0 0)] k, true, true⟩]⟩) (fun k => k ≤ xs.length) (fun k => xs.length - k) 0 ⟨⟨rfl, by have := hg 0; simp only [grow_zero, List.length_map] at this; exact this⟩, by simp only [grow_zero, List.length_map]; rfl, Nat.zero_le _⟩ ?_
  intro k hk
  simp only [go_sem, Nat.reduceAdd, Nat.reduceSub, Nat.reduceMul, Nat.reduceLT, Nat.reduceLeDiff, Nat.reduceEqDiff, Nat.succ_ne_zero, reduceIte, List.length_map]
  refine cndC.mk (fun h => ?_) (fun h => ?_)
  · have hk' : k < xs.length := by simpa using h
    have hset := @grow_setm _ DRow.c xs [.v (.int .i64 0), .v (.slice none 0 0)] k hk'
    simp only [go_sem] at hset
    simp only [go_sem, Nat.reduceAdd, Nat.reduceSub, Nat.reduceMul, Nat.reduceLT, Nat.reduceLeDiff, Nat.reduceEqDiff, Nat.succ_ne_zero, reduceIte, map_at _ hk', grow_lenm hk, grow_atm hk', hk', hset, wrap_i64 (n := (k : Int) + 1) (by omega) (by omega)]
    refine CallK.mk _ (by simpa only [go_sem] using hx xs[k] (List.getElem_mem hk')) fun _ => ?_
    simp only [go_sem, Nat.reduceAdd, Nat.reduceSub, Nat.reduceMul, Nat.reduceLT, Nat.reduceLeDiff, Nat.reduceEqDiff, Nat.succ_ne_zero, reduceIte, map_at _ hk', grow_lenm hk, grow_atm hk', hk', hset, wrap_i64 (n := (k : Int) + 1) (by omega) (by omega)]
    exact ⟨k + 1, ⟨rfl, hg _⟩, rfl, by omega, by first | omega | (simp only; omega)⟩
  · have hk' : k = xs.length := by simp at h; omega
    subst hk'
    rw [grow_allm]
    simp only [go_sem, Nat.reduceAdd, Nat.reduceSub, Nat.reduceMul, Nat.reduceLT, Nat.reduceLeDiff, Nat.reduceEqDiff, Nat.succ_ne_zero, reduceIte]
    simp [pureE_map DRow.pure]
theorem toRowS_spec (xs : List DRow) (hf : fitS fitRow xs) : Ctr Tryz.prog 23 [.c (.sl (xs.map DRow.c))] [.val (.c (.sl (xs.map DRow.c)))] := (toRowS_own xs hf.1 fun x hx => toRow_spec x (hf.2 x hx)).val
theorem toPredS_own (xs : List DPred) (hf : xs.length ≤ 1048576) (hx : ∀ x ∈ xs, Ctr Tryz.prog 123 [.agg x.c] [.val (.agg x.c)]) : Ctr Tryz.prog 172 [.c (.sl (xs.map DPred.c))] [.own 50 7 (xs.map DPred.c) true] := by
  refine Ctr.mk (fn := Tryz.f172) Tryz.call172 Tryz.func172 rfl mixed Tryz.ntmps172 Tryz.results172 (by kernel_rfl) rfl fun _ => ?_
  have hc : (0 : Int) ≤ xs.length ∧ (xs.length : Int) ≤ xs.length ∧ (xs.length : Int) ≤ 2147483648 := by omega
  simp only [go_sem, Nat.reduceAdd, Nat.reduceSub, Nat.reduceMul, Nat.reduceLT, Nat.reduceLeDiff, Nat.reduceEqDiff, Nat.succ_ne_zero, reduceIte, List.length_map, hc, List.length_replicate]
  have hg := fun k => @trim1_grow _ DPred.c DPred.pure [.v (.int .i64 0), .v (.int .i64 0), .v (.int .i64 0), .v (.int .i64 0), .v (.int .i64 0), .v (.string ByteArray.empty), .v (.slice none 0 0)] rfl xs k 50 7 true true
  refine LoopK.mk 1 [0, 3, 4] (A := Nat) (fun k => ⟨23, [(0, .c (.sl (xs.map DPred.c))), (3, .c (.ref 0)), (4, .c (.v (.int .i64 k)))], [⟨50, 7, grow (xs.map DPred.c) [.v (.int .i64 0), .v (.int .i64 0), .v (.int .i64 0), .v (.int .i64 0), .v (.int .i64 0), .v (.string ByteArray.empty), .v (.slice none 0 0)] k, true, true⟩]⟩) (fun k => k ≤ xs.length) (fun k => xs.length - k) 0 ⟨⟨rfl, by have := hg 0; simp only [grow_zero, List.length_map] at this; exact this⟩, by simp only [grow_zero, List.length_map]; rfl, Nat.zero_le _⟩ ?_
  intro k hk
  simp only [go_sem, Nat.reduceAdd, Nat.reduceSub, Nat.reduceMul, Nat.reduceLT, Nat.reduceLeDiff, Nat.reduceEqDiff, Nat.succ_ne_zero, reduceIte, List.length_map]
  refine cndC.mk (fun h => ?_) (fun h => ?_)
  · have hk' : k < xs.length := by simpa using h
    have hset := @grow_setm _ DPred.c xs [.v (.int .i64 0), .v (.int .i64 0), .v (.int .i64 0), .v (.int .i64 0), .v (.int .i64 0), .v (.string ByteArray.empty), .v (.slice none 0 0)] k hk'
    simp only [go_sem] at hset
    simp only [go_sem, Nat.reduceAdd, Nat.reduceSub, Nat.reduceMul, Nat.reduceLT, Nat.reduceLeDiff, Nat.reduceEqDiff, Nat.succ_ne_zero, reduceIte, map_at _ hk', grow_lenm hk, grow_atm hk', hk', hset, wrap_i64 (n := (k : Int) + 1) (by omega) (by omega)]
    refine CallK.mk _ (by simpa only [go_sem] using hx xs[k] (List.getElem_mem hk')) fun _ => ?_
    simp only [go_sem, Nat.reduceAdd, Nat.reduceSub, Nat.reduceMul, Nat.reduceLT, Nat.reduceLeDiff, Nat.reduceEqDiff, Nat.succ_ne_zero, reduceIte, map_at _ hk', grow_lenm hk, grow_atm hk', hk', hset, wrap_i64 (n := (k : Int) + 1) (by omega) (by omega)]
    exact ⟨k + 1, ⟨rfl, hg _⟩, rfl, by omega, by first | omega | (simp only; omega)⟩
  · have hk' : k = xs.length := by simp at h; omega
    subst hk'
    rw [grow_allm]
    simp only [go_sem, Nat.reduceAdd, Nat.reduceSub, Nat.reduceMul, Nat.reduceLT, Nat.reduceLeDiff, Nat.reduceEqDiff, Nat.succ_ne_zero, reduceIte]
    simp [pureE_map DPred.pure]
theorem toPred_of (d : DPred) (hf : fitPred d) (hx : ∀ x ∈ d.l, Ctr Tryz.prog 123 [.agg x.c] [.val (.agg x.c)]) : Ctr Tryz.prog 123 [.agg d.c] [.val (.agg d.c)] := by
  rw [fitPred_eq] at hf
  obtain ⟨f0, f1⟩ := hf
  refine Ctr.mk (fn := Tryz.f123) Tryz.call123 Tryz.func123 rfl mixed Tryz.ntmps123 Tryz.results123 (by kernel_rfl) rfl fun _ => ?_
  simp only [go_sem, Nat.reduceAdd, Nat.reduceSub, Nat.reduceMul, Nat.reduceLT, Nat.reduceLeDiff, Nat.reduceEqDiff, Nat.succ_ne_zero, reduceIte]
  refine CallK.mk _ (by simpa only [go_sem] using toVal_spec d.v f0) fun _ => ?_
  simp only [go_sem, Nat.reduceAdd, Nat.reduceSub, Nat.reduceMul, Nat.reduceLT, Nat.reduceLeDiff, Nat.reduceEqDiff, Nat.succ_ne_zero, reduceIte]
  refine CallK.mk _ (by simpa only [go_sem] using (toPredS_own d.l f1.1 hx).val) fun _ => ?_
  simp only [go_sem, Nat.reduceAdd, Nat.reduceSub, Nat.reduceMul, Nat.reduceLT, Nat.reduceLeDiff, Nat.reduceEqDiff, Nat.succ_ne_zero, reduceIte]
theorem toPred_fuel : ∀ (n : Nat) (d : DPred), SizeOf.sizeOf d ≤ n → fitPred d → Ctr Tryz.prog 123 [.agg d.c] [.val (.agg d.c)]
  | 0, d, h, _ => by cases d; simp at h
  | n + 1, d, h, hf => toPred_of d hf fun x hx => toPred_fuel n x (by
    have h1 : SizeOf.sizeOf x < SizeOf.sizeOf d.l := List.sizeOf_lt_of_mem hx
    have h2 : SizeOf.sizeOf d.l < SizeOf.sizeOf d := by cases d; simp [DPred.l]; omega
    omega) (by rw [fitPred_eq] at hf; exact (hf.2).2 x hx)
theorem toPred_spec (d : DPred) (hf : fitPred d) : Ctr Tryz.prog 123 [.agg d.c] [.val (.agg d.c)] := toPred_fuel _ d (Nat.le_refl _) hf
theorem toPredS_spec (xs : List DPred) (hf : fitS fitPred xs) : Ctr Tryz.prog 172 [.c (.sl (xs.map DPred.c))] [.val (.c (.sl (xs.map DPred.c)))] := (toPredS_own xs hf.1 fun x hx => toPred_spec x (hf.2 x hx)).val
theorem toQuery_spec (d : DQuery) (hf : fitQuery d) : Ctr Tryz.prog 52 [.agg d.c] [.val (.agg d.c)] := by
  rw [fitQuery_eq] at hf
  obtain ⟨f0, f1⟩ := hf
  refine Ctr.mk (fn := Tryz.f52) Tryz.call52 Tryz.func52 rfl mixed Tryz.ntmps52 Tryz.results52 (by kernel_rfl) rfl fun _ => ?_
  simp only [go_sem, Nat.reduceAdd, Nat.reduceSub, Nat.reduceMul, Nat.reduceLT, Nat.reduceLeDiff, Nat.reduceEqDiff, Nat.succ_ne_zero, reduceIte]
  refine CallK.mk _ (by simpa only [go_sem] using toPred_spec d.p f0) fun _ => ?_
  simp only [go_sem, Nat.reduceAdd, Nat.reduceSub, Nat.reduceMul, Nat.reduceLT, Nat.reduceLeDiff, Nat.reduceEqDiff, Nat.succ_ne_zero, reduceIte]
  refine CallK.mk _ (by simpa only [go_sem] using toIntS_spec d.out f1) fun _ => ?_
  simp only [go_sem, Nat.reduceAdd, Nat.reduceSub, Nat.reduceMul, Nat.reduceLT, Nat.reduceLeDiff, Nat.reduceEqDiff, Nat.succ_ne_zero, reduceIte]
theorem toResult_spec (d : DResult) (hf : fitResult d) : Ctr Tryz.prog 53 [.agg d.c] [.val (.agg d.c)] := by
  rw [fitResult_eq] at hf
  obtain ⟨f0, f1⟩ := hf
  refine Ctr.mk (fn := Tryz.f53) Tryz.call53 Tryz.func53 rfl mixed Tryz.ntmps53 Tryz.results53 (by kernel_rfl) rfl fun _ => ?_
  simp only [go_sem, Nat.reduceAdd, Nat.reduceSub, Nat.reduceMul, Nat.reduceLT, Nat.reduceLeDiff, Nat.reduceEqDiff, Nat.succ_ne_zero, reduceIte]
  refine CallK.mk _ (by simpa only [go_sem] using toRowS_spec d.rows f0) fun _ => ?_
  simp only [go_sem, Nat.reduceAdd, Nat.reduceSub, Nat.reduceMul, Nat.reduceLT, Nat.reduceLeDiff, Nat.reduceEqDiff, Nat.succ_ne_zero, reduceIte]
  refine CallK.mk _ (by simpa only [go_sem] using toVal_spec d.v f1) fun _ => ?_
  simp only [go_sem, Nat.reduceAdd, Nat.reduceSub, Nat.reduceMul, Nat.reduceLT, Nat.reduceLeDiff, Nat.reduceEqDiff, Nat.succ_ne_zero, reduceIte]
theorem toSlot_spec (d : DSlot) (hf : fitSlot d) : Ctr Tryz.prog 214 [.agg d.c] [.val (.agg d.c)] := by
  rw [fitSlot_eq] at hf
  have f0 := hf
  refine Ctr.mk (fn := Tryz.f214) Tryz.call214 Tryz.func214 rfl mixed Tryz.ntmps214 Tryz.results214 (by kernel_rfl) rfl fun _ => ?_
  simp only [go_sem, Nat.reduceAdd, Nat.reduceSub, Nat.reduceMul, Nat.reduceLT, Nat.reduceLeDiff, Nat.reduceEqDiff, Nat.succ_ne_zero, reduceIte]
  refine CallK.mk _ (by simpa only [go_sem] using toValS_spec d.l f0) fun _ => ?_
  simp only [go_sem, Nat.reduceAdd, Nat.reduceSub, Nat.reduceMul, Nat.reduceLT, Nat.reduceLeDiff, Nat.reduceEqDiff, Nat.succ_ne_zero, reduceIte]
theorem toSlotS_own (xs : List DSlot) (hf : xs.length ≤ 1048576) (hx : ∀ x ∈ xs, Ctr Tryz.prog 214 [.agg x.c] [.val (.agg x.c)]) : Ctr Tryz.prog 201 [.c (.sl (xs.map DSlot.c))] [.own 171 2 (xs.map DSlot.c) true] := by
  refine Ctr.mk (fn := Tryz.f201) Tryz.call201 Tryz.func201 rfl mixed Tryz.ntmps201 Tryz.results201 (by kernel_rfl) rfl fun _ => ?_
  have hc : (0 : Int) ≤ xs.length ∧ (xs.length : Int) ≤ xs.length ∧ (xs.length : Int) ≤ 2147483648 := by omega
  simp only [go_sem, Nat.reduceAdd, Nat.reduceSub, Nat.reduceMul, Nat.reduceLT, Nat.reduceLeDiff, Nat.reduceEqDiff, Nat.succ_ne_zero, reduceIte, List.length_map, hc, List.length_replicate]
  have hg := fun k => @trim1_grow _ DSlot.c DSlot.pure [.v (.int .i64 0), .v (.slice none 0 0)] rfl xs k 171 2 true true
  refine LoopK.mk 1 [0, 3, 4] (A := Nat) (fun k => ⟨23, [(0, .c (.sl (xs.map DSlot.c))), (3, .c (.ref 0)), (4, .c (.v (.int .i64 k)))], [⟨171, 2, grow (xs.map DSlot.c) [.v (.int .i64 0), .v (.slice none 0 0)] k, true, true⟩]⟩) (fun k => k ≤ xs.length) (fun k => xs.length - k) 0 ⟨⟨rfl, by have := hg 0; simp only [grow_zero, List.length_map] at this; exact this⟩, by simp only [grow_zero, List.length_map]; rfl, Nat.zero_le _⟩ ?_
  intro k hk
  simp only [go_sem, Nat.reduceAdd, Nat.reduceSub, Nat.reduceMul, Nat.reduceLT, Nat.reduceLeDiff, Nat.reduceEqDiff, Nat.succ_ne_zero, reduceIte, List.length_map]
  refine cndC.mk (fun h => ?_) (fun h => ?_)
  · have hk' : k < xs.length := by simpa using h
    have hset := @grow_setm _ DSlot.c xs [.v (.int .i64 0), .v (.slice none 0 0)] k hk'
    simp only [go_sem] at hset
    simp only [go_sem, Nat.reduceAdd, Nat.reduceSub, Nat.reduceMul, Nat.reduceLT, Nat.reduceLeDiff, Nat.reduceEqDiff, Nat.succ_ne_zero, reduceIte, map_at _ hk', grow_lenm hk, grow_atm hk', hk', hset, wrap_i64 (n := (k : Int) + 1) (by omega) (by omega)]
    refine CallK.mk _ (by simpa only [go_sem] using hx xs[k] (List.getElem_mem hk')) fun _ => ?_
    simp only [go_sem, Nat.reduceAdd, Nat.reduceSub, Nat.reduceMul, Nat.reduceLT, Nat.reduceLeDiff, Nat.reduceEqDiff, Nat.succ_ne_zero, reduceIte, map_at _ hk', grow_lenm hk, grow_atm hk', hk', hset, wrap_i64 (n := (k : Int) + 1) (by omega) (by omega)]
    exact ⟨k + 1, ⟨rfl, hg _⟩, rfl, by omega, by first | omega | (simp only; omega)⟩
  · have hk' : k = xs.length := by simp at h; omega
    subst hk'
    rw [grow_allm]
    simp only [go_sem, Nat.reduceAdd, Nat.reduceSub, Nat.reduceMul, Nat.reduceLT, Nat.reduceLeDiff, Nat.reduceEqDiff, Nat.succ_ne_zero, reduceIte]
    simp [pureE_map DSlot.pure]
theorem toSlotS_spec (xs : List DSlot) (hf : fitS fitSlot xs) : Ctr Tryz.prog 201 [.c (.sl (xs.map DSlot.c))] [.val (.c (.sl (xs.map DSlot.c)))] := (toSlotS_own xs hf.1 fun x hx => toSlot_spec x (hf.2 x hx)).val
theorem toChunk_spec (d : DChunk) (hf : fitChunk d) : Ctr Tryz.prog 182 [.agg d.c] [.val (.agg d.c)] := by
  rw [fitChunk_eq] at hf
  have f0 := hf
  refine Ctr.mk (fn := Tryz.f182) Tryz.call182 Tryz.func182 rfl mixed Tryz.ntmps182 Tryz.results182 (by kernel_rfl) rfl fun _ => ?_
  simp only [go_sem, Nat.reduceAdd, Nat.reduceSub, Nat.reduceMul, Nat.reduceLT, Nat.reduceLeDiff, Nat.reduceEqDiff, Nat.succ_ne_zero, reduceIte]
  refine CallK.mk _ (by simpa only [go_sem] using toSlotS_spec d.l f0) fun _ => ?_
  simp only [go_sem, Nat.reduceAdd, Nat.reduceSub, Nat.reduceMul, Nat.reduceLT, Nat.reduceLeDiff, Nat.reduceEqDiff, Nat.succ_ne_zero, reduceIte]
theorem toBuf_spec (d : DBuf) (hf : fitBuf d) : Ctr Tryz.prog 143 [.agg d.c] [.val (.agg d.c)] := by
  rw [fitBuf_eq] at hf
  obtain ⟨f0, f1⟩ := hf
  refine Ctr.mk (fn := Tryz.f143) Tryz.call143 Tryz.func143 rfl mixed Tryz.ntmps143 Tryz.results143 (by kernel_rfl) rfl fun _ => ?_
  simp only [go_sem, Nat.reduceAdd, Nat.reduceSub, Nat.reduceMul, Nat.reduceLT, Nat.reduceLeDiff, Nat.reduceEqDiff, Nat.succ_ne_zero, reduceIte]
  refine CallK.mk _ (by simpa only [go_sem] using toChunk_spec d.c0 f0) fun _ => ?_
  simp only [go_sem, Nat.reduceAdd, Nat.reduceSub, Nat.reduceMul, Nat.reduceLT, Nat.reduceLeDiff, Nat.reduceEqDiff, Nat.succ_ne_zero, reduceIte]
  refine CallK.mk _ (by simpa only [go_sem] using toByteS_spec d.g f1) fun _ => ?_
  simp only [go_sem, Nat.reduceAdd, Nat.reduceSub, Nat.reduceMul, Nat.reduceLT, Nat.reduceLeDiff, Nat.reduceEqDiff, Nat.succ_ne_zero, reduceIte]
theorem toBufS_own (xs : List DBuf) (hf : xs.length ≤ 1048576) (hx : ∀ x ∈ xs, Ctr Tryz.prog 143 [.agg x.c] [.val (.agg x.c)]) : Ctr Tryz.prog 84 [.c (.sl (xs.map DBuf.c))] [.own 206 5 (xs.map DBuf.c) true] := by
  refine Ctr.mk (fn := Tryz.f84) Tryz.call84 Tryz.func84 rfl mixed Tryz.ntmps84 Tryz.results84 (by kernel_rfl) rfl fun _ => ?_
  have hc : (0 : Int) ≤ xs.length ∧ (xs.length : Int) ≤ xs.length ∧ (xs.length : Int) ≤ 2147483648 := by omega
  simp only [go_sem, Nat.reduceAdd, Nat.reduceSub, Nat.reduceMul, Nat.reduceLT, Nat.reduceLeDiff, Nat.reduceEqDiff, Nat.succ_ne_zero, reduceIte, List.length_map, hc, List.length_replicate]
  have hg := fun k => @trim1_grow _ DBuf.c DBuf.pure [.v (.int .i64 0), .v (.int .i64 0), .v (.int .i64 0), .v (.slice none 0 0), .v (.slice none 0 0)] rfl xs k 206 5 true true
  refine LoopK.mk 1 [0, 3, 4] (A := Nat) (fun k => ⟨23, [(0, .c (.sl (xs.map DBuf.c))), (3, .c (.ref 0)), (4, .c (.v (.int .i64 k)))], [⟨206, 5, grow (xs.map DBuf.c) [.v (.int .i64 0), .v (.int .i64 0), .v (.int .i64 0), .v (.slice none 0 0), .v (.slice none 0 0)] k, true, true⟩]⟩) (fun k => k ≤ xs.length) (fun k => xs.length - k) 0 ⟨⟨rfl, by have := hg 0; simp only [grow_zero, List.length_map] at this; exact this⟩, by simp only [grow_zero, List.length_map]; rfl, Nat.zero_le _⟩ ?_
  intro k hk
  simp only [go_sem, Nat.reduceAdd, Nat.reduceSub, Nat.reduceMul, Nat.reduceLT, Nat.reduceLeDiff, Nat.reduceEqDiff, Nat.succ_ne_zero, reduceIte, List.length_map]
  refine cndC.mk (fun h => ?_) (fun h => ?_)
  · have hk' : k < xs.length := by simpa using h
    have hset := @grow_setm _ DBuf.c xs [.v (.int .i64 0), .v (.int .i64 0), .v (.int .i64 0), .v (.slice none 0 0), .v (.slice none 0 0)] k hk'
    simp only [go_sem] at hset
    simp only [go_sem, Nat.reduceAdd, Nat.reduceSub, Nat.reduceMul, Nat.reduceLT, Nat.reduceLeDiff, Nat.reduceEqDiff, Nat.succ_ne_zero, reduceIte, map_at _ hk', grow_lenm hk, grow_atm hk', hk', hset, wrap_i64 (n := (k : Int) + 1) (by omega) (by omega)]
    refine CallK.mk _ (by simpa only [go_sem] using hx xs[k] (List.getElem_mem hk')) fun _ => ?_
    simp only [go_sem, Nat.reduceAdd, Nat.reduceSub, Nat.reduceMul, Nat.reduceLT, Nat.reduceLeDiff, Nat.reduceEqDiff, Nat.succ_ne_zero, reduceIte, map_at _ hk', grow_lenm hk, grow_atm hk', hk', hset, wrap_i64 (n := (k : Int) + 1) (by omega) (by omega)]
    exact ⟨k + 1, ⟨rfl, hg _⟩, rfl, by omega, by first | omega | (simp only; omega)⟩
  · have hk' : k = xs.length := by simp at h; omega
    subst hk'
    rw [grow_allm]
    simp only [go_sem, Nat.reduceAdd, Nat.reduceSub, Nat.reduceMul, Nat.reduceLT, Nat.reduceLeDiff, Nat.reduceEqDiff, Nat.succ_ne_zero, reduceIte]
    simp [pureE_map DBuf.pure]
theorem toBufS_spec (xs : List DBuf) (hf : fitS fitBuf xs) : Ctr Tryz.prog 84 [.c (.sl (xs.map DBuf.c))] [.val (.c (.sl (xs.map DBuf.c)))] := (toBufS_own xs hf.1 fun x hx => toBuf_spec x (hf.2 x hx)).val
theorem toDead_spec (d : DDead) : Ctr Tryz.prog 144 [.agg d.c] [.val (.agg d.c)] := by
  refine Ctr.mk (fn := Tryz.f144) Tryz.call144 Tryz.func144 rfl mixed Tryz.ntmps144 Tryz.results144 (by kernel_rfl) rfl fun _ => ?_
  simp only [go_sem, Nat.reduceAdd, Nat.reduceSub, Nat.reduceMul, Nat.reduceLT, Nat.reduceLeDiff, Nat.reduceEqDiff, Nat.succ_ne_zero, reduceIte]
theorem toDeadS_own (xs : List DDead) (hf : xs.length ≤ 1048576) (hx : ∀ x ∈ xs, Ctr Tryz.prog 144 [.agg x.c] [.val (.agg x.c)]) : Ctr Tryz.prog 85 [.c (.sl (xs.map DDead.c))] [.own 209 3 (xs.map DDead.c) true] := by
  refine Ctr.mk (fn := Tryz.f85) Tryz.call85 Tryz.func85 rfl mixed Tryz.ntmps85 Tryz.results85 (by kernel_rfl) rfl fun _ => ?_
  have hc : (0 : Int) ≤ xs.length ∧ (xs.length : Int) ≤ xs.length ∧ (xs.length : Int) ≤ 2147483648 := by omega
  simp only [go_sem, Nat.reduceAdd, Nat.reduceSub, Nat.reduceMul, Nat.reduceLT, Nat.reduceLeDiff, Nat.reduceEqDiff, Nat.succ_ne_zero, reduceIte, List.length_map, hc, List.length_replicate]
  have hg := fun k => @trim1_grow _ DDead.c DDead.pure [.v (.int .i64 0), .v (.int .i64 0), .v (.int .i64 0)] rfl xs k 209 3 true true
  refine LoopK.mk 1 [0, 3, 4] (A := Nat) (fun k => ⟨23, [(0, .c (.sl (xs.map DDead.c))), (3, .c (.ref 0)), (4, .c (.v (.int .i64 k)))], [⟨209, 3, grow (xs.map DDead.c) [.v (.int .i64 0), .v (.int .i64 0), .v (.int .i64 0)] k, true, true⟩]⟩) (fun k => k ≤ xs.length) (fun k => xs.length - k) 0 ⟨⟨rfl, by have := hg 0; simp only [grow_zero, List.length_map] at this; exact this⟩, by simp only [grow_zero, List.length_map]; rfl, Nat.zero_le _⟩ ?_
  intro k hk
  simp only [go_sem, Nat.reduceAdd, Nat.reduceSub, Nat.reduceMul, Nat.reduceLT, Nat.reduceLeDiff, Nat.reduceEqDiff, Nat.succ_ne_zero, reduceIte, List.length_map]
  refine cndC.mk (fun h => ?_) (fun h => ?_)
  · have hk' : k < xs.length := by simpa using h
    have hset := @grow_setm _ DDead.c xs [.v (.int .i64 0), .v (.int .i64 0), .v (.int .i64 0)] k hk'
    simp only [go_sem] at hset
    simp only [go_sem, Nat.reduceAdd, Nat.reduceSub, Nat.reduceMul, Nat.reduceLT, Nat.reduceLeDiff, Nat.reduceEqDiff, Nat.succ_ne_zero, reduceIte, map_at _ hk', grow_lenm hk, grow_atm hk', hk', hset, wrap_i64 (n := (k : Int) + 1) (by omega) (by omega)]
    refine CallK.mk _ (by simpa only [go_sem] using hx xs[k] (List.getElem_mem hk')) fun _ => ?_
    simp only [go_sem, Nat.reduceAdd, Nat.reduceSub, Nat.reduceMul, Nat.reduceLT, Nat.reduceLeDiff, Nat.reduceEqDiff, Nat.succ_ne_zero, reduceIte, map_at _ hk', grow_lenm hk, grow_atm hk', hk', hset, wrap_i64 (n := (k : Int) + 1) (by omega) (by omega)]
    exact ⟨k + 1, ⟨rfl, hg _⟩, rfl, by omega, by first | omega | (simp only; omega)⟩
  · have hk' : k = xs.length := by simp at h; omega
    subst hk'
    rw [grow_allm]
    simp only [go_sem, Nat.reduceAdd, Nat.reduceSub, Nat.reduceMul, Nat.reduceLT, Nat.reduceLeDiff, Nat.reduceEqDiff, Nat.succ_ne_zero, reduceIte]
    simp [pureE_map DDead.pure]
theorem toDeadS_spec (xs : List DDead) (hf : xs.length ≤ 1048576) : Ctr Tryz.prog 85 [.c (.sl (xs.map DDead.c))] [.val (.c (.sl (xs.map DDead.c)))] := (toDeadS_own xs hf fun x _ => toDead_spec x).val
theorem toRef_spec (d : DRef) : Ctr Tryz.prog 181 [.agg d.c] [.val (.agg d.c)] := by
  refine Ctr.mk (fn := Tryz.f181) Tryz.call181 Tryz.func181 rfl mixed Tryz.ntmps181 Tryz.results181 (by kernel_rfl) rfl fun _ => ?_
  simp only [go_sem, Nat.reduceAdd, Nat.reduceSub, Nat.reduceMul, Nat.reduceLT, Nat.reduceLeDiff, Nat.reduceEqDiff, Nat.succ_ne_zero, reduceIte]
theorem toRefS_own (xs : List DRef) (hf : xs.length ≤ 1048576) (hx : ∀ x ∈ xs, Ctr Tryz.prog 181 [.agg x.c] [.val (.agg x.c)]) : Ctr Tryz.prog 142 [.c (.sl (xs.map DRef.c))] [.own 163 5 (xs.map DRef.c) true] := by
  refine Ctr.mk (fn := Tryz.f142) Tryz.call142 Tryz.func142 rfl mixed Tryz.ntmps142 Tryz.results142 (by kernel_rfl) rfl fun _ => ?_
  have hc : (0 : Int) ≤ xs.length ∧ (xs.length : Int) ≤ xs.length ∧ (xs.length : Int) ≤ 2147483648 := by omega
  simp only [go_sem, Nat.reduceAdd, Nat.reduceSub, Nat.reduceMul, Nat.reduceLT, Nat.reduceLeDiff, Nat.reduceEqDiff, Nat.succ_ne_zero, reduceIte, List.length_map, hc, List.length_replicate]
  have hg := fun k => @trim1_grow _ DRef.c DRef.pure [.v (.int .i64 0), .v (.int .i64 0), .v (.int .i64 0), .v (.int .i64 0), .v (.int .i64 0)] rfl xs k 163 5 true true
  refine LoopK.mk 1 [0, 3, 4] (A := Nat) (fun k => ⟨23, [(0, .c (.sl (xs.map DRef.c))), (3, .c (.ref 0)), (4, .c (.v (.int .i64 k)))], [⟨163, 5, grow (xs.map DRef.c) [.v (.int .i64 0), .v (.int .i64 0), .v (.int .i64 0), .v (.int .i64 0), .v (.int .i64 0)] k, true, true⟩]⟩) (fun k => k ≤ xs.length) (fun k => xs.length - k) 0 ⟨⟨rfl, by have := hg 0; simp only [grow_zero, List.length_map] at this; exact this⟩, by simp only [grow_zero, List.length_map]; rfl, Nat.zero_le _⟩ ?_
  intro k hk
  simp only [go_sem, Nat.reduceAdd, Nat.reduceSub, Nat.reduceMul, Nat.reduceLT, Nat.reduceLeDiff, Nat.reduceEqDiff, Nat.succ_ne_zero, reduceIte, List.length_map]
  refine cndC.mk (fun h => ?_) (fun h => ?_)
  · have hk' : k < xs.length := by simpa using h
    have hset := @grow_setm _ DRef.c xs [.v (.int .i64 0), .v (.int .i64 0), .v (.int .i64 0), .v (.int .i64 0), .v (.int .i64 0)] k hk'
    simp only [go_sem] at hset
    simp only [go_sem, Nat.reduceAdd, Nat.reduceSub, Nat.reduceMul, Nat.reduceLT, Nat.reduceLeDiff, Nat.reduceEqDiff, Nat.succ_ne_zero, reduceIte, map_at _ hk', grow_lenm hk, grow_atm hk', hk', hset, wrap_i64 (n := (k : Int) + 1) (by omega) (by omega)]
    refine CallK.mk _ (by simpa only [go_sem] using hx xs[k] (List.getElem_mem hk')) fun _ => ?_
    simp only [go_sem, Nat.reduceAdd, Nat.reduceSub, Nat.reduceMul, Nat.reduceLT, Nat.reduceLeDiff, Nat.reduceEqDiff, Nat.succ_ne_zero, reduceIte, map_at _ hk', grow_lenm hk, grow_atm hk', hk', hset, wrap_i64 (n := (k : Int) + 1) (by omega) (by omega)]
    exact ⟨k + 1, ⟨rfl, hg _⟩, rfl, by omega, by first | omega | (simp only; omega)⟩
  · have hk' : k = xs.length := by simp at h; omega
    subst hk'
    rw [grow_allm]
    simp only [go_sem, Nat.reduceAdd, Nat.reduceSub, Nat.reduceMul, Nat.reduceLT, Nat.reduceLeDiff, Nat.reduceEqDiff, Nat.succ_ne_zero, reduceIte]
    simp [pureE_map DRef.pure]
theorem toRefS_spec (xs : List DRef) (hf : xs.length ≤ 1048576) : Ctr Tryz.prog 142 [.c (.sl (xs.map DRef.c))] [.val (.c (.sl (xs.map DRef.c)))] := (toRefS_own xs hf fun x _ => toRef_spec x).val
theorem toDir_spec (d : DDir) (hf : fitDir d) : Ctr Tryz.prog 83 [.agg d.c] [.val (.agg d.c)] := by
  rw [fitDir_eq] at hf
  have f0 := hf
  refine Ctr.mk (fn := Tryz.f83) Tryz.call83 Tryz.func83 rfl mixed Tryz.ntmps83 Tryz.results83 (by kernel_rfl) rfl fun _ => ?_
  simp only [go_sem, Nat.reduceAdd, Nat.reduceSub, Nat.reduceMul, Nat.reduceLT, Nat.reduceLeDiff, Nat.reduceEqDiff, Nat.succ_ne_zero, reduceIte]
  refine CallK.mk _ (by simpa only [go_sem] using toRefS_spec d.l f0) fun _ => ?_
  simp only [go_sem, Nat.reduceAdd, Nat.reduceSub, Nat.reduceMul, Nat.reduceLT, Nat.reduceLeDiff, Nat.reduceEqDiff, Nat.succ_ne_zero, reduceIte]
theorem toTask_spec (d : DTask) (hf : fitTask d) : Ctr Tryz.prog 145 [.agg d.c] [.val (.agg d.c)] := by
  rw [fitTask_eq] at hf
  obtain ⟨f0, f1, f2, f3⟩ := hf
  refine Ctr.mk (fn := Tryz.f145) Tryz.call145 Tryz.func145 rfl mixed Tryz.ntmps145 Tryz.results145 (by kernel_rfl) rfl fun _ => ?_
  simp only [go_sem, Nat.reduceAdd, Nat.reduceSub, Nat.reduceMul, Nat.reduceLT, Nat.reduceLeDiff, Nat.reduceEqDiff, Nat.succ_ne_zero, reduceIte]
  refine CallK.mk _ (by simpa only [go_sem] using toValS_spec d.r f0) fun _ => ?_
  simp only [go_sem, Nat.reduceAdd, Nat.reduceSub, Nat.reduceMul, Nat.reduceLT, Nat.reduceLeDiff, Nat.reduceEqDiff, Nat.succ_ne_zero, reduceIte]
  refine CallK.mk _ (by simpa only [go_sem] using toQuery_spec d.q f1) fun _ => ?_
  simp only [go_sem, Nat.reduceAdd, Nat.reduceSub, Nat.reduceMul, Nat.reduceLT, Nat.reduceLeDiff, Nat.reduceEqDiff, Nat.succ_ne_zero, reduceIte]
  refine CallK.mk _ (by simpa only [go_sem] using toRefS_spec d.l f2) fun _ => ?_
  simp only [go_sem, Nat.reduceAdd, Nat.reduceSub, Nat.reduceMul, Nat.reduceLT, Nat.reduceLeDiff, Nat.reduceEqDiff, Nat.succ_ne_zero, reduceIte]
  refine CallK.mk _ (by simpa only [go_sem] using toRowS_spec d.got f3) fun _ => ?_
  simp only [go_sem, Nat.reduceAdd, Nat.reduceSub, Nat.reduceMul, Nat.reduceLT, Nat.reduceLeDiff, Nat.reduceEqDiff, Nat.succ_ne_zero, reduceIte]
theorem toTaskS_own (xs : List DTask) (hf : xs.length ≤ 1048576) (hx : ∀ x ∈ xs, Ctr Tryz.prog 145 [.agg x.c] [.val (.agg x.c)]) : Ctr Tryz.prog 86 [.c (.sl (xs.map DTask.c))] [.own 213 25 (xs.map DTask.c) true] := by
  refine Ctr.mk (fn := Tryz.f86) Tryz.call86 Tryz.func86 rfl mixed Tryz.ntmps86 Tryz.results86 (by kernel_rfl) rfl fun _ => ?_
  have hc : (0 : Int) ≤ xs.length ∧ (xs.length : Int) ≤ xs.length ∧ (xs.length : Int) ≤ 2147483648 := by omega
  simp only [go_sem, Nat.reduceAdd, Nat.reduceSub, Nat.reduceMul, Nat.reduceLT, Nat.reduceLeDiff, Nat.reduceEqDiff, Nat.succ_ne_zero, reduceIte, List.length_map, hc, List.length_replicate]
  have hg := fun k => @trim1_grow _ DTask.c DTask.pure [.v (.int .i64 0), .v (.int .i64 0), .v (.int .i64 0), .v (.slice none 0 0), .v (.int .i64 0), .v (.int .i64 0), .v (.int .i64 0), .v (.int .i64 0), .v (.int .i64 0), .v (.int .i64 0), .v (.int .i64 0), .v (.string ByteArray.empty), .v (.slice none 0 0), .v (.int .i64 0), .v (.slice none 0 0), .v (.int .i64 0), .v (.int .i64 0), .v (.slice none 0 0), .v (.int .i64 0), .v (.int .i64 0), .v (.int .i64 0), .v (.int .i64 0), .v (.int .i64 0), .v (.bool false), .v (.slice none 0 0)] rfl xs k 213 25 true true
  refine LoopK.mk 1 [0, 3, 4] (A := Nat) (fun k => ⟨23, [(0, .c (.sl (xs.map DTask.c))), (3, .c (.ref 0)), (4, .c (.v (.int .i64 k)))], [⟨213, 25, grow (xs.map DTask.c) [.v (.int .i64 0), .v (.int .i64 0), .v (.int .i64 0), .v (.slice none 0 0), .v (.int .i64 0), .v (.int .i64 0), .v (.int .i64 0), .v (.int .i64 0), .v (.int .i64 0), .v (.int .i64 0), .v (.int .i64 0), .v (.string ByteArray.empty), .v (.slice none 0 0), .v (.int .i64 0), .v (.slice none 0 0), .v (.int .i64 0), .v (.int .i64 0), .v (.slice none 0 0), .v (.int .i64 0), .v (.int .i64 0), .v (.int .i64 0), .v (.int .i64 0), .v (.int .i64 0), .v (.bool false), .v (.slice none 0 0)] k, true, true⟩]⟩) (fun k => k ≤ xs.length) (fun k => xs.length - k) 0 ⟨⟨rfl, by have := hg 0; simp only [grow_zero, List.length_map] at this; exact this⟩, by simp only [grow_zero, List.length_map]; rfl, Nat.zero_le _⟩ ?_
  intro k hk
  simp only [go_sem, Nat.reduceAdd, Nat.reduceSub, Nat.reduceMul, Nat.reduceLT, Nat.reduceLeDiff, Nat.reduceEqDiff, Nat.succ_ne_zero, reduceIte, List.length_map]
  refine cndC.mk (fun h => ?_) (fun h => ?_)
  · have hk' : k < xs.length := by simpa using h
    have hset := @grow_setm _ DTask.c xs [.v (.int .i64 0), .v (.int .i64 0), .v (.int .i64 0), .v (.slice none 0 0), .v (.int .i64 0), .v (.int .i64 0), .v (.int .i64 0), .v (.int .i64 0), .v (.int .i64 0), .v (.int .i64 0), .v (.int .i64 0), .v (.string ByteArray.empty), .v (.slice none 0 0), .v (.int .i64 0), .v (.slice none 0 0), .v (.int .i64 0), .v (.int .i64 0), .v (.slice none 0 0), .v (.int .i64 0), .v (.int .i64 0), .v (.int .i64 0), .v (.int .i64 0), .v (.int .i64 0), .v (.bool false), .v (.slice none 0 0)] k hk'
    simp only [go_sem] at hset
    simp only [go_sem, Nat.reduceAdd, Nat.reduceSub, Nat.reduceMul, Nat.reduceLT, Nat.reduceLeDiff, Nat.reduceEqDiff, Nat.succ_ne_zero, reduceIte, map_at _ hk', grow_lenm hk, grow_atm hk', hk', hset, wrap_i64 (n := (k : Int) + 1) (by omega) (by omega)]
    refine CallK.mk _ (by simpa only [go_sem] using hx xs[k] (List.getElem_mem hk')) fun _ => ?_
    simp only [go_sem, Nat.reduceAdd, Nat.reduceSub, Nat.reduceMul, Nat.reduceLT, Nat.reduceLeDiff, Nat.reduceEqDiff, Nat.succ_ne_zero, reduceIte, map_at _ hk', grow_lenm hk, grow_atm hk', hk', hset, wrap_i64 (n := (k : Int) + 1) (by omega) (by omega)]
    exact ⟨k + 1, ⟨rfl, hg _⟩, rfl, by omega, by first | omega | (simp only; omega)⟩
  · have hk' : k = xs.length := by simp at h; omega
    subst hk'
    rw [grow_allm]
    simp only [go_sem, Nat.reduceAdd, Nat.reduceSub, Nat.reduceMul, Nat.reduceLT, Nat.reduceLeDiff, Nat.reduceEqDiff, Nat.succ_ne_zero, reduceIte]
    simp [pureE_map DTask.pure]
theorem toTaskS_spec (xs : List DTask) (hf : fitS fitTask xs) : Ctr Tryz.prog 86 [.c (.sl (xs.map DTask.c))] [.val (.c (.sl (xs.map DTask.c)))] := (toTaskS_own xs hf.1 fun x hx => toTask_spec x (hf.2 x hx)).val
theorem toDeed_spec (d : DDeed) (hf : fitDeed d) : Ctr Tryz.prog 12 [.agg d.c] [.val (.agg d.c)] := by
  rw [fitDeed_eq] at hf
  obtain ⟨f0, f1, f2⟩ := hf
  refine Ctr.mk (fn := Tryz.f12) Tryz.call12 Tryz.func12 rfl mixed Tryz.ntmps12 Tryz.results12 (by kernel_rfl) rfl fun _ => ?_
  simp only [go_sem, Nat.reduceAdd, Nat.reduceSub, Nat.reduceMul, Nat.reduceLT, Nat.reduceLeDiff, Nat.reduceEqDiff, Nat.succ_ne_zero, reduceIte]
  refine CallK.mk _ (by simpa only [go_sem] using toValS_spec d.r f0) fun _ => ?_
  simp only [go_sem, Nat.reduceAdd, Nat.reduceSub, Nat.reduceMul, Nat.reduceLT, Nat.reduceLeDiff, Nat.reduceEqDiff, Nat.succ_ne_zero, reduceIte]
  refine CallK.mk _ (by simpa only [go_sem] using toQuery_spec d.q f1) fun _ => ?_
  simp only [go_sem, Nat.reduceAdd, Nat.reduceSub, Nat.reduceMul, Nat.reduceLT, Nat.reduceLeDiff, Nat.reduceEqDiff, Nat.succ_ne_zero, reduceIte]
  refine CallK.mk _ (by simpa only [go_sem] using toResult_spec d.res f2) fun _ => ?_
  simp only [go_sem, Nat.reduceAdd, Nat.reduceSub, Nat.reduceMul, Nat.reduceLT, Nat.reduceLeDiff, Nat.reduceEqDiff, Nat.succ_ne_zero, reduceIte]
theorem toDeedS_own (xs : List DDeed) (hf : xs.length ≤ 1048576) (hx : ∀ x ∈ xs, Ctr Tryz.prog 12 [.agg x.c] [.val (.agg x.c)]) : Ctr Tryz.prog 32 [.c (.sl (xs.map DDeed.c))] [.own 56 25 (xs.map DDeed.c) true] := by
  refine Ctr.mk (fn := Tryz.f32) Tryz.call32 Tryz.func32 rfl mixed Tryz.ntmps32 Tryz.results32 (by kernel_rfl) rfl fun _ => ?_
  have hc : (0 : Int) ≤ xs.length ∧ (xs.length : Int) ≤ xs.length ∧ (xs.length : Int) ≤ 2147483648 := by omega
  simp only [go_sem, Nat.reduceAdd, Nat.reduceSub, Nat.reduceMul, Nat.reduceLT, Nat.reduceLeDiff, Nat.reduceEqDiff, Nat.succ_ne_zero, reduceIte, List.length_map, hc, List.length_replicate]
  have hg := fun k => @trim1_grow _ DDeed.c DDeed.pure [.v (.int .i64 0), .v (.int .i64 0), .v (.slice none 0 0), .v (.int .i64 0), .v (.int .i64 0), .v (.int .i64 0), .v (.int .i64 0), .v (.int .i64 0), .v (.int .i64 0), .v (.int .i64 0), .v (.string ByteArray.empty), .v (.slice none 0 0), .v (.int .i64 0), .v (.slice none 0 0), .v (.slice none 0 0), .v (.int .i64 0), .v (.bool false), .v (.int .i64 0), .v (.int .i64 0), .v (.string ByteArray.empty), .v (.int .i64 0), .v (.int .i64 0), .v (.int .i64 0), .v (.int .i64 0), .v (.int .i64 0)] rfl xs k 56 25 true true
  refine LoopK.mk 1 [0, 3, 4] (A := Nat) (fun k => ⟨23, [(0, .c (.sl (xs.map DDeed.c))), (3, .c (.ref 0)), (4, .c (.v (.int .i64 k)))], [⟨56, 25, grow (xs.map DDeed.c) [.v (.int .i64 0), .v (.int .i64 0), .v (.slice none 0 0), .v (.int .i64 0), .v (.int .i64 0), .v (.int .i64 0), .v (.int .i64 0), .v (.int .i64 0), .v (.int .i64 0), .v (.int .i64 0), .v (.string ByteArray.empty), .v (.slice none 0 0), .v (.int .i64 0), .v (.slice none 0 0), .v (.slice none 0 0), .v (.int .i64 0), .v (.bool false), .v (.int .i64 0), .v (.int .i64 0), .v (.string ByteArray.empty), .v (.int .i64 0), .v (.int .i64 0), .v (.int .i64 0), .v (.int .i64 0), .v (.int .i64 0)] k, true, true⟩]⟩) (fun k => k ≤ xs.length) (fun k => xs.length - k) 0 ⟨⟨rfl, by have := hg 0; simp only [grow_zero, List.length_map] at this; exact this⟩, by simp only [grow_zero, List.length_map]; rfl, Nat.zero_le _⟩ ?_
  intro k hk
  simp only [go_sem, Nat.reduceAdd, Nat.reduceSub, Nat.reduceMul, Nat.reduceLT, Nat.reduceLeDiff, Nat.reduceEqDiff, Nat.succ_ne_zero, reduceIte, List.length_map]
  refine cndC.mk (fun h => ?_) (fun h => ?_)
  · have hk' : k < xs.length := by simpa using h
    have hset := @grow_setm _ DDeed.c xs [.v (.int .i64 0), .v (.int .i64 0), .v (.slice none 0 0), .v (.int .i64 0), .v (.int .i64 0), .v (.int .i64 0), .v (.int .i64 0), .v (.int .i64 0), .v (.int .i64 0), .v (.int .i64 0), .v (.string ByteArray.empty), .v (.slice none 0 0), .v (.int .i64 0), .v (.slice none 0 0), .v (.slice none 0 0), .v (.int .i64 0), .v (.bool false), .v (.int .i64 0), .v (.int .i64 0), .v (.string ByteArray.empty), .v (.int .i64 0), .v (.int .i64 0), .v (.int .i64 0), .v (.int .i64 0), .v (.int .i64 0)] k hk'
    simp only [go_sem] at hset
    simp only [go_sem, Nat.reduceAdd, Nat.reduceSub, Nat.reduceMul, Nat.reduceLT, Nat.reduceLeDiff, Nat.reduceEqDiff, Nat.succ_ne_zero, reduceIte, map_at _ hk', grow_lenm hk, grow_atm hk', hk', hset, wrap_i64 (n := (k : Int) + 1) (by omega) (by omega)]
    refine CallK.mk _ (by simpa only [go_sem] using hx xs[k] (List.getElem_mem hk')) fun _ => ?_
    simp only [go_sem, Nat.reduceAdd, Nat.reduceSub, Nat.reduceMul, Nat.reduceLT, Nat.reduceLeDiff, Nat.reduceEqDiff, Nat.succ_ne_zero, reduceIte, map_at _ hk', grow_lenm hk, grow_atm hk', hk', hset, wrap_i64 (n := (k : Int) + 1) (by omega) (by omega)]
    exact ⟨k + 1, ⟨rfl, hg _⟩, rfl, by omega, by first | omega | (simp only; omega)⟩
  · have hk' : k = xs.length := by simp at h; omega
    subst hk'
    rw [grow_allm]
    simp only [go_sem, Nat.reduceAdd, Nat.reduceSub, Nat.reduceMul, Nat.reduceLT, Nat.reduceLeDiff, Nat.reduceEqDiff, Nat.succ_ne_zero, reduceIte]
    simp [pureE_map DDeed.pure]
theorem toDeedS_spec (xs : List DDeed) (hf : fitS fitDeed xs) : Ctr Tryz.prog 32 [.c (.sl (xs.map DDeed.c))] [.val (.c (.sl (xs.map DDeed.c)))] := (toDeedS_own xs hf.1 fun x hx => toDeed_spec x (hf.2 x hx)).val
theorem toConf_spec (d : DConf) (hf : fitConf d) : Ctr Tryz.prog 82 [.agg d.c] [.val (.agg d.c)] := by
  rw [fitConf_eq] at hf
  have f0 := hf
  refine Ctr.mk (fn := Tryz.f82) Tryz.call82 Tryz.func82 rfl mixed Tryz.ntmps82 Tryz.results82 (by kernel_rfl) rfl fun _ => ?_
  simp only [go_sem, Nat.reduceAdd, Nat.reduceSub, Nat.reduceMul, Nat.reduceLT, Nat.reduceLeDiff, Nat.reduceEqDiff, Nat.succ_ne_zero, reduceIte]
  refine CallK.mk _ (by simpa only [go_sem] using toIntS_spec d.cols f0) fun _ => ?_
  simp only [go_sem, Nat.reduceAdd, Nat.reduceSub, Nat.reduceMul, Nat.reduceLT, Nat.reduceLeDiff, Nat.reduceEqDiff, Nat.succ_ne_zero, reduceIte]
theorem toWorld_spec (d : DWorld) (hf : fitWorld d) : Ctr Tryz.prog 22 [.agg d.c] [.val (.agg d.c)] := by
  rw [fitWorld_eq] at hf
  obtain ⟨f0, f1, f2, f3, f4, f5, f6, f7⟩ := hf
  refine Ctr.mk (fn := Tryz.f22) Tryz.call22 Tryz.func22 rfl mixed Tryz.ntmps22 Tryz.results22 (by kernel_rfl) rfl fun _ => ?_
  simp only [go_sem, Nat.reduceAdd, Nat.reduceSub, Nat.reduceMul, Nat.reduceLT, Nat.reduceLeDiff, Nat.reduceEqDiff, Nat.succ_ne_zero, reduceIte]
  refine CallK.mk _ (by simpa only [go_sem] using toConf_spec d.c0 f0) fun _ => ?_
  simp only [go_sem, Nat.reduceAdd, Nat.reduceSub, Nat.reduceMul, Nat.reduceLT, Nat.reduceLeDiff, Nat.reduceEqDiff, Nat.succ_ne_zero, reduceIte]
  refine CallK.mk _ (by simpa only [go_sem] using toDir_spec d.d f1) fun _ => ?_
  simp only [go_sem, Nat.reduceAdd, Nat.reduceSub, Nat.reduceMul, Nat.reduceLT, Nat.reduceLeDiff, Nat.reduceEqDiff, Nat.succ_ne_zero, reduceIte]
  refine CallK.mk _ (by simpa only [go_sem] using toBufS_spec d.b f2) fun _ => ?_
  simp only [go_sem, Nat.reduceAdd, Nat.reduceSub, Nat.reduceMul, Nat.reduceLT, Nat.reduceLeDiff, Nat.reduceEqDiff, Nat.succ_ne_zero, reduceIte]
  refine CallK.mk _ (by simpa only [go_sem] using toIntS_spec d.m f3) fun _ => ?_
  simp only [go_sem, Nat.reduceAdd, Nat.reduceSub, Nat.reduceMul, Nat.reduceLT, Nat.reduceLeDiff, Nat.reduceEqDiff, Nat.succ_ne_zero, reduceIte]
  refine CallK.mk _ (by simpa only [go_sem] using toDeadS_spec d.x f4) fun _ => ?_
  simp only [go_sem, Nat.reduceAdd, Nat.reduceSub, Nat.reduceMul, Nat.reduceLT, Nat.reduceLeDiff, Nat.reduceEqDiff, Nat.succ_ne_zero, reduceIte]
  refine CallK.mk _ (by simpa only [go_sem] using toIntS_spec d.p f5) fun _ => ?_
  simp only [go_sem, Nat.reduceAdd, Nat.reduceSub, Nat.reduceMul, Nat.reduceLT, Nat.reduceLeDiff, Nat.reduceEqDiff, Nat.succ_ne_zero, reduceIte]
  refine CallK.mk _ (by simpa only [go_sem] using toTaskS_spec d.tasks f6) fun _ => ?_
  simp only [go_sem, Nat.reduceAdd, Nat.reduceSub, Nat.reduceMul, Nat.reduceLT, Nat.reduceLeDiff, Nat.reduceEqDiff, Nat.succ_ne_zero, reduceIte]
  refine CallK.mk _ (by simpa only [go_sem] using toDeedS_spec d.deeds f7) fun _ => ?_
  simp only [go_sem, Nat.reduceAdd, Nat.reduceSub, Nat.reduceMul, Nat.reduceLT, Nat.reduceLeDiff, Nat.reduceEqDiff, Nat.succ_ne_zero, reduceIte]
theorem toTable_spec (d : DTable) (hf : fitTable d) : Ctr Tryz.prog 11 [.agg d.c] [.val (.agg d.c)] := by
  rw [fitTable_eq] at hf
  obtain ⟨f0, f1⟩ := hf
  refine Ctr.mk (fn := Tryz.f11) Tryz.call11 Tryz.func11 rfl mixed Tryz.ntmps11 Tryz.results11 (by kernel_rfl) rfl fun _ => ?_
  simp only [go_sem, Nat.reduceAdd, Nat.reduceSub, Nat.reduceMul, Nat.reduceLT, Nat.reduceLeDiff, Nat.reduceEqDiff, Nat.succ_ne_zero, reduceIte]
  refine CallK.mk _ (by simpa only [go_sem] using toIntS_spec d.cols f0) fun _ => ?_
  simp only [go_sem, Nat.reduceAdd, Nat.reduceSub, Nat.reduceMul, Nat.reduceLT, Nat.reduceLeDiff, Nat.reduceEqDiff, Nat.succ_ne_zero, reduceIte]
  refine CallK.mk _ (by simpa only [go_sem] using toRowS_spec d.l f1) fun _ => ?_
  simp only [go_sem, Nat.reduceAdd, Nat.reduceSub, Nat.reduceMul, Nat.reduceLT, Nat.reduceLeDiff, Nat.reduceEqDiff, Nat.succ_ne_zero, reduceIte]
theorem eqIntS_spec (xs : List Int) : Ctr Tryz.prog 64 [.c (.sl (xs.map intC)), .c (.sl (xs.map intC))] [.val (.c (.v (.bool true)))] := by
  refine Ctr.mk (fn := Tryz.f64) Tryz.call64 Tryz.func64 rfl mixed Tryz.ntmps64 Tryz.results64 (by kernel_rfl) rfl fun hw => ?_
  have hlen : xs.length ≤ 9223372036854775807 := by have := hw.1.1; simpa [Go.maxLen] using this
  simp only [go_sem, Nat.reduceAdd, Nat.reduceSub, Nat.reduceMul, Nat.reduceLT, Nat.reduceLeDiff, Nat.reduceEqDiff, Nat.succ_ne_zero, reduceIte, List.length_map, bne_self_eq_false, beq_self_eq_true]
  refine LoopK.mk 0 [0, 1, 5] (A := Nat) (fun k => ⟨26, [(0, .c (.sl (xs.map intC))), (1, .c (.sl (xs.map intC))), (5, .c (.v (.int .i64 k)))], []⟩) (fun k => k ≤ xs.length) (fun k => xs.length - k) 0 ⟨⟨rfl, rfl⟩, rfl, Nat.zero_le _⟩ ?_
  intro k hk
  simp only [go_sem, Nat.reduceAdd, Nat.reduceSub, Nat.reduceMul, Nat.reduceLT, Nat.reduceLeDiff, Nat.reduceEqDiff, Nat.succ_ne_zero, reduceIte, List.length_map]
  refine cndC.mk (fun h => ?_) (fun h => ?_)
  · have hk' : k < xs.length := by simpa using h
    simp only [go_sem, Nat.reduceAdd, Nat.reduceSub, Nat.reduceMul, Nat.reduceLT, Nat.reduceLeDiff, Nat.reduceEqDiff, Nat.succ_ne_zero, reduceIte]
    refine DrawK.mk ?_
    simp only [go_sem, Nat.reduceAdd, Nat.reduceSub, Nat.reduceMul, Nat.reduceLT, Nat.reduceLeDiff, Nat.reduceEqDiff, Nat.succ_ne_zero, reduceIte, List.length_map, bne_self_eq_false, beq_self_eq_true, map_at _ hk', hk', wrap_i64 (n := (k : Int) + 1) (by omega) (by omega)]
    exact ⟨k + 1, ⟨rfl, rfl⟩, rfl, by omega, by first | omega | (simp only; omega)⟩
  · simp only [go_sem, Nat.reduceAdd, Nat.reduceSub, Nat.reduceMul, Nat.reduceLT, Nat.reduceLeDiff, Nat.reduceEqDiff, Nat.succ_ne_zero, reduceIte]
theorem eqByteS_spec (xs : List Int) : Ctr Tryz.prog 186 [.c (.sl (xs.map byteC)), .c (.sl (xs.map byteC))] [.val (.c (.v (.bool true)))] := by
  refine Ctr.mk (fn := Tryz.f186) Tryz.call186 Tryz.func186 rfl mixed Tryz.ntmps186 Tryz.results186 (by kernel_rfl) rfl fun hw => ?_
  have hlen : xs.length ≤ 9223372036854775807 := by have := hw.1.1; simpa [Go.maxLen] using this
  simp only [go_sem, Nat.reduceAdd, Nat.reduceSub, Nat.reduceMul, Nat.reduceLT, Nat.reduceLeDiff, Nat.reduceEqDiff, Nat.succ_ne_zero, reduceIte, List.length_map, bne_self_eq_false, beq_self_eq_true]
  refine LoopK.mk 0 [0, 1, 5] (A := Nat) (fun k => ⟨26, [(0, .c (.sl (xs.map byteC))), (1, .c (.sl (xs.map byteC))), (5, .c (.v (.int .i64 k)))], []⟩) (fun k => k ≤ xs.length) (fun k => xs.length - k) 0 ⟨⟨rfl, rfl⟩, rfl, Nat.zero_le _⟩ ?_
  intro k hk
  simp only [go_sem, Nat.reduceAdd, Nat.reduceSub, Nat.reduceMul, Nat.reduceLT, Nat.reduceLeDiff, Nat.reduceEqDiff, Nat.succ_ne_zero, reduceIte, List.length_map]
  refine cndC.mk (fun h => ?_) (fun h => ?_)
  · have hk' : k < xs.length := by simpa using h
    simp only [go_sem, Nat.reduceAdd, Nat.reduceSub, Nat.reduceMul, Nat.reduceLT, Nat.reduceLeDiff, Nat.reduceEqDiff, Nat.succ_ne_zero, reduceIte]
    refine DrawK.mk ?_
    simp only [go_sem, Nat.reduceAdd, Nat.reduceSub, Nat.reduceMul, Nat.reduceLT, Nat.reduceLeDiff, Nat.reduceEqDiff, Nat.succ_ne_zero, reduceIte, List.length_map, bne_self_eq_false, beq_self_eq_true, map_at _ hk', hk', wrap_i64 (n := (k : Int) + 1) (by omega) (by omega)]
    exact ⟨k + 1, ⟨rfl, rfl⟩, rfl, by omega, by first | omega | (simp only; omega)⟩
  · simp only [go_sem, Nat.reduceAdd, Nat.reduceSub, Nat.reduceMul, Nat.reduceLT, Nat.reduceLeDiff, Nat.reduceEqDiff, Nat.succ_ne_zero, reduceIte]
theorem eqVal_spec (d : DVal) : Ctr Tryz.prog 136 [.agg d.c, .agg d.c] [.val (.c (.v (.bool true)))] := by
  refine Ctr.mk (fn := Tryz.f136) Tryz.call136 Tryz.func136 rfl mixed Tryz.ntmps136 Tryz.results136 (by kernel_rfl) rfl fun _ => ?_
  simp only [go_sem, Nat.reduceAdd, Nat.reduceSub, Nat.reduceMul, Nat.reduceLT, Nat.reduceLeDiff, Nat.reduceEqDiff, Nat.succ_ne_zero, reduceIte, bne_self_eq_false, beq_self_eq_true]
theorem eqValS_of (xs : List DVal) (hx : ∀ x ∈ xs, Ctr Tryz.prog 136 [.agg x.c, .agg x.c] [.val (.c (.v (.bool true)))]) : Ctr Tryz.prog 65 [.c (.sl (xs.map DVal.c)), .c (.sl (xs.map DVal.c))] [.val (.c (.v (.bool true)))] := by
  refine Ctr.mk (fn := Tryz.f65) Tryz.call65 Tryz.func65 rfl mixed Tryz.ntmps65 Tryz.results65 (by kernel_rfl) rfl fun hw => ?_
  have hlen : xs.length ≤ 9223372036854775807 := by have := hw.1.1; simpa [Go.maxLen] using this
  simp only [go_sem, Nat.reduceAdd, Nat.reduceSub, Nat.reduceMul, Nat.reduceLT, Nat.reduceLeDiff, Nat.reduceEqDiff, Nat.succ_ne_zero, reduceIte, List.length_map, bne_self_eq_false, beq_self_eq_true]
  refine LoopK.mk 0 [0, 1, 5] (A := Nat) (fun k => ⟨27, [(0, .c (.sl (xs.map DVal.c))), (1, .c (.sl (xs.map DVal.c))), (5, .c (.v (.int .i64 k)))], []⟩) (fun k => k ≤ xs.length) (fun k => xs.length - k) 0 ⟨⟨rfl, rfl⟩, rfl, Nat.zero_le _⟩ ?_
  intro k hk
  simp only [go_sem, Nat.reduceAdd, Nat.reduceSub, Nat.reduceMul, Nat.reduceLT, Nat.reduceLeDiff, Nat.reduceEqDiff, Nat.succ_ne_zero, reduceIte, List.length_map]
  refine cndC.mk (fun h => ?_) (fun h => ?_)
  · have hk' : k < xs.length := by simpa using h
    simp only [go_sem, Nat.reduceAdd, Nat.reduceSub, Nat.reduceMul, Nat.reduceLT, Nat.reduceLeDiff, Nat.reduceEqDiff, Nat.succ_ne_zero, reduceIte]
    refine DrawK.mk ?_
    simp only [go_sem, Nat.reduceAdd, Nat.reduceSub, Nat.reduceMul, Nat.reduceLT, Nat.reduceLeDiff, Nat.reduceEqDiff, Nat.succ_ne_zero, reduceIte, List.length_map, bne_self_eq_false, beq_self_eq_true, map_at _ hk', hk', wrap_i64 (n := (k : Int) + 1) (by omega) (by omega)]
    refine CallF.mk _ (by simpa only [go_sem] using hx xs[k] (List.getElem_mem hk')) ?_
    simp only [go_sem, Nat.reduceAdd, Nat.reduceSub, Nat.reduceMul, Nat.reduceLT, Nat.reduceLeDiff, Nat.reduceEqDiff, Nat.succ_ne_zero, reduceIte, map_at _ hk', wrap_i64 (n := (k : Int) + 1) (by omega) (by omega)]
    exact ⟨k + 1, ⟨rfl, rfl⟩, rfl, by omega, by first | omega | (simp only; omega)⟩
  · simp only [go_sem, Nat.reduceAdd, Nat.reduceSub, Nat.reduceMul, Nat.reduceLT, Nat.reduceLeDiff, Nat.reduceEqDiff, Nat.succ_ne_zero, reduceIte]
theorem eqValS_spec (xs : List DVal) : Ctr Tryz.prog 65 [.c (.sl (xs.map DVal.c)), .c (.sl (xs.map DVal.c))] [.val (.c (.v (.bool true)))] := eqValS_of xs fun x _ => eqVal_spec x
theorem eqRow_spec (d : DRow) : Ctr Tryz.prog 91 [.agg d.c, .agg d.c] [.val (.c (.v (.bool true)))] := by
  refine Ctr.mk (fn := Tryz.f91) Tryz.call91 Tryz.func91 rfl mixed Tryz.ntmps91 Tryz.results91 (by kernel_rfl) rfl fun _ => ?_
  simp only [go_sem, Nat.reduceAdd, Nat.reduceSub, Nat.reduceMul, Nat.reduceLT, Nat.reduceLeDiff, Nat.reduceEqDiff, Nat.succ_ne_zero, reduceIte, bne_self_eq_false, beq_self_eq_true]
  refine CallK.mk _ (by simpa only [go_sem] using eqValS_spec d.l) fun _ => ?_
  simp only [go_sem, Nat.reduceAdd, Nat.reduceSub, Nat.reduceMul, Nat.reduceLT, Nat.reduceLeDiff, Nat.reduceEqDiff, Nat.succ_ne_zero, reduceIte, bne_self_eq_false, beq_self_eq_true]
theorem eqRowS_of (xs : List DRow) (hx : ∀ x ∈ xs, Ctr Tryz.prog 91 [.agg x.c, .agg x.c] [.val (.c (.v (.bool true)))]) : Ctr Tryz.prog 25 [.c (.sl (xs.map DRow.c)), .c (.sl (xs.map DRow.c))] [.val (.c (.v (.bool true)))] := by
  refine Ctr.mk (fn := Tryz.f25) Tryz.call25 Tryz.func25 rfl mixed Tryz.ntmps25 Tryz.results25 (by kernel_rfl) rfl fun hw => ?_
  have hlen : xs.length ≤ 9223372036854775807 := by have := hw.1.1; simpa [Go.maxLen] using this
  simp only [go_sem, Nat.reduceAdd, Nat.reduceSub, Nat.reduceMul, Nat.reduceLT, Nat.reduceLeDiff, Nat.reduceEqDiff, Nat.succ_ne_zero, reduceIte, List.length_map, bne_self_eq_false, beq_self_eq_true]
  refine LoopK.mk 0 [0, 1, 5] (A := Nat) (fun k => ⟨27, [(0, .c (.sl (xs.map DRow.c))), (1, .c (.sl (xs.map DRow.c))), (5, .c (.v (.int .i64 k)))], []⟩) (fun k => k ≤ xs.length) (fun k => xs.length - k) 0 ⟨⟨rfl, rfl⟩, rfl, Nat.zero_le _⟩ ?_
  intro k hk
  simp only [go_sem, Nat.reduceAdd, Nat.reduceSub, Nat.reduceMul, Nat.reduceLT, Nat.reduceLeDiff, Nat.reduceEqDiff, Nat.succ_ne_zero, reduceIte, List.length_map]
  refine cndC.mk (fun h => ?_) (fun h => ?_)
  · have hk' : k < xs.length := by simpa using h
    simp only [go_sem, Nat.reduceAdd, Nat.reduceSub, Nat.reduceMul, Nat.reduceLT, Nat.reduceLeDiff, Nat.reduceEqDiff, Nat.succ_ne_zero, reduceIte]
    refine DrawK.mk ?_
    simp only [go_sem, Nat.reduceAdd, Nat.reduceSub, Nat.reduceMul, Nat.reduceLT, Nat.reduceLeDiff, Nat.reduceEqDiff, Nat.succ_ne_zero, reduceIte, List.length_map, bne_self_eq_false, beq_self_eq_true, map_at _ hk', hk', wrap_i64 (n := (k : Int) + 1) (by omega) (by omega)]
    refine CallF.mk _ (by simpa only [go_sem] using hx xs[k] (List.getElem_mem hk')) ?_
    simp only [go_sem, Nat.reduceAdd, Nat.reduceSub, Nat.reduceMul, Nat.reduceLT, Nat.reduceLeDiff, Nat.reduceEqDiff, Nat.succ_ne_zero, reduceIte, map_at _ hk', wrap_i64 (n := (k : Int) + 1) (by omega) (by omega)]
    exact ⟨k + 1, ⟨rfl, rfl⟩, rfl, by omega, by first | omega | (simp only; omega)⟩
  · simp only [go_sem, Nat.reduceAdd, Nat.reduceSub, Nat.reduceMul, Nat.reduceLT, Nat.reduceLeDiff, Nat.reduceEqDiff, Nat.succ_ne_zero, reduceIte]
theorem eqRowS_spec (xs : List DRow) : Ctr Tryz.prog 25 [.c (.sl (xs.map DRow.c)), .c (.sl (xs.map DRow.c))] [.val (.c (.v (.bool true)))] := eqRowS_of xs fun x _ => eqRow_spec x
theorem eqPredS_of (xs : List DPred) (hx : ∀ x ∈ xs, Ctr Tryz.prog 137 [.agg x.c, .agg x.c] [.val (.c (.v (.bool true)))]) : Ctr Tryz.prog 178 [.c (.sl (xs.map DPred.c)), .c (.sl (xs.map DPred.c))] [.val (.c (.v (.bool true)))] := by
  refine Ctr.mk (fn := Tryz.f178) Tryz.call178 Tryz.func178 rfl mixed Tryz.ntmps178 Tryz.results178 (by kernel_rfl) rfl fun hw => ?_
  have hlen : xs.length ≤ 9223372036854775807 := by have := hw.1.1; simpa [Go.maxLen] using this
  simp only [go_sem, Nat.reduceAdd, Nat.reduceSub, Nat.reduceMul, Nat.reduceLT, Nat.reduceLeDiff, Nat.reduceEqDiff, Nat.succ_ne_zero, reduceIte, List.length_map, bne_self_eq_false, beq_self_eq_true]
  refine LoopK.mk 0 [0, 1, 5] (A := Nat) (fun k => ⟨27, [(0, .c (.sl (xs.map DPred.c))), (1, .c (.sl (xs.map DPred.c))), (5, .c (.v (.int .i64 k)))], []⟩) (fun k => k ≤ xs.length) (fun k => xs.length - k) 0 ⟨⟨rfl, rfl⟩, rfl, Nat.zero_le _⟩ ?_
  intro k hk
  simp only [go_sem, Nat.reduceAdd, Nat.reduceSub, Nat.reduceMul, Nat.reduceLT, Nat.reduceLeDiff, Nat.reduceEqDiff, Nat.succ_ne_zero, reduceIte, List.length_map]
  refine cndC.mk (fun h => ?_) (fun h => ?_)
  · have hk' : k < xs.length := by simpa using h
    simp only [go_sem, Nat.reduceAdd, Nat.reduceSub, Nat.reduceMul, Nat.reduceLT, Nat.reduceLeDiff, Nat.reduceEqDiff, Nat.succ_ne_zero, reduceIte]
    refine DrawK.mk ?_
    simp only [go_sem, Nat.reduceAdd, Nat.reduceSub, Nat.reduceMul, Nat.reduceLT, Nat.reduceLeDiff, Nat.reduceEqDiff, Nat.succ_ne_zero, reduceIte, List.length_map, bne_self_eq_false, beq_self_eq_true, map_at _ hk', hk', wrap_i64 (n := (k : Int) + 1) (by omega) (by omega)]
    refine CallF.mk _ (by simpa only [go_sem] using hx xs[k] (List.getElem_mem hk')) ?_
    simp only [go_sem, Nat.reduceAdd, Nat.reduceSub, Nat.reduceMul, Nat.reduceLT, Nat.reduceLeDiff, Nat.reduceEqDiff, Nat.succ_ne_zero, reduceIte, map_at _ hk', wrap_i64 (n := (k : Int) + 1) (by omega) (by omega)]
    exact ⟨k + 1, ⟨rfl, rfl⟩, rfl, by omega, by first | omega | (simp only; omega)⟩
  · simp only [go_sem, Nat.reduceAdd, Nat.reduceSub, Nat.reduceMul, Nat.reduceLT, Nat.reduceLeDiff, Nat.reduceEqDiff, Nat.succ_ne_zero, reduceIte]
theorem eqPred_of (d : DPred) (hx : ∀ x ∈ d.l, Ctr Tryz.prog 137 [.agg x.c, .agg x.c] [.val (.c (.v (.bool true)))]) : Ctr Tryz.prog 137 [.agg d.c, .agg d.c] [.val (.c (.v (.bool true)))] := by
  refine Ctr.mk (fn := Tryz.f137) Tryz.call137 Tryz.func137 rfl mixed Tryz.ntmps137 Tryz.results137 (by kernel_rfl) rfl fun _ => ?_
  simp only [go_sem, Nat.reduceAdd, Nat.reduceSub, Nat.reduceMul, Nat.reduceLT, Nat.reduceLeDiff, Nat.reduceEqDiff, Nat.succ_ne_zero, reduceIte, bne_self_eq_false, beq_self_eq_true]
  refine CallK.mk _ (by simpa only [go_sem] using eqVal_spec d.v) fun _ => ?_
  simp only [go_sem, Nat.reduceAdd, Nat.reduceSub, Nat.reduceMul, Nat.reduceLT, Nat.reduceLeDiff, Nat.reduceEqDiff, Nat.succ_ne_zero, reduceIte, bne_self_eq_false, beq_self_eq_true]
  refine CallK.mk _ (by simpa only [go_sem] using eqPredS_of d.l hx) fun _ => ?_
  simp only [go_sem, Nat.reduceAdd, Nat.reduceSub, Nat.reduceMul, Nat.reduceLT, Nat.reduceLeDiff, Nat.reduceEqDiff, Nat.succ_ne_zero, reduceIte, bne_self_eq_false, beq_self_eq_true]
theorem eqPred_fuel : ∀ (n : Nat) (d : DPred), SizeOf.sizeOf d ≤ n → Ctr Tryz.prog 137 [.agg d.c, .agg d.c] [.val (.c (.v (.bool true)))]
  | 0, d, h => by cases d; simp at h
  | n + 1, d, h => eqPred_of d fun x hx => eqPred_fuel n x (by
    have h1 : SizeOf.sizeOf x < SizeOf.sizeOf d.l := List.sizeOf_lt_of_mem hx
    have h2 : SizeOf.sizeOf d.l < SizeOf.sizeOf d := by cases d; simp [DPred.l]; omega
    omega)
theorem eqPred_spec (d : DPred) : Ctr Tryz.prog 137 [.agg d.c, .agg d.c] [.val (.c (.v (.bool true)))] := eqPred_fuel _ d (Nat.le_refl _)
theorem eqPredS_spec (xs : List DPred) : Ctr Tryz.prog 178 [.c (.sl (xs.map DPred.c)), .c (.sl (xs.map DPred.c))] [.val (.c (.v (.bool true)))] := eqPredS_of xs fun x _ => eqPred_spec x
theorem eqQuery_spec (d : DQuery) : Ctr Tryz.prog 66 [.agg d.c, .agg d.c] [.val (.c (.v (.bool true)))] := by
  refine Ctr.mk (fn := Tryz.f66) Tryz.call66 Tryz.func66 rfl mixed Tryz.ntmps66 Tryz.results66 (by kernel_rfl) rfl fun _ => ?_
  simp only [go_sem, Nat.reduceAdd, Nat.reduceSub, Nat.reduceMul, Nat.reduceLT, Nat.reduceLeDiff, Nat.reduceEqDiff, Nat.succ_ne_zero, reduceIte, bne_self_eq_false, beq_self_eq_true]
  refine CallK.mk _ (by simpa only [go_sem] using eqPred_spec d.p) fun _ => ?_
  simp only [go_sem, Nat.reduceAdd, Nat.reduceSub, Nat.reduceMul, Nat.reduceLT, Nat.reduceLeDiff, Nat.reduceEqDiff, Nat.succ_ne_zero, reduceIte, bne_self_eq_false, beq_self_eq_true]
  refine CallK.mk _ (by simpa only [go_sem] using eqIntS_spec d.out) fun _ => ?_
  simp only [go_sem, Nat.reduceAdd, Nat.reduceSub, Nat.reduceMul, Nat.reduceLT, Nat.reduceLeDiff, Nat.reduceEqDiff, Nat.succ_ne_zero, reduceIte, bne_self_eq_false, beq_self_eq_true]
theorem eqResult_spec (d : DResult) : Ctr Tryz.prog 67 [.agg d.c, .agg d.c] [.val (.c (.v (.bool true)))] := by
  refine Ctr.mk (fn := Tryz.f67) Tryz.call67 Tryz.func67 rfl mixed Tryz.ntmps67 Tryz.results67 (by kernel_rfl) rfl fun _ => ?_
  simp only [go_sem, Nat.reduceAdd, Nat.reduceSub, Nat.reduceMul, Nat.reduceLT, Nat.reduceLeDiff, Nat.reduceEqDiff, Nat.succ_ne_zero, reduceIte, bne_self_eq_false, beq_self_eq_true]
  refine CallK.mk _ (by simpa only [go_sem] using eqRowS_spec d.rows) fun _ => ?_
  simp only [go_sem, Nat.reduceAdd, Nat.reduceSub, Nat.reduceMul, Nat.reduceLT, Nat.reduceLeDiff, Nat.reduceEqDiff, Nat.succ_ne_zero, reduceIte, bne_self_eq_false, beq_self_eq_true]
  refine CallK.mk _ (by simpa only [go_sem] using eqVal_spec d.v) fun _ => ?_
  simp only [go_sem, Nat.reduceAdd, Nat.reduceSub, Nat.reduceMul, Nat.reduceLT, Nat.reduceLeDiff, Nat.reduceEqDiff, Nat.succ_ne_zero, reduceIte, bne_self_eq_false, beq_self_eq_true]
theorem eqSlot_spec (d : DSlot) : Ctr Tryz.prog 215 [.agg d.c, .agg d.c] [.val (.c (.v (.bool true)))] := by
  refine Ctr.mk (fn := Tryz.f215) Tryz.call215 Tryz.func215 rfl mixed Tryz.ntmps215 Tryz.results215 (by kernel_rfl) rfl fun _ => ?_
  simp only [go_sem, Nat.reduceAdd, Nat.reduceSub, Nat.reduceMul, Nat.reduceLT, Nat.reduceLeDiff, Nat.reduceEqDiff, Nat.succ_ne_zero, reduceIte, bne_self_eq_false, beq_self_eq_true]
  refine CallK.mk _ (by simpa only [go_sem] using eqValS_spec d.l) fun _ => ?_
  simp only [go_sem, Nat.reduceAdd, Nat.reduceSub, Nat.reduceMul, Nat.reduceLT, Nat.reduceLeDiff, Nat.reduceEqDiff, Nat.succ_ne_zero, reduceIte, bne_self_eq_false, beq_self_eq_true]
theorem eqSlotS_of (xs : List DSlot) (hx : ∀ x ∈ xs, Ctr Tryz.prog 215 [.agg x.c, .agg x.c] [.val (.c (.v (.bool true)))]) : Ctr Tryz.prog 202 [.c (.sl (xs.map DSlot.c)), .c (.sl (xs.map DSlot.c))] [.val (.c (.v (.bool true)))] := by
  refine Ctr.mk (fn := Tryz.f202) Tryz.call202 Tryz.func202 rfl mixed Tryz.ntmps202 Tryz.results202 (by kernel_rfl) rfl fun hw => ?_
  have hlen : xs.length ≤ 9223372036854775807 := by have := hw.1.1; simpa [Go.maxLen] using this
  simp only [go_sem, Nat.reduceAdd, Nat.reduceSub, Nat.reduceMul, Nat.reduceLT, Nat.reduceLeDiff, Nat.reduceEqDiff, Nat.succ_ne_zero, reduceIte, List.length_map, bne_self_eq_false, beq_self_eq_true]
  refine LoopK.mk 0 [0, 1, 5] (A := Nat) (fun k => ⟨27, [(0, .c (.sl (xs.map DSlot.c))), (1, .c (.sl (xs.map DSlot.c))), (5, .c (.v (.int .i64 k)))], []⟩) (fun k => k ≤ xs.length) (fun k => xs.length - k) 0 ⟨⟨rfl, rfl⟩, rfl, Nat.zero_le _⟩ ?_
  intro k hk
  simp only [go_sem, Nat.reduceAdd, Nat.reduceSub, Nat.reduceMul, Nat.reduceLT, Nat.reduceLeDiff, Nat.reduceEqDiff, Nat.succ_ne_zero, reduceIte, List.length_map]
  refine cndC.mk (fun h => ?_) (fun h => ?_)
  · have hk' : k < xs.length := by simpa using h
    simp only [go_sem, Nat.reduceAdd, Nat.reduceSub, Nat.reduceMul, Nat.reduceLT, Nat.reduceLeDiff, Nat.reduceEqDiff, Nat.succ_ne_zero, reduceIte]
    refine DrawK.mk ?_
    simp only [go_sem, Nat.reduceAdd, Nat.reduceSub, Nat.reduceMul, Nat.reduceLT, Nat.reduceLeDiff, Nat.reduceEqDiff, Nat.succ_ne_zero, reduceIte, List.length_map, bne_self_eq_false, beq_self_eq_true, map_at _ hk', hk', wrap_i64 (n := (k : Int) + 1) (by omega) (by omega)]
    refine CallF.mk _ (by simpa only [go_sem] using hx xs[k] (List.getElem_mem hk')) ?_
    simp only [go_sem, Nat.reduceAdd, Nat.reduceSub, Nat.reduceMul, Nat.reduceLT, Nat.reduceLeDiff, Nat.reduceEqDiff, Nat.succ_ne_zero, reduceIte, map_at _ hk', wrap_i64 (n := (k : Int) + 1) (by omega) (by omega)]
    exact ⟨k + 1, ⟨rfl, rfl⟩, rfl, by omega, by first | omega | (simp only; omega)⟩
  · simp only [go_sem, Nat.reduceAdd, Nat.reduceSub, Nat.reduceMul, Nat.reduceLT, Nat.reduceLeDiff, Nat.reduceEqDiff, Nat.succ_ne_zero, reduceIte]
theorem eqSlotS_spec (xs : List DSlot) : Ctr Tryz.prog 202 [.c (.sl (xs.map DSlot.c)), .c (.sl (xs.map DSlot.c))] [.val (.c (.v (.bool true)))] := eqSlotS_of xs fun x _ => eqSlot_spec x
theorem eqChunk_spec (d : DChunk) : Ctr Tryz.prog 185 [.agg d.c, .agg d.c] [.val (.c (.v (.bool true)))] := by
  refine Ctr.mk (fn := Tryz.f185) Tryz.call185 Tryz.func185 rfl mixed Tryz.ntmps185 Tryz.results185 (by kernel_rfl) rfl fun _ => ?_
  simp only [go_sem, Nat.reduceAdd, Nat.reduceSub, Nat.reduceMul, Nat.reduceLT, Nat.reduceLeDiff, Nat.reduceEqDiff, Nat.succ_ne_zero, reduceIte, bne_self_eq_false, beq_self_eq_true]
  refine CallK.mk _ (by simpa only [go_sem] using eqSlotS_spec d.l) fun _ => ?_
  simp only [go_sem, Nat.reduceAdd, Nat.reduceSub, Nat.reduceMul, Nat.reduceLT, Nat.reduceLeDiff, Nat.reduceEqDiff, Nat.succ_ne_zero, reduceIte, bne_self_eq_false, beq_self_eq_true]
theorem eqBuf_spec (d : DBuf) : Ctr Tryz.prog 148 [.agg d.c, .agg d.c] [.val (.c (.v (.bool true)))] := by
  refine Ctr.mk (fn := Tryz.f148) Tryz.call148 Tryz.func148 rfl mixed Tryz.ntmps148 Tryz.results148 (by kernel_rfl) rfl fun _ => ?_
  simp only [go_sem, Nat.reduceAdd, Nat.reduceSub, Nat.reduceMul, Nat.reduceLT, Nat.reduceLeDiff, Nat.reduceEqDiff, Nat.succ_ne_zero, reduceIte, bne_self_eq_false, beq_self_eq_true]
  refine CallK.mk _ (by simpa only [go_sem] using eqChunk_spec d.c0) fun _ => ?_
  simp only [go_sem, Nat.reduceAdd, Nat.reduceSub, Nat.reduceMul, Nat.reduceLT, Nat.reduceLeDiff, Nat.reduceEqDiff, Nat.succ_ne_zero, reduceIte, bne_self_eq_false, beq_self_eq_true]
  refine CallK.mk _ (by simpa only [go_sem] using eqByteS_spec d.g) fun _ => ?_
  simp only [go_sem, Nat.reduceAdd, Nat.reduceSub, Nat.reduceMul, Nat.reduceLT, Nat.reduceLeDiff, Nat.reduceEqDiff, Nat.succ_ne_zero, reduceIte, bne_self_eq_false, beq_self_eq_true]
theorem eqBufS_of (xs : List DBuf) (hx : ∀ x ∈ xs, Ctr Tryz.prog 148 [.agg x.c, .agg x.c] [.val (.c (.v (.bool true)))]) : Ctr Tryz.prog 94 [.c (.sl (xs.map DBuf.c)), .c (.sl (xs.map DBuf.c))] [.val (.c (.v (.bool true)))] := by
  refine Ctr.mk (fn := Tryz.f94) Tryz.call94 Tryz.func94 rfl mixed Tryz.ntmps94 Tryz.results94 (by kernel_rfl) rfl fun hw => ?_
  have hlen : xs.length ≤ 9223372036854775807 := by have := hw.1.1; simpa [Go.maxLen] using this
  simp only [go_sem, Nat.reduceAdd, Nat.reduceSub, Nat.reduceMul, Nat.reduceLT, Nat.reduceLeDiff, Nat.reduceEqDiff, Nat.succ_ne_zero, reduceIte, List.length_map, bne_self_eq_false, beq_self_eq_true]
  refine LoopK.mk 0 [0, 1, 5] (A := Nat) (fun k => ⟨27, [(0, .c (.sl (xs.map DBuf.c))), (1, .c (.sl (xs.map DBuf.c))), (5, .c (.v (.int .i64 k)))], []⟩) (fun k => k ≤ xs.length) (fun k => xs.length - k) 0 ⟨⟨rfl, rfl⟩, rfl, Nat.zero_le _⟩ ?_
  intro k hk
  simp only [go_sem, Nat.reduceAdd, Nat.reduceSub, Nat.reduceMul, Nat.reduceLT, Nat.reduceLeDiff, Nat.reduceEqDiff, Nat.succ_ne_zero, reduceIte, List.length_map]
  refine cndC.mk (fun h => ?_) (fun h => ?_)
  · have hk' : k < xs.length := by simpa using h
    simp only [go_sem, Nat.reduceAdd, Nat.reduceSub, Nat.reduceMul, Nat.reduceLT, Nat.reduceLeDiff, Nat.reduceEqDiff, Nat.succ_ne_zero, reduceIte]
    refine DrawK.mk ?_
    simp only [go_sem, Nat.reduceAdd, Nat.reduceSub, Nat.reduceMul, Nat.reduceLT, Nat.reduceLeDiff, Nat.reduceEqDiff, Nat.succ_ne_zero, reduceIte, List.length_map, bne_self_eq_false, beq_self_eq_true, map_at _ hk', hk', wrap_i64 (n := (k : Int) + 1) (by omega) (by omega)]
    refine CallF.mk _ (by simpa only [go_sem] using hx xs[k] (List.getElem_mem hk')) ?_
    simp only [go_sem, Nat.reduceAdd, Nat.reduceSub, Nat.reduceMul, Nat.reduceLT, Nat.reduceLeDiff, Nat.reduceEqDiff, Nat.succ_ne_zero, reduceIte, map_at _ hk', wrap_i64 (n := (k : Int) + 1) (by omega) (by omega)]
    exact ⟨k + 1, ⟨rfl, rfl⟩, rfl, by omega, by first | omega | (simp only; omega)⟩
  · simp only [go_sem, Nat.reduceAdd, Nat.reduceSub, Nat.reduceMul, Nat.reduceLT, Nat.reduceLeDiff, Nat.reduceEqDiff, Nat.succ_ne_zero, reduceIte]
theorem eqBufS_spec (xs : List DBuf) : Ctr Tryz.prog 94 [.c (.sl (xs.map DBuf.c)), .c (.sl (xs.map DBuf.c))] [.val (.c (.v (.bool true)))] := eqBufS_of xs fun x _ => eqBuf_spec x
theorem eqDead_spec (d : DDead) : Ctr Tryz.prog 149 [.agg d.c, .agg d.c] [.val (.c (.v (.bool true)))] := by
  refine Ctr.mk (fn := Tryz.f149) Tryz.call149 Tryz.func149 rfl mixed Tryz.ntmps149 Tryz.results149 (by kernel_rfl) rfl fun _ => ?_
  simp only [go_sem, Nat.reduceAdd, Nat.reduceSub, Nat.reduceMul, Nat.reduceLT, Nat.reduceLeDiff, Nat.reduceEqDiff, Nat.succ_ne_zero, reduceIte, bne_self_eq_false, beq_self_eq_true]
theorem eqDeadS_of (xs : List DDead) (hx : ∀ x ∈ xs, Ctr Tryz.prog 149 [.agg x.c, .agg x.c] [.val (.c (.v (.bool true)))]) : Ctr Tryz.prog 95 [.c (.sl (xs.map DDead.c)), .c (.sl (xs.map DDead.c))] [.val (.c (.v (.bool true)))] := by
  refine Ctr.mk (fn := Tryz.f95) Tryz.call95 Tryz.func95 rfl mixed Tryz.ntmps95 Tryz.results95 (by kernel_rfl) rfl fun hw => ?_
  have hlen : xs.length ≤ 9223372036854775807 := by have := hw.1.1; simpa [Go.maxLen] using this
  simp only [go_sem, Nat.reduceAdd, Nat.reduceSub, Nat.reduceMul, Nat.reduceLT, Nat.reduceLeDiff, Nat.reduceEqDiff, Nat.succ_ne_zero, reduceIte, List.length_map, bne_self_eq_false, beq_self_eq_true]
  refine LoopK.mk 0 [0, 1, 5] (A := Nat) (fun k => ⟨27, [(0, .c (.sl (xs.map DDead.c))), (1, .c (.sl (xs.map DDead.c))), (5, .c (.v (.int .i64 k)))], []⟩) (fun k => k ≤ xs.length) (fun k => xs.length - k) 0 ⟨⟨rfl, rfl⟩, rfl, Nat.zero_le _⟩ ?_
  intro k hk
  simp only [go_sem, Nat.reduceAdd, Nat.reduceSub, Nat.reduceMul, Nat.reduceLT, Nat.reduceLeDiff, Nat.reduceEqDiff, Nat.succ_ne_zero, reduceIte, List.length_map]
  refine cndC.mk (fun h => ?_) (fun h => ?_)
  · have hk' : k < xs.length := by simpa using h
    simp only [go_sem, Nat.reduceAdd, Nat.reduceSub, Nat.reduceMul, Nat.reduceLT, Nat.reduceLeDiff, Nat.reduceEqDiff, Nat.succ_ne_zero, reduceIte]
    refine DrawK.mk ?_
    simp only [go_sem, Nat.reduceAdd, Nat.reduceSub, Nat.reduceMul, Nat.reduceLT, Nat.reduceLeDiff, Nat.reduceEqDiff, Nat.succ_ne_zero, reduceIte, List.length_map, bne_self_eq_false, beq_self_eq_true, map_at _ hk', hk', wrap_i64 (n := (k : Int) + 1) (by omega) (by omega)]
    refine CallF.mk _ (by simpa only [go_sem] using hx xs[k] (List.getElem_mem hk')) ?_
    simp only [go_sem, Nat.reduceAdd, Nat.reduceSub, Nat.reduceMul, Nat.reduceLT, Nat.reduceLeDiff, Nat.reduceEqDiff, Nat.succ_ne_zero, reduceIte, map_at _ hk', wrap_i64 (n := (k : Int) + 1) (by omega) (by omega)]
    exact ⟨k + 1, ⟨rfl, rfl⟩, rfl, by omega, by first | omega | (simp only; omega)⟩
  · simp only [go_sem, Nat.reduceAdd, Nat.reduceSub, Nat.reduceMul, Nat.reduceLT, Nat.reduceLeDiff, Nat.reduceEqDiff, Nat.succ_ne_zero, reduceIte]
theorem eqDeadS_spec (xs : List DDead) : Ctr Tryz.prog 95 [.c (.sl (xs.map DDead.c)), .c (.sl (xs.map DDead.c))] [.val (.c (.v (.bool true)))] := eqDeadS_of xs fun x _ => eqDead_spec x
theorem eqRef_spec (d : DRef) : Ctr Tryz.prog 184 [.agg d.c, .agg d.c] [.val (.c (.v (.bool true)))] := by
  refine Ctr.mk (fn := Tryz.f184) Tryz.call184 Tryz.func184 rfl mixed Tryz.ntmps184 Tryz.results184 (by kernel_rfl) rfl fun _ => ?_
  simp only [go_sem, Nat.reduceAdd, Nat.reduceSub, Nat.reduceMul, Nat.reduceLT, Nat.reduceLeDiff, Nat.reduceEqDiff, Nat.succ_ne_zero, reduceIte, bne_self_eq_false, beq_self_eq_true]
theorem eqRefS_of (xs : List DRef) (hx : ∀ x ∈ xs, Ctr Tryz.prog 184 [.agg x.c, .agg x.c] [.val (.c (.v (.bool true)))]) : Ctr Tryz.prog 147 [.c (.sl (xs.map DRef.c)), .c (.sl (xs.map DRef.c))] [.val (.c (.v (.bool true)))] := by
  refine Ctr.mk (fn := Tryz.f147) Tryz.call147 Tryz.func147 rfl mixed Tryz.ntmps147 Tryz.results147 (by kernel_rfl) rfl fun hw => ?_
  have hlen : xs.length ≤ 9223372036854775807 := by have := hw.1.1; simpa [Go.maxLen] using this
  simp only [go_sem, Nat.reduceAdd, Nat.reduceSub, Nat.reduceMul, Nat.reduceLT, Nat.reduceLeDiff, Nat.reduceEqDiff, Nat.succ_ne_zero, reduceIte, List.length_map, bne_self_eq_false, beq_self_eq_true]
  refine LoopK.mk 0 [0, 1, 5] (A := Nat) (fun k => ⟨27, [(0, .c (.sl (xs.map DRef.c))), (1, .c (.sl (xs.map DRef.c))), (5, .c (.v (.int .i64 k)))], []⟩) (fun k => k ≤ xs.length) (fun k => xs.length - k) 0 ⟨⟨rfl, rfl⟩, rfl, Nat.zero_le _⟩ ?_
  intro k hk
  simp only [go_sem, Nat.reduceAdd, Nat.reduceSub, Nat.reduceMul, Nat.reduceLT, Nat.reduceLeDiff, Nat.reduceEqDiff, Nat.succ_ne_zero, reduceIte, List.length_map]
  refine cndC.mk (fun h => ?_) (fun h => ?_)
  · have hk' : k < xs.length := by simpa using h
    simp only [go_sem, Nat.reduceAdd, Nat.reduceSub, Nat.reduceMul, Nat.reduceLT, Nat.reduceLeDiff, Nat.reduceEqDiff, Nat.succ_ne_zero, reduceIte]
    refine DrawK.mk ?_
    simp only [go_sem, Nat.reduceAdd, Nat.reduceSub, Nat.reduceMul, Nat.reduceLT, Nat.reduceLeDiff, Nat.reduceEqDiff, Nat.succ_ne_zero, reduceIte, List.length_map, bne_self_eq_false, beq_self_eq_true, map_at _ hk', hk', wrap_i64 (n := (k : Int) + 1) (by omega) (by omega)]
    refine CallF.mk _ (by simpa only [go_sem] using hx xs[k] (List.getElem_mem hk')) ?_
    simp only [go_sem, Nat.reduceAdd, Nat.reduceSub, Nat.reduceMul, Nat.reduceLT, Nat.reduceLeDiff, Nat.reduceEqDiff, Nat.succ_ne_zero, reduceIte, map_at _ hk', wrap_i64 (n := (k : Int) + 1) (by omega) (by omega)]
    exact ⟨k + 1, ⟨rfl, rfl⟩, rfl, by omega, by first | omega | (simp only; omega)⟩
  · simp only [go_sem, Nat.reduceAdd, Nat.reduceSub, Nat.reduceMul, Nat.reduceLT, Nat.reduceLeDiff, Nat.reduceEqDiff, Nat.succ_ne_zero, reduceIte]
theorem eqRefS_spec (xs : List DRef) : Ctr Tryz.prog 147 [.c (.sl (xs.map DRef.c)), .c (.sl (xs.map DRef.c))] [.val (.c (.v (.bool true)))] := eqRefS_of xs fun x _ => eqRef_spec x
theorem eqDir_spec (d : DDir) : Ctr Tryz.prog 93 [.agg d.c, .agg d.c] [.val (.c (.v (.bool true)))] := by
  refine Ctr.mk (fn := Tryz.f93) Tryz.call93 Tryz.func93 rfl mixed Tryz.ntmps93 Tryz.results93 (by kernel_rfl) rfl fun _ => ?_
  simp only [go_sem, Nat.reduceAdd, Nat.reduceSub, Nat.reduceMul, Nat.reduceLT, Nat.reduceLeDiff, Nat.reduceEqDiff, Nat.succ_ne_zero, reduceIte, bne_self_eq_false, beq_self_eq_true]
  refine CallK.mk _ (by simpa only [go_sem] using eqRefS_spec d.l) fun _ => ?_
  simp only [go_sem, Nat.reduceAdd, Nat.reduceSub, Nat.reduceMul, Nat.reduceLT, Nat.reduceLeDiff, Nat.reduceEqDiff, Nat.succ_ne_zero, reduceIte, bne_self_eq_false, beq_self_eq_true]
theorem eqTask_spec (d : DTask) : Ctr Tryz.prog 150 [.agg d.c, .agg d.c] [.val (.c (.v (.bool true)))] := by
  refine Ctr.mk (fn := Tryz.f150) Tryz.call150 Tryz.func150 rfl mixed Tryz.ntmps150 Tryz.results150 (by kernel_rfl) rfl fun _ => ?_
  simp only [go_sem, Nat.reduceAdd, Nat.reduceSub, Nat.reduceMul, Nat.reduceLT, Nat.reduceLeDiff, Nat.reduceEqDiff, Nat.succ_ne_zero, reduceIte, bne_self_eq_false, beq_self_eq_true]
  refine CallK.mk _ (by simpa only [go_sem] using eqValS_spec d.r) fun _ => ?_
  simp only [go_sem, Nat.reduceAdd, Nat.reduceSub, Nat.reduceMul, Nat.reduceLT, Nat.reduceLeDiff, Nat.reduceEqDiff, Nat.succ_ne_zero, reduceIte, bne_self_eq_false, beq_self_eq_true]
  refine CallK.mk _ (by simpa only [go_sem] using eqQuery_spec d.q) fun _ => ?_
  simp only [go_sem, Nat.reduceAdd, Nat.reduceSub, Nat.reduceMul, Nat.reduceLT, Nat.reduceLeDiff, Nat.reduceEqDiff, Nat.succ_ne_zero, reduceIte, bne_self_eq_false, beq_self_eq_true]
  refine CallK.mk _ (by simpa only [go_sem] using eqRefS_spec d.l) fun _ => ?_
  simp only [go_sem, Nat.reduceAdd, Nat.reduceSub, Nat.reduceMul, Nat.reduceLT, Nat.reduceLeDiff, Nat.reduceEqDiff, Nat.succ_ne_zero, reduceIte, bne_self_eq_false, beq_self_eq_true]
  refine CallK.mk _ (by simpa only [go_sem] using eqRowS_spec d.got) fun _ => ?_
  simp only [go_sem, Nat.reduceAdd, Nat.reduceSub, Nat.reduceMul, Nat.reduceLT, Nat.reduceLeDiff, Nat.reduceEqDiff, Nat.succ_ne_zero, reduceIte, bne_self_eq_false, beq_self_eq_true]
theorem eqTaskS_of (xs : List DTask) (hx : ∀ x ∈ xs, Ctr Tryz.prog 150 [.agg x.c, .agg x.c] [.val (.c (.v (.bool true)))]) : Ctr Tryz.prog 96 [.c (.sl (xs.map DTask.c)), .c (.sl (xs.map DTask.c))] [.val (.c (.v (.bool true)))] := by
  refine Ctr.mk (fn := Tryz.f96) Tryz.call96 Tryz.func96 rfl mixed Tryz.ntmps96 Tryz.results96 (by kernel_rfl) rfl fun hw => ?_
  have hlen : xs.length ≤ 9223372036854775807 := by have := hw.1.1; simpa [Go.maxLen] using this
  simp only [go_sem, Nat.reduceAdd, Nat.reduceSub, Nat.reduceMul, Nat.reduceLT, Nat.reduceLeDiff, Nat.reduceEqDiff, Nat.succ_ne_zero, reduceIte, List.length_map, bne_self_eq_false, beq_self_eq_true]
  refine LoopK.mk 0 [0, 1, 5] (A := Nat) (fun k => ⟨27, [(0, .c (.sl (xs.map DTask.c))), (1, .c (.sl (xs.map DTask.c))), (5, .c (.v (.int .i64 k)))], []⟩) (fun k => k ≤ xs.length) (fun k => xs.length - k) 0 ⟨⟨rfl, rfl⟩, rfl, Nat.zero_le _⟩ ?_
  intro k hk
  simp only [go_sem, Nat.reduceAdd, Nat.reduceSub, Nat.reduceMul, Nat.reduceLT, Nat.reduceLeDiff, Nat.reduceEqDiff, Nat.succ_ne_zero, reduceIte, List.length_map]
  refine cndC.mk (fun h => ?_) (fun h => ?_)
  · have hk' : k < xs.length := by simpa using h
    simp only [go_sem, Nat.reduceAdd, Nat.reduceSub, Nat.reduceMul, Nat.reduceLT, Nat.reduceLeDiff, Nat.reduceEqDiff, Nat.succ_ne_zero, reduceIte]
    refine DrawK.mk ?_
    simp only [go_sem, Nat.reduceAdd, Nat.reduceSub, Nat.reduceMul, Nat.reduceLT, Nat.reduceLeDiff, Nat.reduceEqDiff, Nat.succ_ne_zero, reduceIte, List.length_map, bne_self_eq_false, beq_self_eq_true, map_at _ hk', hk', wrap_i64 (n := (k : Int) + 1) (by omega) (by omega)]
    refine CallF.mk _ (by simpa only [go_sem] using hx xs[k] (List.getElem_mem hk')) ?_
    simp only [go_sem, Nat.reduceAdd, Nat.reduceSub, Nat.reduceMul, Nat.reduceLT, Nat.reduceLeDiff, Nat.reduceEqDiff, Nat.succ_ne_zero, reduceIte, map_at _ hk', wrap_i64 (n := (k : Int) + 1) (by omega) (by omega)]
    exact ⟨k + 1, ⟨rfl, rfl⟩, rfl, by omega, by first | omega | (simp only; omega)⟩
  · simp only [go_sem, Nat.reduceAdd, Nat.reduceSub, Nat.reduceMul, Nat.reduceLT, Nat.reduceLeDiff, Nat.reduceEqDiff, Nat.succ_ne_zero, reduceIte]
theorem eqTaskS_spec (xs : List DTask) : Ctr Tryz.prog 96 [.c (.sl (xs.map DTask.c)), .c (.sl (xs.map DTask.c))] [.val (.c (.v (.bool true)))] := eqTaskS_of xs fun x _ => eqTask_spec x
theorem eqDeed_spec (d : DDeed) : Ctr Tryz.prog 15 [.agg d.c, .agg d.c] [.val (.c (.v (.bool true)))] := by
  refine Ctr.mk (fn := Tryz.f15) Tryz.call15 Tryz.func15 rfl mixed Tryz.ntmps15 Tryz.results15 (by kernel_rfl) rfl fun _ => ?_
  simp only [go_sem, Nat.reduceAdd, Nat.reduceSub, Nat.reduceMul, Nat.reduceLT, Nat.reduceLeDiff, Nat.reduceEqDiff, Nat.succ_ne_zero, reduceIte, bne_self_eq_false, beq_self_eq_true]
  refine CallK.mk _ (by simpa only [go_sem] using eqValS_spec d.r) fun _ => ?_
  simp only [go_sem, Nat.reduceAdd, Nat.reduceSub, Nat.reduceMul, Nat.reduceLT, Nat.reduceLeDiff, Nat.reduceEqDiff, Nat.succ_ne_zero, reduceIte, bne_self_eq_false, beq_self_eq_true]
  refine CallK.mk _ (by simpa only [go_sem] using eqQuery_spec d.q) fun _ => ?_
  simp only [go_sem, Nat.reduceAdd, Nat.reduceSub, Nat.reduceMul, Nat.reduceLT, Nat.reduceLeDiff, Nat.reduceEqDiff, Nat.succ_ne_zero, reduceIte, bne_self_eq_false, beq_self_eq_true]
  refine CallK.mk _ (by simpa only [go_sem] using eqResult_spec d.res) fun _ => ?_
  simp only [go_sem, Nat.reduceAdd, Nat.reduceSub, Nat.reduceMul, Nat.reduceLT, Nat.reduceLeDiff, Nat.reduceEqDiff, Nat.succ_ne_zero, reduceIte, bne_self_eq_false, beq_self_eq_true]
theorem eqDeedS_of (xs : List DDeed) (hx : ∀ x ∈ xs, Ctr Tryz.prog 15 [.agg x.c, .agg x.c] [.val (.c (.v (.bool true)))]) : Ctr Tryz.prog 34 [.c (.sl (xs.map DDeed.c)), .c (.sl (xs.map DDeed.c))] [.val (.c (.v (.bool true)))] := by
  refine Ctr.mk (fn := Tryz.f34) Tryz.call34 Tryz.func34 rfl mixed Tryz.ntmps34 Tryz.results34 (by kernel_rfl) rfl fun hw => ?_
  have hlen : xs.length ≤ 9223372036854775807 := by have := hw.1.1; simpa [Go.maxLen] using this
  simp only [go_sem, Nat.reduceAdd, Nat.reduceSub, Nat.reduceMul, Nat.reduceLT, Nat.reduceLeDiff, Nat.reduceEqDiff, Nat.succ_ne_zero, reduceIte, List.length_map, bne_self_eq_false, beq_self_eq_true]
  refine LoopK.mk 0 [0, 1, 5] (A := Nat) (fun k => ⟨27, [(0, .c (.sl (xs.map DDeed.c))), (1, .c (.sl (xs.map DDeed.c))), (5, .c (.v (.int .i64 k)))], []⟩) (fun k => k ≤ xs.length) (fun k => xs.length - k) 0 ⟨⟨rfl, rfl⟩, rfl, Nat.zero_le _⟩ ?_
  intro k hk
  simp only [go_sem, Nat.reduceAdd, Nat.reduceSub, Nat.reduceMul, Nat.reduceLT, Nat.reduceLeDiff, Nat.reduceEqDiff, Nat.succ_ne_zero, reduceIte, List.length_map]
  refine cndC.mk (fun h => ?_) (fun h => ?_)
  · have hk' : k < xs.length := by simpa using h
    simp only [go_sem, Nat.reduceAdd, Nat.reduceSub, Nat.reduceMul, Nat.reduceLT, Nat.reduceLeDiff, Nat.reduceEqDiff, Nat.succ_ne_zero, reduceIte]
    refine DrawK.mk ?_
    simp only [go_sem, Nat.reduceAdd, Nat.reduceSub, Nat.reduceMul, Nat.reduceLT, Nat.reduceLeDiff, Nat.reduceEqDiff, Nat.succ_ne_zero, reduceIte, List.length_map, bne_self_eq_false, beq_self_eq_true, map_at _ hk', hk', wrap_i64 (n := (k : Int) + 1) (by omega) (by omega)]
    refine CallF.mk _ (by simpa only [go_sem] using hx xs[k] (List.getElem_mem hk')) ?_
    simp only [go_sem, Nat.reduceAdd, Nat.reduceSub, Nat.reduceMul, Nat.reduceLT, Nat.reduceLeDiff, Nat.reduceEqDiff, Nat.succ_ne_zero, reduceIte, map_at _ hk', wrap_i64 (n := (k : Int) + 1) (by omega) (by omega)]
    exact ⟨k + 1, ⟨rfl, rfl⟩, rfl, by omega, by first | omega | (simp only; omega)⟩
  · simp only [go_sem, Nat.reduceAdd, Nat.reduceSub, Nat.reduceMul, Nat.reduceLT, Nat.reduceLeDiff, Nat.reduceEqDiff, Nat.succ_ne_zero, reduceIte]
theorem eqDeedS_spec (xs : List DDeed) : Ctr Tryz.prog 34 [.c (.sl (xs.map DDeed.c)), .c (.sl (xs.map DDeed.c))] [.val (.c (.v (.bool true)))] := eqDeedS_of xs fun x _ => eqDeed_spec x
theorem eqConf_spec (d : DConf) : Ctr Tryz.prog 92 [.agg d.c, .agg d.c] [.val (.c (.v (.bool true)))] := by
  refine Ctr.mk (fn := Tryz.f92) Tryz.call92 Tryz.func92 rfl mixed Tryz.ntmps92 Tryz.results92 (by kernel_rfl) rfl fun _ => ?_
  simp only [go_sem, Nat.reduceAdd, Nat.reduceSub, Nat.reduceMul, Nat.reduceLT, Nat.reduceLeDiff, Nat.reduceEqDiff, Nat.succ_ne_zero, reduceIte, bne_self_eq_false, beq_self_eq_true]
  refine CallK.mk _ (by simpa only [go_sem] using eqIntS_spec d.cols) fun _ => ?_
  simp only [go_sem, Nat.reduceAdd, Nat.reduceSub, Nat.reduceMul, Nat.reduceLT, Nat.reduceLeDiff, Nat.reduceEqDiff, Nat.succ_ne_zero, reduceIte, bne_self_eq_false, beq_self_eq_true]
theorem eqWorld_spec (d : DWorld) : Ctr Tryz.prog 26 [.agg d.c, .agg d.c] [.val (.c (.v (.bool true)))] := by
  refine Ctr.mk (fn := Tryz.f26) Tryz.call26 Tryz.func26 rfl mixed Tryz.ntmps26 Tryz.results26 (by kernel_rfl) rfl fun _ => ?_
  simp only [go_sem, Nat.reduceAdd, Nat.reduceSub, Nat.reduceMul, Nat.reduceLT, Nat.reduceLeDiff, Nat.reduceEqDiff, Nat.succ_ne_zero, reduceIte, bne_self_eq_false, beq_self_eq_true]
  refine CallK.mk _ (by simpa only [go_sem] using eqConf_spec d.c0) fun _ => ?_
  simp only [go_sem, Nat.reduceAdd, Nat.reduceSub, Nat.reduceMul, Nat.reduceLT, Nat.reduceLeDiff, Nat.reduceEqDiff, Nat.succ_ne_zero, reduceIte, bne_self_eq_false, beq_self_eq_true]
  refine CallK.mk _ (by simpa only [go_sem] using eqDir_spec d.d) fun _ => ?_
  simp only [go_sem, Nat.reduceAdd, Nat.reduceSub, Nat.reduceMul, Nat.reduceLT, Nat.reduceLeDiff, Nat.reduceEqDiff, Nat.succ_ne_zero, reduceIte, bne_self_eq_false, beq_self_eq_true]
  refine CallK.mk _ (by simpa only [go_sem] using eqBufS_spec d.b) fun _ => ?_
  simp only [go_sem, Nat.reduceAdd, Nat.reduceSub, Nat.reduceMul, Nat.reduceLT, Nat.reduceLeDiff, Nat.reduceEqDiff, Nat.succ_ne_zero, reduceIte, bne_self_eq_false, beq_self_eq_true]
  refine CallK.mk _ (by simpa only [go_sem] using eqIntS_spec d.m) fun _ => ?_
  simp only [go_sem, Nat.reduceAdd, Nat.reduceSub, Nat.reduceMul, Nat.reduceLT, Nat.reduceLeDiff, Nat.reduceEqDiff, Nat.succ_ne_zero, reduceIte, bne_self_eq_false, beq_self_eq_true]
  refine CallK.mk _ (by simpa only [go_sem] using eqDeadS_spec d.x) fun _ => ?_
  simp only [go_sem, Nat.reduceAdd, Nat.reduceSub, Nat.reduceMul, Nat.reduceLT, Nat.reduceLeDiff, Nat.reduceEqDiff, Nat.succ_ne_zero, reduceIte, bne_self_eq_false, beq_self_eq_true]
  refine CallK.mk _ (by simpa only [go_sem] using eqIntS_spec d.p) fun _ => ?_
  simp only [go_sem, Nat.reduceAdd, Nat.reduceSub, Nat.reduceMul, Nat.reduceLT, Nat.reduceLeDiff, Nat.reduceEqDiff, Nat.succ_ne_zero, reduceIte, bne_self_eq_false, beq_self_eq_true]
  refine CallK.mk _ (by simpa only [go_sem] using eqTaskS_spec d.tasks) fun _ => ?_
  simp only [go_sem, Nat.reduceAdd, Nat.reduceSub, Nat.reduceMul, Nat.reduceLT, Nat.reduceLeDiff, Nat.reduceEqDiff, Nat.succ_ne_zero, reduceIte, bne_self_eq_false, beq_self_eq_true]
  refine CallK.mk _ (by simpa only [go_sem] using eqDeedS_spec d.deeds) fun _ => ?_
  simp only [go_sem, Nat.reduceAdd, Nat.reduceSub, Nat.reduceMul, Nat.reduceLT, Nat.reduceLeDiff, Nat.reduceEqDiff, Nat.succ_ne_zero, reduceIte, bne_self_eq_false, beq_self_eq_true]
theorem eqTable_spec (d : DTable) : Ctr Tryz.prog 14 [.agg d.c, .agg d.c] [.val (.c (.v (.bool true)))] := by
  refine Ctr.mk (fn := Tryz.f14) Tryz.call14 Tryz.func14 rfl mixed Tryz.ntmps14 Tryz.results14 (by kernel_rfl) rfl fun _ => ?_
  simp only [go_sem, Nat.reduceAdd, Nat.reduceSub, Nat.reduceMul, Nat.reduceLT, Nat.reduceLeDiff, Nat.reduceEqDiff, Nat.succ_ne_zero, reduceIte, bne_self_eq_false, beq_self_eq_true]
  refine CallK.mk _ (by simpa only [go_sem] using eqIntS_spec d.cols) fun _ => ?_
  simp only [go_sem, Nat.reduceAdd, Nat.reduceSub, Nat.reduceMul, Nat.reduceLT, Nat.reduceLeDiff, Nat.reduceEqDiff, Nat.succ_ne_zero, reduceIte, bne_self_eq_false, beq_self_eq_true]
  refine CallK.mk _ (by simpa only [go_sem] using eqRowS_spec d.l) fun _ => ?_
  simp only [go_sem, Nat.reduceAdd, Nat.reduceSub, Nat.reduceMul, Nat.reduceLT, Nat.reduceLeDiff, Nat.reduceEqDiff, Nat.succ_ne_zero, reduceIte, bne_self_eq_false, beq_self_eq_true]

end Go.Proofs.YteiibjajcbiaoaaGreat
