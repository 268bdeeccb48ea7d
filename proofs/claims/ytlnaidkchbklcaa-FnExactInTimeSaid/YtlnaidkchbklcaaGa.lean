/- Walks and laws of this seat, over the value machine. -/
import Derived.Test.YtlnaidkchbklcaaFa
namespace Go.Proofs.Ytlnaidkchbklcaa
set_option linter.unusedSimpArgs false
set_option linter.unusedVariables false
open Go.Vm
set_option maxHeartbeats 1000000
set_option maxRecDepth 10000

def inR (x a b : Int) : Bool := decide (a ≤ x) && decide (x ≤ b)
theorem l1In_spec (x a b : Int) : Ctr Try.prog 32 [.c (.v (.int .i64 x)), .c (.v (.int .i64 a)), .c (.v (.int .i64 b))] [.val (.c (.v (.bool (inR x a b))))] := by
  refine Ctr.mk (fn := Try.f32) Try.call32 Try.func32 rfl mixed Try.ntmps32 Try.results32 (by kernel_rfl) rfl fun _ => ?_
  simp only [go_sem, List.getElem?_toArray, Nat.reduceAdd, Nat.reduceSub, Nat.reduceMul, Nat.reduceLT, Nat.reduceLeDiff, Nat.reduceEqDiff, Nat.succ_ne_zero, reduceIte]
  refine gO.mk (fun h => ?_) (fun h => ?_) <;> simp only [go_sem, List.getElem?_toArray, Nat.reduceAdd, Nat.reduceSub, Nat.reduceMul, Nat.reduceLT, Nat.reduceLeDiff, Nat.reduceEqDiff, Nat.succ_ne_zero, reduceIte, h] <;> simp at h <;> simp [inR] <;> omega
theorem within_spec (x a b : Int) : Ctr Try.prog 34 [.c (.v (.int .i64 x)), .c (.v (.int .i64 a)), .c (.v (.int .i64 b))] [.val (.c (.v (.bool (inR x a b))))] := by
  refine Ctr.mk (fn := Try.f34) Try.call34 Try.func34 rfl mixed Try.ntmps34 Try.results34 (by kernel_rfl) rfl fun _ => ?_
  simp only [go_sem, List.getElem?_toArray, Nat.reduceAdd, Nat.reduceSub, Nat.reduceMul, Nat.reduceLT, Nat.reduceLeDiff, Nat.reduceEqDiff, Nat.succ_ne_zero, reduceIte]
  refine gO.mk (fun h => ?_) (fun h => ?_) <;> simp only [go_sem, List.getElem?_toArray, Nat.reduceAdd, Nat.reduceSub, Nat.reduceMul, Nat.reduceLT, Nat.reduceLeDiff, Nat.reduceEqDiff, Nat.succ_ne_zero, reduceIte, h] <;> simp at h <;> simp [inR] <;> omega
def isNumB (n : Int) : Bool := inR n (-1000000000) 1000000000
theorem l1Right_spec (x : Int) : Ctr Try.prog 54 [.c (.v (.int .i64 x))] [.val (.c (.v (.bool (isNumB x))))] := by
  refine Ctr.mk (fn := Try.f54) Try.call54 Try.func54 rfl mixed Try.ntmps54 Try.results54 (by kernel_rfl) rfl fun _ => ?_
  simp only [go_sem, List.getElem?_toArray, Nat.reduceAdd, Nat.reduceSub, Nat.reduceMul, Nat.reduceLT, Nat.reduceLeDiff, Nat.reduceEqDiff, Nat.succ_ne_zero, reduceIte]
  refine CallK.mk _ (l1In_spec _ _ _) fun _ => ?_
  simp only [go_sem, List.getElem?_toArray, Nat.reduceAdd, Nat.reduceSub, Nat.reduceMul, Nat.reduceLT, Nat.reduceLeDiff, Nat.reduceEqDiff, Nat.succ_ne_zero, reduceIte, isNumB]
theorem isNum_spec (x : Int) : Ctr Try.prog 55 [.c (.v (.int .i64 x))] [.val (.c (.v (.bool (isNumB x))))] := by
  refine Ctr.mk (fn := Try.f55) Try.call55 Try.func55 rfl mixed Try.ntmps55 Try.results55 (by kernel_rfl) rfl fun _ => ?_
  simp only [go_sem, List.getElem?_toArray, Nat.reduceAdd, Nat.reduceSub, Nat.reduceMul, Nat.reduceLT, Nat.reduceLeDiff, Nat.reduceEqDiff, Nat.succ_ne_zero, reduceIte]
  refine CallK.mk _ (within_spec _ _ _) fun _ => ?_
  simp only [go_sem, List.getElem?_toArray, Nat.reduceAdd, Nat.reduceSub, Nat.reduceMul, Nat.reduceLT, Nat.reduceLeDiff, Nat.reduceEqDiff, Nat.succ_ne_zero, reduceIte, isNumB]
def chOk (c : UInt8) : Bool := inR c.toNat 97 122 || inR c.toNat 48 57
def txtOk (s : ByteArray) : Bool := decide (∀ i (h : i < s.size), chOk s[i] = true)
def valOk (d : DVal) : Bool := if d.ty = 1 then isNumB d.n && (d.s.toList == ({ data := #[] } : ByteArray).toList) else (d.ty == 2) && (d.n == 0) && decide (d.s.size ≤ 6) && txtOk d.s

theorem sValOk_spec (d : DVal) : Ctr Try.prog 46 [.agg d.c] [.val (.c (.v (.bool (valOk d))))] := by
  refine Ctr.mk (fn := Try.f46) Try.call46 Try.func46 rfl mixed Try.ntmps46 Try.results46 (by kernel_rfl) rfl fun hw => ?_
  have hs : d.s.size ≤ 9223372036854775807 := str_le hw.1.2.2.1
  simp only [go_sem, List.getElem?_toArray, Nat.reduceAdd, Nat.reduceSub, Nat.reduceMul, Nat.reduceLT, Nat.reduceLeDiff, Nat.reduceEqDiff, Nat.succ_ne_zero, reduceIte]
  refine cndC.mk (fun h => ?_) (fun h => ?_)
  · have h1 : d.ty = 1 := by simpa using h
    simp only [go_sem, List.getElem?_toArray, Nat.reduceAdd, Nat.reduceSub, Nat.reduceMul, Nat.reduceLT, Nat.reduceLeDiff, Nat.reduceEqDiff, Nat.succ_ne_zero, reduceIte]
    refine CallK.mk _ (l1Right_spec _) fun _ => ?_
    simp only [go_sem, List.getElem?_toArray, Nat.reduceAdd, Nat.reduceSub, Nat.reduceMul, Nat.reduceLT, Nat.reduceLeDiff, Nat.reduceEqDiff, Nat.succ_ne_zero, reduceIte]
    refine gO.mk (fun h => ?_) (fun h => ?_) <;> simp only [go_sem, List.getElem?_toArray, Nat.reduceAdd, Nat.reduceSub, Nat.reduceMul, Nat.reduceLT, Nat.reduceLeDiff, Nat.reduceEqDiff, Nat.succ_ne_zero, reduceIte, h] <;> simp_all [valOk]
  · have h1 : ¬ d.ty = 1 := by simpa using h
    simp only [go_sem, List.getElem?_toArray, Nat.reduceAdd, Nat.reduceSub, Nat.reduceMul, Nat.reduceLT, Nat.reduceLeDiff, Nat.reduceEqDiff, Nat.succ_ne_zero, reduceIte]
    refine LoopK.mk 1 [1, 3] (A := Nat) (fun k => ⟨56, [(1, .lp 0 0 0), (3, .c (.v (.int .i64 k)))], [⟨66, 3, [d.c], true, true⟩]⟩) (fun k => k ≤ d.s.size ∧ k ≤ 7 ∧ ∀ i (h : i < d.s.size), i < k → chOk d.s[i] = true) (fun k => d.s.size - k) 0 ⟨⟨rfl, rfl⟩, rfl, Nat.zero_le _, by omega, fun i _ hi => by omega⟩ ?_
    rintro k ⟨hk, hk7, hok⟩
    simp only [go_sem, List.getElem?_toArray, Nat.reduceAdd, Nat.reduceSub, Nat.reduceMul, Nat.reduceLT, Nat.reduceLeDiff, Nat.reduceEqDiff, Nat.succ_ne_zero, reduceIte]
    have hW (c : UInt8) : IntKind.i64.wrap (c.toNat : Int) = c.toNat := wrap_i64 (by omega) (by have := c.toNat_lt; omega)
    have hfin : k = d.s.size ∨ (¬ k ≤ 6) → ((d.ty == 2) && (d.n == 0) && decide ((d.s.size : Int) ≤ 6)) = valOk d := by
      intro hor
      simp only [valOk, if_neg h1]
      by_cases h6 : d.s.size ≤ 6
      · have ht : txtOk d.s = true := by
          simp only [txtOk, decide_eq_true_eq]
          intro i hi
          exact hok i hi (by omega)
        have h6' : (d.s.size : Int) ≤ 6 := by omega
        simp [ht, h6, h6']
      · have h6' : ¬ (d.s.size : Int) ≤ 6 := by omega
        simp [h6, h6']
    refine gO.mk (fun h => ?_) (fun h => ?_)
    · have hk' : k < d.s.size := by simpa using h
      have hb : d.s[k]? = some d.s[k] := getElem?_pos d.s k hk'
      simp only [go_sem, List.getElem?_toArray, Nat.reduceAdd, Nat.reduceSub, Nat.reduceMul, Nat.reduceLT, Nat.reduceLeDiff, Nat.reduceEqDiff, Nat.succ_ne_zero, reduceIte, h, hk']
      refine cndC.mk (fun h6 => ?_) (fun h6 => ?_)
      · have h6' : k ≤ 6 := by simp at h6; omega
        have hbad : chOk d.s[k] = false → false = valOk d := by
          intro hc
          have ht : txtOk d.s = false := by
            simp only [txtOk, decide_eq_false_iff_not]
            intro hall
            rw [hall k hk'] at hc
            cases hc
          simp [valOk, if_neg h1, ht]
        simp only [go_sem, List.getElem?_toArray, Nat.reduceAdd, Nat.reduceSub, Nat.reduceMul, Nat.reduceLT, Nat.reduceLeDiff, Nat.reduceEqDiff, Nat.succ_ne_zero, reduceIte, hb, hW]
        refine CallK.mk _ (l1In_spec _ _ _) fun _ => ?_
        simp only [go_sem, List.getElem?_toArray, Nat.reduceAdd, Nat.reduceSub, Nat.reduceMul, Nat.reduceLT, Nat.reduceLeDiff, Nat.reduceEqDiff, Nat.succ_ne_zero, reduceIte]
        refine gO.mk (fun ha => ?_) (fun ha => ?_)
        · simp only [go_sem, List.getElem?_toArray, Nat.reduceAdd, Nat.reduceSub, Nat.reduceMul, Nat.reduceLT, Nat.reduceLeDiff, Nat.reduceEqDiff, Nat.succ_ne_zero, reduceIte, hb, hW, ha]
          refine CallK.mk _ (l1In_spec _ _ _) fun _ => ?_
          simp only [go_sem, List.getElem?_toArray, Nat.reduceAdd, Nat.reduceSub, Nat.reduceMul, Nat.reduceLT, Nat.reduceLeDiff, Nat.reduceEqDiff, Nat.succ_ne_zero, reduceIte, hb, hW, ha]
          refine cndC.mk (fun hc => ?_) (fun hc => ?_)
          · simp only [go_sem, List.getElem?_toArray, Nat.reduceAdd, Nat.reduceSub, Nat.reduceMul, Nat.reduceLT, Nat.reduceLeDiff, Nat.reduceEqDiff, Nat.succ_ne_zero, reduceIte]
            rw [hbad (by simp [chOk]; exact ⟨by simpa using ha, by simpa using hc⟩)]
          · simp only [go_sem, List.getElem?_toArray, Nat.reduceAdd, Nat.reduceSub, Nat.reduceMul, Nat.reduceLT, Nat.reduceLeDiff, Nat.reduceEqDiff, Nat.succ_ne_zero, reduceIte, wrap_i64 (n := (k : Int) + 1) (by omega) (by omega)]
            refine ⟨k + 1, ⟨rfl, rfl⟩, rfl, ⟨by omega, by omega, fun i hi hik => ?_⟩, by omega⟩
            by_cases e : i = k
            · subst e; simp only [chOk]; simp at hc; simp [hc]
            · exact hok i hi (by omega)
        · simp only [go_sem, List.getElem?_toArray, Nat.reduceAdd, Nat.reduceSub, Nat.reduceMul, Nat.reduceLT, Nat.reduceLeDiff, Nat.reduceEqDiff, Nat.succ_ne_zero, reduceIte, hb, hW, ha, wrap_i64 (n := (k : Int) + 1) (by omega) (by omega)]
          refine ⟨k + 1, ⟨rfl, rfl⟩, rfl, ⟨by omega, by omega, fun i hi hik => ?_⟩, by omega⟩
          by_cases e : i = k
          · subst e; simp only [chOk]; simp at ha; simp [ha]
          · exact hok i hi (by omega)
      · have hfin' := hfin (.inr (by simp at h6; omega))
        simp only [go_sem, List.getElem?_toArray, Nat.reduceAdd, Nat.reduceSub, Nat.reduceMul, Nat.reduceLT, Nat.reduceLeDiff, Nat.reduceEqDiff, Nat.succ_ne_zero, reduceIte]
        refine gO.mk (fun e1 => ?_) (fun e1 => ?_)
        · simp only [go_sem, List.getElem?_toArray, Nat.reduceAdd, Nat.reduceSub, Nat.reduceMul, Nat.reduceLT, Nat.reduceLeDiff, Nat.reduceEqDiff, Nat.succ_ne_zero, reduceIte, e1]
          refine gO.mk (fun e2 => ?_) (fun e2 => ?_) <;> simp only [go_sem, List.getElem?_toArray, Nat.reduceAdd, Nat.reduceSub, Nat.reduceMul, Nat.reduceLT, Nat.reduceLeDiff, Nat.reduceEqDiff, Nat.succ_ne_zero, reduceIte, e1, e2] <;> rw [← hfin', e1, e2] <;> simp
        · simp only [go_sem, List.getElem?_toArray, Nat.reduceAdd, Nat.reduceSub, Nat.reduceMul, Nat.reduceLT, Nat.reduceLeDiff, Nat.reduceEqDiff, Nat.succ_ne_zero, reduceIte, e1]
          rw [← hfin', e1]; rfl
    · have hk' : k = d.s.size := by simp at h; omega
      have hfin' := hfin (.inl hk')
      simp only [go_sem, List.getElem?_toArray, Nat.reduceAdd, Nat.reduceSub, Nat.reduceMul, Nat.reduceLT, Nat.reduceLeDiff, Nat.reduceEqDiff, Nat.succ_ne_zero, reduceIte, h]
      refine gO.mk (fun e1 => ?_) (fun e1 => ?_)
      · simp only [go_sem, List.getElem?_toArray, Nat.reduceAdd, Nat.reduceSub, Nat.reduceMul, Nat.reduceLT, Nat.reduceLeDiff, Nat.reduceEqDiff, Nat.succ_ne_zero, reduceIte, e1]
        refine gO.mk (fun e2 => ?_) (fun e2 => ?_) <;> simp only [go_sem, List.getElem?_toArray, Nat.reduceAdd, Nat.reduceSub, Nat.reduceMul, Nat.reduceLT, Nat.reduceLeDiff, Nat.reduceEqDiff, Nat.succ_ne_zero, reduceIte, e1, e2] <;> rw [← hfin', e1, e2] <;> simp
      · simp only [go_sem, List.getElem?_toArray, Nat.reduceAdd, Nat.reduceSub, Nat.reduceMul, Nat.reduceLT, Nat.reduceLeDiff, Nat.reduceEqDiff, Nat.succ_ne_zero, reduceIte, e1]
        rw [← hfin', e1]; rfl
theorem valOk_ch (d : DVal) {k : Nat} (hk : k < d.s.size) (hc : chOk d.s[k] = false) (h1 : ¬ d.ty = 1) : false = valOk d := by
  have ht : txtOk d.s = false := by
    simp only [txtOk, decide_eq_false_iff_not]
    intro hall
    rw [hall k hk] at hc
    cases hc
  simp [valOk, if_neg h1, ht]
theorem iValOk_spec (d : DVal) : Ctr Try.prog 47 [.agg d.c] [.val (.c (.v (.bool (valOk d))))] := by
  refine Ctr.mk (fn := Try.f47) Try.call47 Try.func47 rfl mixed Try.ntmps47 Try.results47 (by kernel_rfl) rfl fun hw => ?_
  have hs : d.s.size ≤ 9223372036854775807 := str_le hw.1.2.2.1
  simp only [go_sem, List.getElem?_toArray, Nat.reduceAdd, Nat.reduceSub, Nat.reduceMul, Nat.reduceLT, Nat.reduceLeDiff, Nat.reduceEqDiff, Nat.succ_ne_zero, reduceIte]
  refine cndC.mk (fun h => ?_) (fun h => ?_)
  · have h1 : d.ty = 1 := by simpa using h
    simp only [go_sem, List.getElem?_toArray, Nat.reduceAdd, Nat.reduceSub, Nat.reduceMul, Nat.reduceLT, Nat.reduceLeDiff, Nat.reduceEqDiff, Nat.succ_ne_zero, reduceIte]
    refine CallK.mk _ (isNum_spec _) fun _ => ?_
    simp only [go_sem, List.getElem?_toArray, Nat.reduceAdd, Nat.reduceSub, Nat.reduceMul, Nat.reduceLT, Nat.reduceLeDiff, Nat.reduceEqDiff, Nat.succ_ne_zero, reduceIte]
    refine gO.mk (fun h => ?_) (fun h => ?_) <;> simp only [go_sem, List.getElem?_toArray, Nat.reduceAdd, Nat.reduceSub, Nat.reduceMul, Nat.reduceLT, Nat.reduceLeDiff, Nat.reduceEqDiff, Nat.succ_ne_zero, reduceIte, h] <;> simp_all [valOk]
  · have h1 : ¬ d.ty = 1 := by simpa using h
    simp only [go_sem, List.getElem?_toArray, Nat.reduceAdd, Nat.reduceSub, Nat.reduceMul, Nat.reduceLT, Nat.reduceLeDiff, Nat.reduceEqDiff, Nat.succ_ne_zero, reduceIte]
    refine cndC.mk (fun h2 => ?_) (fun h2 => ?_)
    · have h2' : d.ty = 2 := by simpa using h2
      simp only [go_sem, List.getElem?_toArray, Nat.reduceAdd, Nat.reduceSub, Nat.reduceMul, Nat.reduceLT, Nat.reduceLeDiff, Nat.reduceEqDiff, Nat.succ_ne_zero, reduceIte]
      refine LoopK.mk 1 [1, 3] (A := Nat) (fun k => ⟨66, [(1, .lp 0 0 0), (3, .c (.v (.int .i64 k)))], [⟨66, 3, [d.c], true, true⟩]⟩) (fun k => k ≤ d.s.size ∧ ∀ i (h : i < d.s.size), i < k → chOk d.s[i] = true) (fun k => d.s.size - k) 0 ⟨⟨rfl, rfl⟩, rfl, Nat.zero_le _, fun i _ hi => by omega⟩ ?_
      rintro k ⟨hk, hok⟩
      simp only [go_sem, List.getElem?_toArray, Nat.reduceAdd, Nat.reduceSub, Nat.reduceMul, Nat.reduceLT, Nat.reduceLeDiff, Nat.reduceEqDiff, Nat.succ_ne_zero, reduceIte]
      refine cndC.mk (fun h => ?_) (fun h => ?_)
      · have hk' : k < d.s.size := by simpa using h
        have hb : d.s[k]? = some d.s[k] := getElem?_pos d.s k hk'
        have hgood : chOk d.s[k] = true → ∀ i (h : i < d.s.size), i < k + 1 → chOk d.s[i] = true := by
          intro hg i hi hik
          by_cases e : i = k
          · subst e; exact hg
          · exact hok i hi (by omega)
        rcases hA : decide ((d.s[k].toNat : Int) ≥ 97) with _ | _ <;> rcases hB : decide ((d.s[k].toNat : Int) ≤ 122) with _ | _ <;> rcases hC : decide ((d.s[k].toNat : Int) ≥ 48) with _ | _ <;> rcases hD : decide ((d.s[k].toNat : Int) ≤ 57) with _ | _ <;>
          simp only [go_sem, List.getElem?_toArray, Nat.reduceAdd, Nat.reduceSub, Nat.reduceMul, Nat.reduceLT, Nat.reduceLeDiff, Nat.reduceEqDiff, Nat.succ_ne_zero, reduceIte, hb, hA, hB, hC, hD, wrap_i64 (n := (k : Int) + 1) (by omega) (by omega)] <;> simp at hA hB hC hD <;> first
          | (rw [valOk_ch d hk' (by simp [chOk, inR]; omega) h1]; done)
          | exact ⟨k + 1, ⟨rfl, rfl⟩, rfl, ⟨by omega, hgood (by simp [chOk, inR]; omega)⟩, by omega⟩
      · have hk' : k = d.s.size := by simp at h; omega
        have ht : txtOk d.s = true := by
          simp only [txtOk, decide_eq_true_eq]
          intro i hi
          exact hok i hi (by omega)
        simp only [go_sem, List.getElem?_toArray, Nat.reduceAdd, Nat.reduceSub, Nat.reduceMul, Nat.reduceLT, Nat.reduceLeDiff, Nat.reduceEqDiff, Nat.succ_ne_zero, reduceIte]
        refine gO.mk (fun e1 => ?_) (fun e1 => ?_) <;> simp only [go_sem, List.getElem?_toArray, Nat.reduceAdd, Nat.reduceSub, Nat.reduceMul, Nat.reduceLT, Nat.reduceLeDiff, Nat.reduceEqDiff, Nat.succ_ne_zero, reduceIte, e1] <;> simp [valOk, if_neg h1, ht] <;> simp at e1 <;> simp [h2'] <;> omega
    · have h2' : ¬ d.ty = 2 := by simpa using h2
      simp only [go_sem, List.getElem?_toArray, Nat.reduceAdd, Nat.reduceSub, Nat.reduceMul, Nat.reduceLT, Nat.reduceLeDiff, Nat.reduceEqDiff, Nat.succ_ne_zero, reduceIte]
      simp [valOk, if_neg h1, h2']
end Go.Proofs.Ytlnaidkchbklcaa
