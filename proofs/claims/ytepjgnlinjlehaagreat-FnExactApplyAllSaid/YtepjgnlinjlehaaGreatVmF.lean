/- The value machine, part F: the reading operations are what the model does. -/
import Derived.Test.YtepjgnlinjlehaaGreatVmE
import Derived.Laws.BytesArg
namespace Go.Vm
set_option linter.unusedSimpArgs false
set_option linter.unusedVariables false
open Go.RowKit

theorem addr_add (b o j : Nat) : (⟨b, o, none⟩ : Addr).add j = ⟨b, o + j, none⟩ := by
  unfold Addr.add; split <;> simp_all

theorem exists_list {α β : Type} {R : α → β → Prop} : ∀ (xs : List α), (∀ (j : Nat) (c : α), xs[j]? = some c → ∃ u, R c u) → ∃ us : List β, us.length = xs.length ∧ ∀ (j : Nat) (c : α), xs[j]? = some c → ∃ u, us[j]? = some u ∧ R c u
  | [], _ => ⟨[], rfl, fun j c h => by simp at h⟩
  | x :: xs, h => by
    obtain ⟨us, h1, h2⟩ := exists_list xs fun j c hj => h (j + 1) c (by simpa using hj)
    obtain ⟨u, hu⟩ := h 0 x rfl
    refine ⟨u :: us, by simp [h1], fun j c hj => ?_⟩
    cases j with
    | zero => simp at hj; subst hj; exact ⟨u, rfl, hu⟩
    | succ j => simpa using h2 j c (by simpa using hj)

theorem exists_cells {R : Cl → Value → Prop} {w : World} {b : Nat} : ∀ (xs : List Cl) (o : Nat), (∀ (j : Nat) (c : Cl), xs[j]? = some c → ∃ u, w.cell? ⟨b, o + j, none⟩ = some u ∧ R c u) →
    ∃ us : List Value, us.length = xs.length ∧ ∀ (j : Nat) (c : Cl), xs[j]? = some c → ∃ u, us[j]? = some u ∧ w.cell? ⟨b, o + j, none⟩ = some u ∧ R c u
  | [], _, _ => ⟨[], rfl, fun j c h => by simp at h⟩
  | x :: xs, o, h => by
    obtain ⟨us, h1, h2⟩ := exists_cells xs (o + 1) fun j c hj => by
      have := h (j + 1) c (by simpa using hj)
      rwa [show o + (j + 1) = o + 1 + j by omega] at this
    obtain ⟨u, hu⟩ := h 0 x rfl
    refine ⟨u :: us, by simp [h1], fun j c hj => ?_⟩
    cases j with
    | zero => simp at hj; subst hj; exact ⟨u, rfl, hu⟩
    | succ j =>
      have := h2 j c (by simpa using hj)
      rwa [show o + 1 + j = o + (j + 1) by omega] at this

section
variable {P : Program} {w : World} {St : Nat → Nat → Prop} {st : List Ob} {β : Nat → Option Nat}

theorem cut_notOw {row : List Cl} {off n : Nat} {g : Bool} {x : AV} (h : ∀ (j : Nat) (c : Cl), row[j]? = some c → isOw c = false) (hx : cutRow row off n g = some x) : noOwA x = true := by
  unfold cutRow at hx
  cases g with
  | true =>
    simp only [if_true] at hx
    split at hx
    · simp only [Option.some.injEq] at hx
      subst hx
      simp only [noOwA, List.all_eq_true]
      intro c hc
      obtain ⟨j, hj⟩ := List.mem_iff_getElem?.1 (List.mem_of_mem_drop (List.mem_of_mem_take hc))
      simp [h j c hj]
    · cases hx
  | false =>
    simp only [Bool.false_eq_true, if_false] at hx
    split at hx
    · rename_i c hc
      simp only [Option.some.injEq] at hx
      subst hx
      simp [noOwA, h _ c hc]
    · cases hx
theorem load_at {row : List Cl} {b o off n : Nat} {g : Bool} {T : TypeId} {x : AV} (hcells : ∀ (j : Nat) (c : Cl), row[j]? = some c → ∃ u, w.cell? ⟨b, o + j, none⟩ = some u ∧ RdB w St st β c u)
    (hs : tySize P T = some n) (hg : tyAgg P T = some g) (hx : cutRow row off n g = some x) (hno : noOwA x = true) :
    ∃ v, (Instr.loadAt T (.pointer (some ⟨b, o + off, none⟩))).run P w = .ok v w ∧ AVR w St st β x v := by
  unfold cutRow at hx
  cases g with
  | true =>
    simp only [if_true] at hx
    split at hx
    · rename_i hle
      simp only [Option.some.injEq] at hx
      subst hx
      obtain ⟨us, h1, h2⟩ := exists_cells (R := RdC w St st β) (w := w) (b := b) ((row.drop off).take n) (o + off) (fun j c hj => by
        rw [List.getElem?_take] at hj
        split at hj
        · rw [List.getElem?_drop] at hj
          obtain ⟨u, hu, hr⟩ := hcells _ c hj
          rw [show o + (off + j) = o + off + j by omega] at hu
          refine ⟨u, hu, hr.toC ?_⟩
          simp only [noOwA, List.all_eq_true] at hno
          have hcm := hno c (List.mem_of_getElem? (i := j) (by rw [List.getElem?_take]; rename_i hlt; rw [if_pos hlt, List.getElem?_drop]; exact hj))
          simpa using hcm
        · cases hj)
      have hlen : us.length = n := by rw [h1]; simp; omega
      have hl : (loadCells ⟨b, o + off, none⟩ us.length).run P w = .ok us.toArray w :=
        run_loadCells_list (P := P) w ⟨b, o + off, none⟩ us (fun j v hv => by
          rw [addr_add]
          have hj : j < ((row.drop off).take n).length := by
            rw [← h1]
            rcases Nat.lt_or_ge j us.length with h' | h'
            · exact h'
            · simp [List.getElem?_eq_none h'] at hv
          obtain ⟨u, hu1, hu2, _⟩ := h2 j _ (List.getElem?_eq_getElem hj)
          rw [hv] at hu1
          simp only [Option.some.injEq] at hu1
          subst hu1
          exact hu2)
      refine ⟨.agg us.toArray, ?_, ?_⟩
      · rw [hlen] at hl
        simp [Instr.loadAt, Instr.sureAddr, loadVar, run_agg hg, run_size hs, hl]
      · simp only [AVR]
        refine ⟨us, rfl, h1, fun k c hk => ?_⟩
        obtain ⟨u, hu1, _, hu3⟩ := h2 k c hk
        exact ⟨u, hu1, hu3⟩
    · cases hx
  | false =>
    simp only [Bool.false_eq_true, if_false] at hx
    split at hx
    · rename_i c hc
      simp only [Option.some.injEq] at hx
      subst hx
      obtain ⟨u, hu1, hu2⟩ := hcells off c hc
      have hu3 := hu2.toC (by simpa [noOwA] using hno)
      refine ⟨u, ?_, by simpa only [AVR] using hu3⟩
      simp [Instr.loadAt, Instr.sureAddr, loadVar, run_agg hg, hu1]
    · cases hx

theorem part_at {row : List Cl} {us : List Value} {off n : Nat} {g : Bool} {T : TypeId} {x : AV} (hl : us.length = row.length) (hcells : ∀ (j : Nat) (c : Cl), row[j]? = some c → ∃ u, us[j]? = some u ∧ RdC w St st β c u)
    (hs : tySize P T = some n) (hg : tyAgg P T = some g) (hx : cutRow row off n g = some x) :
    ∃ v, (part T us.toArray off).run P w = .ok v w ∧ AVR w St st β x v := by
  unfold cutRow at hx
  cases g with
  | true =>
    simp only [if_true] at hx
    split at hx
    · rename_i hle
      simp only [Option.some.injEq] at hx
      subst hx
      refine ⟨.agg (us.toArray.extract off (off + n)), by simp [part, run_agg hg, run_size hs], ?_⟩
      simp only [AVR]
      refine ⟨(us.drop off).take n, ?_, by simp [hl], fun k c hk => ?_⟩
      · congr 1
        apply Array.ext'
        simp [List.extract_eq_take_drop]
      · rw [List.getElem?_take] at hk
        split at hk
        · rename_i hkn
          rw [List.getElem?_drop] at hk
          obtain ⟨u, hu1, hu2⟩ := hcells _ c hk
          exact ⟨u, by rw [List.getElem?_take, if_pos hkn, List.getElem?_drop]; exact hu1, hu2⟩
        · cases hk
    · cases hx
  | false =>
    simp only [Bool.false_eq_true, if_false] at hx
    split at hx
    · rename_i c hc
      simp only [Option.some.injEq] at hx
      subst hx
      obtain ⟨u, hu1, hu2⟩ := hcells off c hc
      refine ⟨u, ?_, by simpa only [AVR] using hu2⟩
      simp [part, run_agg hg, hu1]
    · cases hx

theorem AVRs_at : ∀ {xs : List AV} {us : List Value}, AVRs w St st β xs us → ∀ (j : Nat) (x : AV), xs[j]? = some x → ∃ u, us[j]? = some u ∧ AVR w St st β x u
  | [], _, _, j, x, h => by simp at h
  | x0 :: xs, us, h, j, x, hj => by
    simp only [AVRs] at h
    obtain ⟨y, ys, rfl, h1, h2⟩ := h
    cases j with
    | zero => simp at hj; subst hj; exact ⟨y, rfl, h1⟩
    | succ j => simpa using AVRs_at h2 j x (by simpa using hj)

theorem idxA_ok {x : AV} {u : Value} {k : Nat} (h : AVR w St st β x u) (hk : idxA x = some k) : ∃ kd, u = .int kd (k : Int) := by
  unfold idxA at hk
  split at hk
  · rename_i kd n
    split at hk
    · rename_i hn
      simp only [Option.some.injEq] at hk
      simp only [AVR, RdC, RdD] at h
      obtain ⟨rfl, _⟩ := h
      exact ⟨kd, by rw [← hk]; congr 1; omega⟩
    · cases hk
  · cases hk

theorem v_ok {v u : Value} (h : AVR w St st β (.c (.v v)) u) : u = v ∧ wfV v = true := by
  simp only [AVR, RdC, RdD] at h
  exact ⟨h.1, h.2⟩
theorem v_mk {v : Value} (h : wfV v = true) : AVR w St st β (.c (.v v)) v := by
  simp only [AVR, RdC, RdD]
  exact ⟨trivial, h⟩
end

theorem wf_byte (c : UInt8) : wfV (.int .u8 (c.toNat : Int)) = true := by
  have := c.toNat_lt
  simp [wfV, Lit.wf, IntKind.min, IntKind.max, IntKind.signed, IntKind.bits]; omega
theorem wf_len {n : Nat} (h : n ≤ maxLen) : wfV (.int .i64 (n : Int)) = true := by
  simp only [maxLen] at h
  simp [wfV, Lit.wf, IntKind.min, IntKind.max, IntKind.signed, IntKind.bits]; omega

/-- The rows behind a slice: what the value is. -/
theorem dataC_ok {w0 : Bs} {St0 St : Nat → Nat → Prop} {β : Nat → Option Nat} {s : MS} {a : Act} {w : World} (_ : Core w0 St0 St β s a w) {d : Cl} {u : Value} {xs : List (List Cl)} (hd : RdC w St s.st β d u) (hx : dataC s.st d = some xs) :
    ∃ ad cap, u = .slice ad xs.length cap ∧ xs.length ≤ cap ∧ cap ≤ maxLen := by
  unfold dataC at hx
  split at hx
  · simp only [Option.some.injEq] at hx
    subst hx
    simp only [RdC, RdD] at hd
    exact ⟨none, 0, hd.1, by simp, by simp [maxLen]⟩
  · cases hx
  · simp only [Option.some.injEq] at hx
    subst hx
    simp only [RdC, RdD] at hd
    obtain ⟨ad, cap, h1, h2, h3, _⟩ := hd
    exact ⟨ad, cap, h1, h2, h3⟩
  · rename_i l
    cases ho : obAt s.st l with
    | none => simp [ho] at hx
    | some ob =>
      simp only [ho, Option.map_some, Option.some.injEq] at hx
      subst hx
      obtain ⟨hl, hlive⟩ := obAt_some ho
      simp only [RdC, RefR, hl] at hd
      have h2 := hd.2 hlive
      split at h2
      · obtain ⟨rfl, hx⟩ := h2
        exact ⟨none, 0, by simp [hx], by simp [hx], by simp [maxLen]⟩
      · obtain ⟨cap, cs, h1, h3, h4, _⟩ := h2
        exact ⟨_, cap, h1, h3, h4⟩
  · cases hx

theorem lp_ok {w0 : Bs} {St0 St : Nat → Nat → Prop} {β : Nat → Option Nat} {s : MS} {a : Act} {w : World} (h : Core w0 St0 St β s a w) {l i off : Nat} {u : Value} {ob : Ob} (hu : AVR w St s.st β (.lp l i off) u) (ho : obAt s.st l = some ob) :
    ∃ b cs, β l = some b ∧ u = .pointer (some ⟨b, i * ob.sz + off, none⟩) ∧ w.heap[b]? = some (.cells cs ob.ty (0, 0)) ∧ (∀ x ∈ ob.xs, x.length = ob.sz) ∧
      (∀ (k : Nat) (c : Cl), ob.xs.flatten[k]? = some c → ∃ u, cs[k]? = some u ∧ RdB w St s.st β c u) := by
  obtain ⟨hl, hlive⟩ := obAt_some ho
  simp only [AVR, hl] at hu
  obtain ⟨b, hb, rfl⟩ := hu hlive
  obtain ⟨_, _, cs, g1, g2, g3⟩ := h.obs l ob b hl hlive hb
  exact ⟨b, cs, hb, rfl, g1, g2, g3⟩

theorem row_cells {w : World} {St : Nat → Nat → Prop} {st : List Ob} {β : Nat → Option Nat} {ob : Ob} {b : Nat} {cs : Array Value} (g1 : w.heap[b]? = some (.cells cs ob.ty (0, 0))) (g2 : ∀ x ∈ ob.xs, x.length = ob.sz)
    (g3 : ∀ (k : Nat) (c : Cl), ob.xs.flatten[k]? = some c → ∃ u, cs[k]? = some u ∧ RdB w St st β c u) {i : Nat} {row : List Cl} (hi : ob.xs[i]? = some row) :
    ∀ (j : Nat) (c : Cl), row[j]? = some c → ∃ u, w.cell? ⟨b, i * ob.sz + j, none⟩ = some u ∧ RdB w St st β c u := fun j c hj => by
  obtain ⟨u, hu, hc⟩ := g3 _ c (flatten_at g2 i j row c hi hj)
  exact ⟨u, by simp [World.cell?, g1, hu], hc⟩

theorem RdD.toC {w : World} {St : Nat → Nat → Prop} {st : List Ob} {β : Nat → Option Nat} {c : Cl} {u : Value} (h : RdD w St c u) : RdC w St st β c u := by
  cases c with
  | ref l => simp [RdD] at h
  | v x => exact h
  | sl xs => exact h
  | ow ty sz xs => simp [RdD] at h

/-- The memory behind a slice. -/
theorem data_cells {w0 : Bs} {St0 St : Nat → Nat → Prop} {β : Nat → Option Nat} {s : MS} {a : Act} {w : World} (h : Core w0 St0 St β s a w) {d : Cl} {u : Value} {xs : List (List Cl)} (hd : RdC w St s.st β d u) (hx : dataC s.st d = some xs) :
    ∃ ad cap, u = .slice ad xs.length cap ∧ (∃ sz, ∀ x ∈ xs, x.length = sz) ∧ (xs = [] ∨ ∃ b off, ad = some ⟨b, off, none⟩ ∧ ∀ (k : Nat) (c : Cl), xs.flatten[k]? = some c → ∃ v, w.cell? ⟨b, off + k, none⟩ = some v ∧ RdB w St s.st β c v) := by
  unfold dataC at hx
  split at hx
  · simp only [Option.some.injEq] at hx
    subst hx
    simp only [RdC, RdD] at hd
    exact ⟨none, 0, hd.1, ⟨0, by simp⟩, .inl rfl⟩
  · cases hx
  · simp only [Option.some.injEq] at hx
    subst hx
    simp only [RdC, RdD] at hd
    obtain ⟨ad, cap, h1, h2, h3, ⟨sz, h4⟩, h5⟩ := hd
    refine ⟨ad, cap, h1, ⟨sz, h4⟩, ?_⟩
    rcases h5 with rfl | ⟨b, off, rfl, h6⟩
    · exact .inl rfl
    · refine .inr ⟨b, off, rfl, ?_⟩
      have key : ∀ (xs : List (List Cl)) (off : Nat), RdE w St xs b off → ∀ (k : Nat) (c : Cl), xs.flatten[k]? = some c → ∃ v, w.cell? ⟨b, off + k, none⟩ = some v ∧ RdB w St s.st β c v := by
        intro xs
        induction xs with
        | nil => intro off _ k c hk; simp at hk
        | cons x xs ih =>
          intro off hr k c hk
          simp only [RdE] at hr
          simp only [List.flatten_cons] at hk
          rcases Nat.lt_or_ge k x.length with h' | h'
          · rw [List.getElem?_append_left h'] at hk
            obtain ⟨_, v, hv, hc⟩ := hr.1.at k c hk
            exact ⟨v, hv, hc.toC.toB⟩
          · rw [List.getElem?_append_right h'] at hk
            obtain ⟨v, hv, hc⟩ := ih (off + x.length) hr.2 (k - x.length) c hk
            exact ⟨v, by rwa [show off + x.length + (k - x.length) = off + k by omega] at hv, hc⟩
      exact key _ off h6
  · rename_i l
    cases ho : obAt s.st l with
    | none => simp [ho] at hx
    | some ob =>
      simp only [ho, Option.map_some, Option.some.injEq] at hx
      subst hx
      obtain ⟨hl, hlive⟩ := obAt_some ho
      simp only [RdC, RefR, hl] at hd
      have h2 := hd.2 hlive
      split at h2
      · obtain ⟨rfl, hx⟩ := h2
        exact ⟨none, 0, by simp [hx], ⟨0, by simp [hx]⟩, .inl hx⟩
      · rename_i b hb
        obtain ⟨cap, cs, h1, h3, h4, _⟩ := h2
        obtain ⟨_, _, cs', g1, g2, g3⟩ := h.obs l ob b hl hlive hb
        refine ⟨_, cap, h1, ⟨ob.sz, g2⟩, .inr ⟨b, 0, rfl, fun k c hk => ?_⟩⟩
        obtain ⟨v, hv, hc⟩ := g3 k c hk
        exact ⟨v, by simp [World.cell?, g1, hv], hc⟩
  · cases hx


theorem bytesA_ok : ∀ {xs : List (List Cl)} {ns : List Int}, bytesA xs = some ns → ns.length = xs.length ∧ ∀ (k : Nat) (n : Int), ns[k]? = some n → xs.flatten[k]? = some (.v (.int .u8 n))
  | [], ns, h => by
    simp only [bytesA, Option.some.injEq] at h
    subst h
    exact ⟨rfl, fun k n hk => by simp at hk⟩
  | x :: r, ns, h => by
    unfold bytesA at h
    split at h
    · rename_i he; cases he
    · rename_i n r' he
      cases he
      split at h
      · rename_i ns' h'
        simp only [Option.some.injEq] at h
        subst h
        obtain ⟨q1, q2⟩ := bytesA_ok h'
        refine ⟨by simp [q1], fun k m hk => ?_⟩
        cases k with
        | zero => simp only [List.getElem?_cons_zero, Option.some.injEq] at hk; subst hk; rfl
        | succ k => simpa using q2 k m (by simpa using hk)
      · cases h
    · cases h

end Go.Vm
