/- The value machine, part N: slicing, append. -/
import Derived.Test.YtepjgnlinjlehaaGreatVmMa
namespace Go.Vm
set_option linter.unusedSimpArgs false
set_option linter.unusedVariables false
open Go.RowKit

variable {P : Program} {w0 : Bs} {St0 St : Nat → Nat → Prop} {β : Nat → Option Nat} {s : MS} {a : Act} {w : World}

/-! ### Slicing -/
def optIdx (s : MS) (x : Option Operand) (d : Nat) : Option Nat := match x with
  | none => some d
  | some x => idxA (evA s x)
def optOk : Option Operand → Bool
  | none => true
  | some x => opndOk x

def sliceE (P : Program) (s : MS) (T : TypeId) (x : AV) (lo hi : Option Operand) : Option (AV × List Ob) := match P.underlying T with
  | some .string => match x with
    | .c (.v (.string b)) => match optIdx s lo 0, optIdx s hi b.size with
      | some l, some h => if l ≤ h ∧ h ≤ b.size then some (.c (.v (.string (b.extract l h))), s.st) else none
      | _, _ => none
    | _ => none
  | some (.slice e) => match x with
    | .c d => match tySize P e, fzC s.st d with
      | some n, some (.sl xs) => match optIdx s lo 0, optIdx s hi xs.length with
        | some l, some h => if l ≤ h ∧ h ≤ xs.length ∧ xs.all (fun r => r.length == n) = true then some (.c (.sl ((xs.drop l).take (h - l))), fzSt s.st d) else none
        | _, _ => none
      | _, _ => none
    | _ => none
  | _ => none

theorem optIdx_ok (h : Core w0 St0 St β s a w) {x : Option Operand} (hx : optOk x = true) {d k : Nat} (hk : optIdx s x d = some k) : (x = none ∧ k = d) ∨ ∃ kd y, x = some y ∧ a.eval y = .int kd (k : Int) := by
  cases x with
  | none => simp [optIdx] at hk; exact .inl ⟨rfl, hk.symm⟩
  | some y =>
    obtain ⟨kd, h2⟩ := idxA_ok (evA_ok h y hx) hk
    exact .inr ⟨kd, y, rfl, h2⟩

theorem run_sliceBound_nat (k : IntKind) (i y : Nat) (code : BoundsCode) (h : i ≤ y) : (Instr.sliceBound (.int k (i : Int)) y code).run P w = .ok i w := by
  have := run_sliceBound (P := P) w k (i : Int) y code (by omega) (by omega)
  simpa using this

theorem run_bounds (h : Core w0 St0 St β s a w) {lo hi : Option Operand} (h1 : optOk lo = true) (h2 : optOk hi = true) {len cap l r : Nat} (hl : optIdx s lo 0 = some l) (hr : optIdx s hi len = some r) (hlr : l ≤ r) (hrl : r ≤ len) (hc : len ≤ cap) (isS : Bool) :
    (Instr.sliceBounds isS len cap (lo.map a.eval) (hi.map a.eval) none).run P w = .ok (l, r, cap) w := by
  rcases optIdx_ok h h1 hl with ⟨rfl, rfl⟩ | ⟨k1, y1, rfl, e1⟩ <;> rcases optIdx_ok h h2 hr with ⟨rfl, rfl⟩ | ⟨k2, y2, rfl, e2⟩
  · simp [Instr.sliceBounds]
  · simp [Instr.sliceBounds, e2, run_sliceBound_nat _ r cap _ (by omega)]
  · simp [Instr.sliceBounds, e1, run_sliceBound_nat _ l r _ hlr]
  · simp [Instr.sliceBounds, e1, e2, run_sliceBound_nat _ r cap _ (show r ≤ cap by omega), run_sliceBound_nat _ l r _ hlr]

theorem slice_ok (h : Core w0 St0 St β s a w) (o : Oper) (T : TypeId) (x : Operand) (lo hi : Option Operand) (ho : o.op = .slice T x lo hi none) (hc : opndOk x = true) (h1 : optOk lo = true) (h2 : optOk hi = true) {y : AV} {st' : List Ob} (hy : sliceE P s T (evA s x) lo hi = some (y, st')) : Does P a w w0 St0 s o y st' := by
  have he := evA_ok h x hc
  unfold sliceE at hy
  split at hy
  · rename_i hu
    split at hy
    · rename_i b hev
      split at hy
      · rename_i l r hl hr
        split at hy
        · rename_i hcond
          simp only [Option.some.injEq, Prod.mk.injEq] at hy
          obtain ⟨rfl, rfl⟩ := hy
          rw [hev] at he
          obtain ⟨hv, hw⟩ := v_ok he
          have hb := run_bounds (P := P) h h1 h2 (len := b.size) (cap := b.size) hl hr hcond.1 hcond.2 (Nat.le_refl _) false
          refine ⟨_, .string (b.extract l r), _, St, β, ?_, .inl rfl, h, v_mk ?_⟩
          · simp [execOp, ho, Instr.sliceAt, run_underlying hu, Instr.slice, hv, hb]
          · simp only [wfV, decide_eq_true_eq] at hw ⊢
            rw [ByteArray.size_extract]; omega
        · cases hy
      · cases hy
    · cases hy
  · rename_i e hu
    split at hy
    · rename_i d hev
      split at hy
      · rename_i n xs hs hf
        split at hy
        · rename_i l r hl hr
          split at hy
          · rename_i hcond
            obtain ⟨c1, c2, c3⟩ := hcond
            simp only [Option.some.injEq, Prod.mk.injEq] at hy
            obtain ⟨rfl, rfl⟩ := hy
            rw [hev] at he
            simp only [AVR] at he
            obtain ⟨St', q1, q2, q3, q4⟩ := fzC_ok h hf
            have hd := q4 _ he.toB
            simp only [RdD] at hd
            obtain ⟨ad, cap, hv, e2, e3, e4, e5⟩ := hd
            have hb := run_bounds (P := P) h h1 h2 (len := xs.length) (cap := cap) hl hr c1 c2 e2 true
            have hall : ∀ z ∈ xs, z.length = n := fun z hz => by have := List.all_eq_true.1 c3 z hz; simpa using this
            refine ⟨_, .slice (if cap = l then ad else ad.map (·.add (l * n))) (r - l) (cap - l), _, St', β, ?_, .inl rfl, q1, ?_⟩
            · simp [execOp, ho, Instr.sliceAt, run_underlying hu, Instr.slice, hv, hb, run_size hs]
            · simp only [AVR, RdC, RdD]
              have hlen : ((xs.drop l).take (r - l)).length = r - l := by simp; omega
              refine ⟨_, cap - l, by rw [hlen], by rw [hlen]; omega, by omega, ⟨n, fun z hz => hall z (List.mem_of_mem_drop (List.mem_of_mem_take hz))⟩, ?_⟩
              by_cases hz : r - l = 0
              · left; exact List.eq_nil_of_length_eq_zero (by rw [hlen, hz])
              · right
                rcases e5 with rfl | ⟨b, off, rfl, e6⟩
                · simp at c2; omega
                · have hne : ¬ cap = l := by omega
                  refine ⟨b, off + l * n, by simp [hne, addr_add], ?_⟩
                  refine RdE.mk n (fun z hz => hall z (List.mem_of_mem_drop (List.mem_of_mem_take hz))) fun i z hi => ?_
                  rw [List.getElem?_take] at hi
                  split at hi
                  · rw [List.getElem?_drop] at hi
                    have := e6.at n hall (l + i) z hi
                    rwa [show off + (l + i) * n = off + l * n + i * n by rw [Nat.add_mul]; omega] at this
                  · cases hi
          · cases hy
        · cases hy
      · cases hy
    · cases hy
  · cases hy

/-! ### append -/
def killSt (st : List Ob) (l : Nat) : List Ob := st.modify l fun ob => { ob with live := false }

theorem killSt_get {st : List Ob} {l l' : Nat} {ob : Ob} (h : (killSt st l)[l']? = some ob) : ∃ ob', st[l']? = some ob' ∧ (l = l' → ob = { ob' with live := false }) ∧ (l ≠ l' → ob = ob') := by
  unfold killSt at h
  rw [List.getElem?_modify] at h
  simp only [Option.map_eq_map, Option.map_eq_some_iff] at h
  obtain ⟨ob', h1, h2⟩ := h
  refine ⟨ob', h1, fun e => ?_, fun e => ?_⟩
  · subst e; simpa using h2.symm
  · simpa [e] using h2.symm
theorem killSt_get' {st : List Ob} {l l' : Nat} {ob : Ob} (h : st[l']? = some ob) : (killSt st l)[l']? = some (if l = l' then { ob with live := false } else ob) := by
  unfold killSt
  rw [List.getElem?_modify, h]
  by_cases e : l = l' <;> simp [e]

theorem RefR_kill {st : List Ob} (l l' : Nat) (u : Value) (h : RefR w st β l' u) : RefR w (killSt st l) β l' u := by
  unfold RefR at h ⊢
  cases hq : st[l']? with
  | none => simp [hq] at h
  | some ob =>
    simp only [hq] at h
    rw [killSt_get' hq]
    by_cases e : l = l'
    · simp [e, h.1]
    · simpa [e] using h
theorem lp_kill {st : List Ob} (l : Nat) (l' i off : Nat) (u : Value) (h : AVR w St st β (.lp l' i off) u) : AVR w St (killSt st l) β (.lp l' i off) u := by
  simp only [AVR] at h ⊢
  cases hq : st[l']? with
  | none => simp [hq] at h
  | some ob =>
    simp only [hq] at h
    rw [killSt_get' hq]
    by_cases e : l = l'
    · simp [e]
    · simpa [e] using h

theorem Core.kill (h : Core w0 St0 St β s a w) (l : Nat) : Core w0 St0 St β ⟨s.n, s.env, killSt s.st l⟩ a w ∧ (∀ x u, AVR w St s.st β x u → AVR w St (killSt s.st l) β x u) := by
  have hr := fun l' u hu => RefR_kill (w := w) (β := β) (st := s.st) l l' u hu
  have hA : ∀ x u, AVR w St s.st β x u → AVR w St (killSt s.st l) β x u := fun x u hx => AVR.mono (fun _ _ h => h) (fun _ _ _ => rfl) hr (fun l' i off u hu => lp_kill l l' i off u hu) x u hx
  have hg : ∀ l' o2, (killSt s.st l)[l']? = some o2 → o2.live = true → s.st[l']? = some o2 ∧ l ≠ l' := by
    intro l' o2 h2 hl
    obtain ⟨o3, p1, p2, p3⟩ := killSt_get h2
    by_cases e : l = l'
    · rw [p2 e] at hl; simp at hl
    · rw [p3 e]; exact ⟨p1, e⟩
  refine ⟨?_, hA⟩
  exact {
    defers := h.defers
    size := h.size
    env := fun i => hA _ _ (h.env i)
    below := h.below, st0 := h.st0, stOld := h.stOld, stIn := h.stIn
    obs := fun l' o2 b hl hlive hβ => by
      obtain ⟨p1, _⟩ := hg l' o2 hl hlive
      obtain ⟨q1, q2, q3⟩ := h.obs l' o2 b p1 hlive hβ
      exact ⟨q1, q2, ObR.mono (fun _ _ h => h) (fun _ _ _ => rfl) hr rfl q3⟩
    nil := fun l' o2 hl hlive hβ => h.nil l' o2 (hg l' o2 hl hlive).1 hlive hβ
    inj := fun l1 l2 o1 o2 b h1 h2 h3 h4 h5 h6 => h.inj l1 l2 o1 o2 b (hg l1 o1 h1 h3).1 (hg l2 o2 h2 h4).1 h3 h4 h5 h6
    sep := fun l' o2 b o hl hlive hβ hbo => h.sep l' o2 b o (hg l' o2 hl hlive).1 hlive hβ hbo
    own := h.own.move id (fun x hx => ⟨⟨hx.1, hx.2.1, hx.2.2.1, hx.2.2.2.1, fun l' o2 hl' hlv => hx.2.2.2.2 l' o2 (hg l' o2 hl' hlv).1 hlv⟩, rfl⟩) (fun _ _ h => h) (fun _ _ _ => rfl)
      (fun l' o2 b k c h1 h2 h3 h4 _ => ⟨o2, b, (hg l' o2 h1 h2).1, h2, h3, h4, rfl⟩) (fun _ _ _ _ _ _ _ _ e => e) }

/-- The world turns in one block that no living object names, above what of it stays. -/
theorem Core.turn (h : Core w0 St0 St β s a w) {b : Nat} (hB : w0.may b) (hN : Own w0 (fun x => x = b) w St s.st β) (hfree : ∀ l o2, s.st[l]? = some o2 → o2.live = true → β l ≠ some b) {cs cs' : Array Value} {ty : TypeId} (hcs : w.heap[b]? = some (.cells cs ty (0, 0)))
    (hst : ∀ o, St b o → cs'[o]? = cs[o]?) (hsz : cs'.size = cs.size) : Core w0 St0 St β s a (w.setRow b cs') := by
  have hoth : ∀ k, k ≠ b → (w.setRow b cs').heap[k]? = w.heap[k]? := fun k hk => setRow_other w b k cs' hk
  have hnew : (w.setRow b cs').heap[b]? = some (.cells cs' ty (0, 0)) := setRow_heap w b cs cs' ty (0, 0) hcs
  have hcell : ∀ b' o, St b' o → (w.setRow b cs').cell? ⟨b', o, none⟩ = w.cell? ⟨b', o, none⟩ := fun b' o hbo => by
    by_cases e : b' = b
    · subst e
      rw [World.cell?, World.cell?, hnew, hcs]
      simp [hst o hbo]
    · exact cell_of_block (hoth b' e)
  have hbelow : BelowB w0 (w.setRow b cs') := h.below.step (n := 0) ⟨rfl, rfl, rfl, by simp [World.setRow], fun k hk => absurd hk (Nat.not_lt_zero _)⟩ (fun k h1 h2 => hoth k fun e => by
    subst e
    rcases hB with h' | h'
    · omega
    · exact h2 h') fun k hk => by
    by_cases e : k = b
    · subst e; exact (bsz_of hcs hnew).2 hsz
    · exact bsz_eq (hoth k e)
  have hr : ∀ l' u, RefR w s.st β l' u → RefR (w.setRow b cs') s.st β l' u := by
    intro l' u hu
    unfold RefR at hu ⊢
    cases hq : s.st[l']? with
    | none => simp [hq] at hu
    | some o2 =>
      simp only [hq] at hu ⊢
      refine ⟨hu.1, fun hl => ?_⟩
      have h2 := hu.2 hl
      cases hβ : β l' with
      | none => simpa [hβ] using h2
      | some b2 =>
        simp only [hβ] at h2 ⊢
        have hne : b2 ≠ b := fun e => hfree l' o2 hq hl (by rw [hβ, e])
        rw [hoth b2 hne]; exact h2
  have hA : ∀ x u, AVR w St s.st β x u → AVR (w.setRow b cs') St s.st β x u := fun x u hx => AVR.mono (fun _ _ h => h) hcell hr (fun l i off u hu => by simpa only [AVR] using hu) x u hx
  exact {
    defers := h.defers
    size := h.size
    env := fun i => hA _ _ (h.env i)
    below := hbelow
    st0 := h.st0, stOld := h.stOld
    stIn := fun b' o hbo => by simpa [World.setRow] using h.stIn b' o hbo
    obs := fun l' o2 b2 hl hlive hβ => by
      obtain ⟨q1, q2, q3⟩ := h.obs l' o2 b2 hl hlive hβ
      have hne : b2 ≠ b := fun e => hfree l' o2 hl hlive (by rw [hβ, e])
      exact ⟨q1, by simpa [World.setRow] using q2, ObR.mono (fun _ _ h => h) hcell hr (hoth b2 hne) q3⟩
    nil := h.nil, inj := h.inj, sep := h.sep
    own := hN.move id (fun x hx => ⟨⟨hx.1, fun h => h, by simpa [World.setRow] using hx.2.2.1, hx.2.2.2.1, hx.2.2.2.2⟩, hoth x hx.2.1⟩) (fun _ _ h => h) hcell
      (fun l' o2 b2 k c h1 h2 h3 h4 _ => ⟨o2, b2, h1, h2, h3, h4, cell_of_block (hoth b2 fun e => hfree l' o2 h1 h2 (by rw [h3, e]))⟩) (fun _ _ _ _ _ _ _ _ e => e) }

end Go.Vm
