/- The value machine, part H: new objects, stores. -/
import Derived.Test.YtepjgnlinjlehaaGreatVmG
namespace Go.Vm
set_option linter.unusedSimpArgs false
set_option linter.unusedVariables false
open Go.RowKit

variable {P : Program} {w0 : Bs} {St0 St : Nat → Nat → Prop} {β : Nat → Option Nat} {s : MS} {a : Act} {w : World}

theorem dom_ref {l : Nat} {u : Value} {st : List Ob} (h : RefR w st β l u) : l < st.length := by
  unfold RefR at h
  rcases Nat.lt_or_ge l st.length with h' | h'
  · exact h'
  · simp [List.getElem?_eq_none h'] at h
theorem dom_lp {l i off : Nat} {u : Value} {st : List Ob} (h : AVR w St st β (.lp l i off) u) : l < st.length := by
  simp only [AVR] at h
  rcases Nat.lt_or_ge l st.length with h' | h'
  · exact h'
  · simp [List.getElem?_eq_none h'] at h

/-- A new object: a new block, or a nil slice. -/
theorem Core.newObB (h : Core w0 St0 St β s a w) {w' : World} (hb : Below w.heap.size w w') (ob : Ob) (ob' : Option Nat) (hwr : ob.live = true)
    (hnone : ob' = none → ob.xs = []) (hsome : ∀ b, ob' = some b → w.heap.size ≤ b ∧ b < w'.heap.size ∧ ∃ cs : Array Value, w'.heap[b]? = some (.cells cs ob.ty (0, 0)) ∧ (∀ x ∈ ob.xs, x.length = ob.sz) ∧
      ∀ (k : Nat) (c : Cl), ob.xs.flatten[k]? = some c → ∃ u, cs[k]? = some u ∧ RdB w St s.st β c u)
    (hown : Own w0 (fun _ => False) w' St (s.st ++ [ob]) (fun l => if l = s.st.length then ob' else β l)) :
    ∃ β', Core w0 St0 St β' ⟨s.n, s.env, s.st ++ [ob]⟩ a w' ∧ β' s.st.length = ob' ∧ (∀ x u, AVR w St s.st β x u → AVR w' St (s.st ++ [ob]) β' x u) ∧ (∀ x u, RdC w St s.st β x u → RdC w' St (s.st ++ [ob]) β' x u) := by
  refine ⟨fun l => if l = s.st.length then ob' else β l, ?_⟩
  have hw0 : w0.heap.size ≤ w.heap.size := h.below.size
  have hblk : ∀ k, k < w.heap.size → w'.heap[k]? = w.heap[k]? := hb.block
  have hcell : ∀ b o, St b o → w'.cell? ⟨b, o, none⟩ = w.cell? ⟨b, o, none⟩ := fun b o hbo => cell_of_block (hblk b (h.stIn b o hbo))
  have hold : ∀ l, l < s.st.length → (s.st ++ [ob])[l]? = s.st[l]? := fun l hl => by rw [List.getElem?_append_left hl]
  have hr : ∀ l u, RefR w s.st β l u → RefR w' (s.st ++ [ob]) (fun l => if l = s.st.length then ob' else β l) l u := by
    intro l u hu
    have hl := dom_ref hu
    unfold RefR at hu ⊢
    rw [hold l hl]
    have hne : ¬ l = s.st.length := by omega
    simp only [hne, if_false]
    cases hq : s.st[l]? with
    | none => simp [hq] at hu
    | some o2 =>
      simp only [hq] at hu ⊢
      refine ⟨hu.1, fun hlive => ?_⟩
      have h2 := hu.2 hlive
      cases hβ : β l with
      | none => simpa [hβ] using h2
      | some b =>
        simp only [hβ] at h2 ⊢
        obtain ⟨cap, cs, h1, h2, h3, h4, h5⟩ := h2
        exact ⟨cap, cs, h1, h2, h3, by rw [hblk b (h.obs l o2 b hq hlive hβ).2.1]; exact h4, h5⟩
  have hp : ∀ l i off u, AVR w St s.st β (.lp l i off) u → AVR w' St (s.st ++ [ob]) (fun l => if l = s.st.length then ob' else β l) (.lp l i off) u := by
    intro l i off u hu
    have hl := dom_lp hu
    have hne : ¬ l = s.st.length := by omega
    simp only [AVR, hold l hl, hne, if_false] at hu ⊢
    exact hu
  have hA : ∀ x u, AVR w St s.st β x u → AVR w' St (s.st ++ [ob]) (fun l => if l = s.st.length then ob' else β l) x u := fun x u hx => AVR.mono (fun _ _ h => h) hcell hr hp x u hx
  have hC : ∀ x u, RdC w St s.st β x u → RdC w' St (s.st ++ [ob]) (fun l => if l = s.st.length then ob' else β l) x u := fun x u hx => RdC.mono (fun _ _ h => h) hcell hr x u hx
  have hBB : ∀ x u, RdB w St s.st β x u → RdB w' St (s.st ++ [ob]) (fun l => if l = s.st.length then ob' else β l) x u := fun x u hx => RdB.mono (fun _ _ h => h) hcell hr x u hx
  have hsplit : ∀ l o2, (s.st ++ [ob])[l]? = some o2 → (l < s.st.length ∧ s.st[l]? = some o2) ∨ (l = s.st.length ∧ o2 = ob) := by
    intro l o2 hl
    rcases Nat.lt_or_ge l s.st.length with h1 | h1
    · exact .inl ⟨h1, by rwa [hold l h1] at hl⟩
    · rw [List.getElem?_append_right h1] at hl
      rcases Nat.lt_or_ge 0 (l - s.st.length) with h2 | h2
      · rw [List.getElem?_eq_none (by simp; omega)] at hl; cases hl
      · have : l - s.st.length = 0 := by omega
        simp [this] at hl
        exact .inr ⟨by omega, hl.symm⟩
  refine ⟨?_, by simp, hA, hC⟩
  exact {
    defers := h.defers
    size := h.size
    env := fun i => hA _ _ (h.env i)
    below := h.below.grow hb
    st0 := h.st0
    stOld := h.stOld
    stIn := fun b o hbo => Nat.lt_of_lt_of_le (h.stIn b o hbo) hb.size
    obs := fun l o2 b hl hlive hβ => by
      rcases hsplit l o2 hl with ⟨h1, h2⟩ | ⟨rfl, rfl⟩
      · have hne : ¬ l = s.st.length := by omega
        simp only [hne, if_false] at hβ
        obtain ⟨q1, q2, q3⟩ := h.obs l o2 b h2 hlive hβ
        refine ⟨q1, Nat.lt_of_lt_of_le q2 hb.size, ?_⟩
        obtain ⟨cs, g1, g2, g3⟩ := q3
        refine ⟨cs, by rw [hblk b q2]; exact g1, g2, fun k c hk => ?_⟩
        obtain ⟨u, hu, hc⟩ := g3 k c hk
        exact ⟨u, hu, hBB _ _ hc⟩
      · simp only [if_true] at hβ
        obtain ⟨q1, q2, cs, g1, g2, g3⟩ := hsome b hβ
        refine ⟨.inl (Nat.le_trans hw0 q1), q2, cs, g1, g2, fun k c hk => ?_⟩
        obtain ⟨u, hu, hc⟩ := g3 k c hk
        exact ⟨u, hu, hBB _ _ hc⟩
    nil := fun l o2 hl hlive hβ => by
      rcases hsplit l o2 hl with ⟨h1, h2⟩ | ⟨rfl, rfl⟩
      · have hne : ¬ l = s.st.length := by omega
        simp only [hne, if_false] at hβ
        exact h.nil l o2 h2 hlive hβ
      · simp only [if_true] at hβ
        exact hnone hβ
    inj := fun l1 l2 o1 o2 b h1 h2 h3 h4 h5 h6 => by
      rcases hsplit l1 o1 h1 with ⟨p1, p2⟩ | ⟨rfl, rfl⟩ <;> rcases hsplit l2 o2 h2 with ⟨q1, q2⟩ | ⟨rfl, rfl⟩
      · have e1 : ¬ l1 = s.st.length := by omega
        have e2 : ¬ l2 = s.st.length := by omega
        simp only [e1, e2, if_false] at h5 h6
        exact h.inj l1 l2 o1 o2 b p2 q2 h3 h4 h5 h6
      · have e1 : ¬ l1 = s.st.length := by omega
        simp only [e1, if_false, if_true] at h5 h6
        have := (h.obs l1 o1 b p2 h3 h5).2.1
        have := (hsome b h6).1
        omega
      · have e1 : ¬ l2 = s.st.length := by omega
        simp only [e1, if_false, if_true] at h5 h6
        have := (h.obs l2 o2 b q2 h4 h6).2.1
        have := (hsome b h5).1
        omega
      · rfl
    sep := fun l o2 b o hl hlive hβ hbo => by
      rcases hsplit l o2 hl with ⟨h1, h2⟩ | ⟨rfl, rfl⟩
      · have hne : ¬ l = s.st.length := by omega
        simp only [hne, if_false] at hβ
        exact h.sep l o2 b o h2 hlive hβ hbo
      · simp only [if_true] at hβ
        have := (hsome b hβ).1
        have := h.stIn b o hbo
        omega
    own := hown }

theorem Core.newOb (h : Core w0 St0 St β s a w) {w' : World} (hb : Below w.heap.size w w') (ob : Ob) (ob' : Option Nat) (hwr : ob.live = true)
    (hnone : ob' = none → ob.xs = []) (hsome : ∀ b, ob' = some b → w.heap.size ≤ b ∧ b < w'.heap.size ∧ ∃ cs : Array Value, w'.heap[b]? = some (.cells cs ob.ty (0, 0)) ∧ (∀ x ∈ ob.xs, x.length = ob.sz) ∧
      ∀ (k : Nat) (c : Cl), ob.xs.flatten[k]? = some c → ∃ u, cs[k]? = some u ∧ RdC w St s.st β c u) :
    ∃ β', Core w0 St0 St β' ⟨s.n, s.env, s.st ++ [ob]⟩ a w' ∧ β' s.st.length = ob' ∧ (∀ x u, AVR w St s.st β x u → AVR w' St (s.st ++ [ob]) β' x u) ∧ (∀ x u, RdC w St s.st β x u → RdC w' St (s.st ++ [ob]) β' x u) := by
  refine h.newObB hb ob ob' hwr hnone (fun b hb' => ?_) ?_
  · obtain ⟨q1, q2, cs, g1, g2, g3⟩ := hsome b hb'
    refine ⟨q1, q2, cs, g1, g2, fun k c hk => ?_⟩
    obtain ⟨u, hu, hc⟩ := g3 k c hk
    exact ⟨u, hu, hc.toB⟩
  · refine h.own.move id (fun x hx => ⟨⟨hx.1, fun h => h, Nat.lt_of_lt_of_le hx.2.2.1 hb.size, hx.2.2.2.1, fun l o2 hl hlv => ?_⟩, hb.block x hx.2.2.1⟩) (fun _ _ h => h)
      (fun b o hbo => cell_of_block (hb.block b (h.stIn b o hbo))) (fun l o2 b k c hl hlive hβ hk hc => ?_) (fun _ _ _ _ _ _ _ _ e => e)
    · by_cases e : l = s.st.length
      · simp only [e, if_true]
        intro hb'
        have := (hsome x hb').1
        have := hx.2.2.1
        omega
      · simp only [e, if_false]
        have hlt : l < s.st.length := by
          have := (List.getElem?_eq_some_iff.1 hl).1
          simp at this
          omega
        rw [List.getElem?_append_left hlt] at hl
        exact hx.2.2.2.2 l o2 hl hlv
    · by_cases e : l = s.st.length
      · subst e
        rw [List.getElem?_append_right (Nat.le_refl _)] at hl
        simp only [Nat.sub_self, List.getElem?_cons_zero, Option.some.injEq] at hl
        subst hl
        simp only [if_true] at hβ
        obtain ⟨_, _, cs, _, _, g3⟩ := hsome b hβ
        obtain ⟨u, _, hr⟩ := g3 k c hk
        rw [hr.notOw] at hc
        cases hc
      · simp only [e, if_false] at hβ
        have hlt : l < s.st.length := by
          have := (List.getElem?_eq_some_iff.1 hl).1
          simp at this
          omega
        rw [List.getElem?_append_left hlt] at hl
        exact ⟨o2, b, hl, hlive, hβ, hk, cell_of_block (hb.block b (h.obs l o2 b hl hlive hβ).2.1)⟩


theorem below_alloc (w : World) (o : Obj) : Below w.heap.size w (w.alloc o) := (Below.refl _ _).alloc (Nat.le_refl _) o
theorem alloc_at (w : World) (o : Obj) : (w.alloc o).heap[w.heap.size]? = some o := by
  show (w.heap.push o)[w.heap.size]? = _
  simp

/-- A new block of cells, by the cells. -/
theorem Core.newCells (h : Core w0 St0 St β s a w) (ty : TypeId) (sz : Nat) (xs : List (List Cl)) (cs : Array Value) (hl : ∀ x ∈ xs, x.length = sz)
    (hc : ∀ (k : Nat) (c : Cl), xs.flatten[k]? = some c → ∃ u, cs[k]? = some u ∧ RdC w St s.st β c u) :
    ∃ β', Core w0 St0 St β' ⟨s.n, s.env, s.st ++ [⟨ty, sz, xs, true, true⟩]⟩ a (w.alloc (.cells cs ty)) ∧ β' s.st.length = some w.heap.size ∧ (∀ x u, AVR w St s.st β x u → AVR (w.alloc (.cells cs ty)) St (s.st ++ [⟨ty, sz, xs, true, true⟩]) β' x u) := by
  obtain ⟨β', h1, h2, h3, _⟩ := h.newOb (below_alloc w (.cells cs ty)) ⟨ty, sz, xs, true, true⟩ (some w.heap.size) rfl (by simp) (fun b hb => by
    simp only [Option.some.injEq] at hb
    subst hb
    exact ⟨Nat.le_refl _, by simp, cs, alloc_at w _, hl, hc⟩)
  exact ⟨β', h1, h2, h3⟩

/-- What an operation with an effect comes to. -/
def Does (P : Program) (a : Act) (w : World) (w0 : Bs) (St0 : Nat → Nat → Prop) (s : MS) (o : Oper) (y : AV) (st' : List Ob) : Prop :=
  ∃ nx v w' St' β', (execOp a.eval o).run P w = .ok nx w' ∧ (nx = .value v ∨ (nx = .skip ∧ v = Go.undef)) ∧ Core w0 St0 St' β' ⟨s.n, s.env, st'⟩ a w' ∧ AVR w' St' st' β' y v

def allocE (P : Program) (s : MS) (T : TypeId) : Option (AV × List Ob) := match tyZ P T with
  | some cs => some (.lp s.st.length 0 0, s.st ++ [⟨T, cs.length, [cs], true, true⟩])
  | none => none
def boxE (s : MS) (T : TypeId) (x : AV) : Option (AV × List Ob) := match cellsA x with
  | some cs => some (.lp s.st.length 0 0, s.st ++ [⟨T, cs.length, [cs], true, true⟩])
  | none => none
def storeE (P : Program) (s : MS) (T : TypeId) (p x : AV) : Option (AV × List Ob) := match tySize P T, p, cellsA x with
  | some n, .lp l i off, some cs => match obAt s.st l with
    | some ob => if ob.wr = true ∧ cs.length = n then match ob.xs[i]? with
      | some row => if off + n ≤ row.length then some (.undef, s.st.set l { ob with xs := ob.xs.set i (row.take off ++ (cs ++ row.drop (off + n))) }) else none
      | none => none
      else none
    | none => none
  | _, _, _ => none

theorem alloc_ok (h : Core w0 St0 St β s a w) (o : Oper) (T : TypeId) (ho : o.op = .alloc T) {y : AV} {st' : List Ob} (hy : allocE P s T = some (y, st')) : Does P a w w0 St0 s o y st' := by
  unfold allocE at hy
  split at hy
  · rename_i cs0 hz0
    · obtain ⟨zs, hz, hwf, rfl⟩ := tyZ_ok hz0
      simp only [Option.some.injEq, Prod.mk.injEq] at hy
      obtain ⟨rfl, rfl⟩ := hy
      obtain ⟨z, hz1, hz2⟩ := run_zero hz w
      obtain ⟨β', h1, h2, _⟩ := h.newCells T (zs.map Cl.v).length [zs.map .v] z.cells (by simp) (fun k c hk => by
        simp only [List.flatten_cons, List.flatten_nil, List.append_nil, List.getElem?_map, Option.map_eq_some_iff] at hk
        obtain ⟨v, hv, rfl⟩ := hk
        refine ⟨v, by rw [← Array.getElem?_toList, hz2]; exact hv, ?_⟩
        simp only [RdC, RdD, true_and]
        exact List.all_eq_true.1 hwf v (List.mem_of_getElem? hv))
      refine ⟨_, .pointer (some ⟨w.heap.size, 0, none⟩), _, St, β', ?_, .inl rfl, h1, ?_⟩
      · simp [execOp, ho, Instr.alloc, hz1, newVar, newRow]
      · simp [AVR, h2]
  · cases hy

theorem box_ok (h : Core w0 St0 St β s a w) (o : Oper) (T : TypeId) (x : Operand) (ho : o.op = .box T x) (hc : opndOk x = true) {y : AV} {st' : List Ob} (hy : boxE s T (evA s x) = some (y, st')) : Does P a w w0 St0 s o y st' := by
  have he := evA_ok h x hc
  unfold boxE at hy
  split at hy
  · rename_i cs hcs
    simp only [Option.some.injEq, Prod.mk.injEq] at hy
    obtain ⟨rfl, rfl⟩ := hy
    obtain ⟨q1, q2⟩ := cellsA_ok he hcs
    obtain ⟨β', h1, h2, _⟩ := h.newCells T cs.length [cs] (a.eval x).cells (by simp) (fun k c hk => by
      simp only [List.flatten_cons, List.flatten_nil, List.append_nil] at hk
      obtain ⟨u, hu, hr⟩ := q2 k c hk
      exact ⟨u, by rw [← Array.getElem?_toList]; exact hu, hr⟩)
    refine ⟨_, .pointer (some ⟨w.heap.size, 0, none⟩), _, St, β', ?_, .inl rfl, h1, ?_⟩
    · simp [execOp, ho, Instr.box, newVar, newRow]
    · simp [AVR, h2]
  · cases hy

/-- Writing cells of one object. -/
theorem Core.write (h : Core w0 St0 St β s a w) {l : Nat} {ob : Ob} (hob : obAt s.st l = some ob) (hwr : ob.wr = true) {b : Nat} (hb : β l = some b) (xs' : List (List Cl)) (hlen : xs'.length = ob.xs.length) (hsz : ∀ x ∈ xs', x.length = ob.sz)
    {cs cs' : Array Value} (hcs : w.heap[b]? = some (.cells cs ob.ty (0, 0))) (hsize : cs'.size = cs.size) (hc : ∀ (k : Nat) (c : Cl), xs'.flatten[k]? = some c → ∃ u, cs'[k]? = some u ∧ RdB w St s.st β c u)
    (how : ∀ (k : Nat) (c : Cl), xs'.flatten[k]? = some c → isOw c = true → ob.xs.flatten[k]? = some c ∧ cs'[k]? = cs[k]?) :
    Core w0 St0 St β ⟨s.n, s.env, s.st.set l { ob with xs := xs' }⟩ a (w.setRow b cs') := by
  obtain ⟨hl, hlive⟩ := obAt_some hob
  obtain ⟨hB, hlt, _⟩ := h.obs l ob b hl hlive hb
  have hnew : (w.setRow b cs').heap[b]? = some (.cells cs' ob.ty (0, 0)) := setRow_heap w b cs cs' ob.ty (0, 0) hcs
  have hoth : ∀ k, k ≠ b → (w.setRow b cs').heap[k]? = w.heap[k]? := fun k hk => setRow_other w b k cs' hk
  have hbelow : BelowB w0 (w.setRow b cs') := h.below.step (n := 0) ⟨rfl, rfl, rfl, by simp [World.setRow], fun k hk => absurd hk (Nat.not_lt_zero _)⟩ (fun k h1 h2 => hoth k fun e => by
    subst e
    rcases hB with h' | h'
    · omega
    · exact h2 h') fun k hk => by
    by_cases e : k = b
    · subst e; exact (bsz_of hcs hnew).2 hsize
    · exact bsz_eq (hoth k e)
  have hcell : ∀ b' o, St b' o → (w.setRow b cs').cell? ⟨b', o, none⟩ = w.cell? ⟨b', o, none⟩ := fun b' o hbo => by
    have hne : b' ≠ b := fun e => by
      subst e
      have := (h.sep l ob b' o hl hlive hb hbo).1
      simp [hwr] at this
    exact cell_of_block (hoth b' hne)
  have hll : l < s.st.length := (List.getElem?_eq_some_iff.1 hl).1
  have hget : ∀ l', (s.st.set l { ob with xs := xs' })[l']? = if l = l' then some { ob with xs := xs' } else s.st[l']? := fun l' => by
    rw [List.getElem?_set]
    by_cases e : l = l'
    · subst e; simp [hll]
    · simp [e]
  have hr : ∀ l' u, RefR w s.st β l' u → RefR (w.setRow b cs') (s.st.set l { ob with xs := xs' }) β l' u := by
    intro l' u hu
    unfold RefR at hu ⊢
    rw [hget l']
    by_cases e : l = l'
    · subst e
      simp only [hl] at hu
      simp only [if_true]
      refine ⟨hu.1, fun _ => ?_⟩
      have h2 := hu.2 hlive
      simp only [hb] at h2 ⊢
      obtain ⟨cap, cs2, p1, p2, p3, p4, p5⟩ := h2
      rw [hcs] at p4
      simp only [Option.some.injEq, Obj.cells.injEq, and_true] at p4
      subst p4
      exact ⟨cap, cs', by simpa [hlen] using p1, by simpa [hlen] using p2, p3, hnew, by rw [hsize]; exact p5⟩
    · simp only [e, if_false]
      cases hq : s.st[l']? with
      | none => simp [hq] at hu
      | some o2 =>
        simp only [hq] at hu ⊢
        refine ⟨hu.1, fun hlive2 => ?_⟩
        have h2 := hu.2 hlive2
        cases hβ : β l' with
        | none => simpa [hβ] using h2
        | some b2 =>
          simp only [hβ] at h2 ⊢
          have hne : b2 ≠ b := fun e2 => by subst e2; exact e (h.inj l l' ob o2 b2 hl hq hlive hlive2 hb hβ)
          rw [hoth b2 hne]
          exact h2
  have hp : ∀ l' i off u, AVR w St s.st β (.lp l' i off) u → AVR (w.setRow b cs') St (s.st.set l { ob with xs := xs' }) β (.lp l' i off) u := by
    intro l' i off u hu
    simp only [AVR, hget l'] at hu ⊢
    by_cases e : l = l'
    · subst e
      simp only [hl] at hu
      simpa using hu
    · simpa [e] using hu
  have hC : ∀ x u, RdC w St s.st β x u → RdC (w.setRow b cs') St (s.st.set l { ob with xs := xs' }) β x u := fun x u hx => RdC.mono (fun _ _ h => h) hcell hr x u hx
  have hBB : ∀ x u, RdB w St s.st β x u → RdB (w.setRow b cs') St (s.st.set l { ob with xs := xs' }) β x u := fun x u hx => RdB.mono (fun _ _ h => h) hcell hr x u hx
  have hsp : ∀ l' o2, (s.st.set l { ob with xs := xs' })[l']? = some o2 → ∃ o3, s.st[l']? = some o3 ∧ o2.live = o3.live ∧ o2.wr = o3.wr ∧ o2.sz = o3.sz ∧ o2.ty = o3.ty ∧ o2.xs.length = o3.xs.length ∧ (l ≠ l' → o2 = o3) ∧ (l = l' → o3 = ob ∧ o2.xs = xs') := by
    intro l' o2 h2
    rw [hget l'] at h2
    by_cases e : l = l'
    · subst e
      simp only [if_true, Option.some.injEq] at h2
      subst h2
      exact ⟨ob, hl, rfl, rfl, rfl, rfl, hlen, fun e => (e rfl).elim, fun _ => ⟨rfl, rfl⟩⟩
    · simp only [e, if_false] at h2
      exact ⟨o2, h2, rfl, rfl, rfl, rfl, rfl, fun _ => rfl, fun e2 => (e e2).elim⟩
  exact {
    defers := h.defers
    size := h.size
    env := fun i => AVR.mono (fun _ _ h => h) hcell hr hp _ _ (h.env i)
    below := hbelow
    st0 := h.st0
    stOld := h.stOld
    stIn := fun b' o hbo => by simpa [World.setRow] using h.stIn b' o hbo
    obs := fun l' o2 b2 hl2 hlive2 hβ => by
      obtain ⟨o3, r1, r2, r3, r4, r5, r6, r7, r8⟩ := hsp l' o2 hl2
      obtain ⟨q1, q2, cs2, g1, g2, g3⟩ := h.obs l' o3 b2 r1 (by rw [← r2]; exact hlive2) hβ
      refine ⟨q1, by simpa [World.setRow] using q2, ?_⟩
      by_cases e : l = l'
      · obtain ⟨e1, e2⟩ := r8 e
        subst e
        have : b2 = b := by rw [hb] at hβ; exact (Option.some.inj hβ).symm
        subst this
        refine ⟨cs', by rw [hnew, r5, e1], by rw [e2, r4, e1]; exact hsz, fun k c hk => ?_⟩
        rw [e2] at hk
        obtain ⟨u, hu, hcc⟩ := hc k c hk
        exact ⟨u, hu, hBB _ _ hcc⟩
      · have := r7 e
        subst this
        have hne : b2 ≠ b := fun e2 => by subst e2; exact e (h.inj l l' ob o2 b2 hl r1 hlive hlive2 hb hβ)
        refine ⟨cs2, by rw [hoth b2 hne]; exact g1, g2, fun k c hk => ?_⟩
        obtain ⟨u, hu, hcc⟩ := g3 k c hk
        exact ⟨u, hu, hBB _ _ hcc⟩
    nil := fun l' o2 hl2 hlive2 hβ => by
      obtain ⟨o3, r1, r2, r3, r4, r5, r6, r7, r8⟩ := hsp l' o2 hl2
      have := h.nil l' o3 r1 (by rw [← r2]; exact hlive2) hβ
      exact List.eq_nil_of_length_eq_zero (by rw [r6, this]; rfl)
    inj := fun l1 l2 o1 o2 b' h1 h2 h3 h4 h5 h6 => by
      obtain ⟨p1, q1, r1, _⟩ := hsp l1 o1 h1
      obtain ⟨p2, q2, r2, _⟩ := hsp l2 o2 h2
      exact h.inj l1 l2 p1 p2 b' q1 q2 (by rw [← r1]; exact h3) (by rw [← r2]; exact h4) h5 h6
    sep := fun l' o2 b' o hl2 hlive2 hβ hbo => by
      obtain ⟨o3, r1, r2, r3, r4, r5, r6, r7, r8⟩ := hsp l' o2 hl2
      have := h.sep l' o3 b' o r1 (by rw [← r2]; exact hlive2) hβ hbo
      rw [r3, r6, r4]; exact this
    own := by
      refine h.own.move id (fun x hx => ?_) (fun _ _ h => h) hcell (fun l' o2 b2 k c hl2 hlive2 hβ hk hcw => ?_) (fun _ _ _ _ _ _ _ _ e => e)
      · have hxb : x ≠ b := fun e => hx.2.2.2.2 l ob hl hlive (by rw [hb, e])
        exact ⟨⟨hx.1, fun h => h, by simpa [World.setRow] using hx.2.2.1, hx.2.2.2.1, fun l' o2 hl' hlv => by
          obtain ⟨o3, r1, r2, _⟩ := hsp l' o2 hl'
          exact hx.2.2.2.2 l' o3 r1 (by rw [← r2]; exact hlv)⟩, hoth x hxb⟩
      · obtain ⟨o3, r1, r2, r3, r4, r5, r6, r7, r8⟩ := hsp l' o2 hl2
        by_cases e : l = l'
        · obtain ⟨e1, e2⟩ := r8 e
          subst e
          have eb : b2 = b := by rw [hb] at hβ; exact (Option.some.inj hβ).symm
          subst eb
          rw [e2] at hk
          obtain ⟨g1, g2⟩ := how k c hk hcw
          refine ⟨ob, b2, hl, hlive, hb, g1, ?_⟩
          simp [World.cell?, hnew, hcs, g2]
        · have := r7 e
          subst this
          have hne : b2 ≠ b := fun e2 => by subst e2; exact e (h.inj l l' ob o2 b2 hl r1 hlive hlive2 hb hβ)
          exact ⟨o2, b2, r1, hlive2, hβ, hk, cell_of_block (hoth b2 hne)⟩ }

end Go.Vm
