/- The value machine, part C: the operations, and that each is what the model does. -/
import Derived.Test.YtepjgnlinjlehaaGreatVmB
namespace Go.Vm
set_option linter.unusedSimpArgs false
set_option linter.unusedVariables false
open Go.RowKit

/-! ### Types -/
def tySize (P : Program) (t : TypeId) : Option Nat := (P.info? t).map (·.size)
def tyAgg (P : Program) (t : TypeId) : Option Bool := (P.underlying t).map fun d => match d with | .struct _ | .array _ _ => true | _ => false
def tyZero (P : Program) (t : TypeId) : Option (List Value) := (P.info? t).bind fun i => i.zero.map fun z => z.cells.toList
def wfZero (zs : List Value) : Bool := zs.all wfV
/-- The cells of a type's zero value. -/
def tyZ (P : Program) (t : TypeId) : Option (List Cl) := match tyZero P t with
  | some zs => if wfZero zs then some (zs.map .v) else none
  | none => none
theorem tyZ_ok {P : Program} {t : TypeId} {cs : List Cl} (h : tyZ P t = some cs) : ∃ zs, tyZero P t = some zs ∧ wfZero zs = true ∧ cs = zs.map .v := by
  unfold tyZ at h
  split at h
  · rename_i zs hz
    split at h
    · rename_i hw
      simp only [Option.some.injEq] at h
      exact ⟨zs, hz, hw, h.symm⟩
    · cases h
  · cases h
def tyField (P : Program) (t : TypeId) (f : Nat) : Option (Nat × TypeId) := match P.underlying t with
  | some (.struct fs) => (fs[f]?).map fun x => (x.offset, x.type)
  | _ => none
def tyElem (P : Program) (t : TypeId) : Option TypeId := match P.underlying t with
  | some (.slice e) => some e
  | _ => none

theorem run_size {P : Program} {t : TypeId} {n : Nat} (h : tySize P t = some n) (w : World) : (sizeOf t).run P w = .ok n w := by
  unfold tySize at h
  cases hi : P.info? t with
  | none => simp [hi] at h
  | some i => simp [hi] at h; simp [sizeOf, typeInfo, hi, h]
theorem run_agg {P : Program} {t : TypeId} {g : Bool} (h : tyAgg P t = some g) (w : World) : (isAgg t).run P w = .ok g w := by
  unfold tyAgg at h
  cases hu : P.underlying t with
  | none => simp [hu] at h
  | some d =>
    simp only [hu, Option.map_some, Option.some.injEq] at h
    subst h
    simp only [isAgg, Sem.run_bind, run_underlying hu, Result.andThen_ok]
    cases d <;> rfl
theorem run_zero {P : Program} {t : TypeId} {cs : List Value} (h : tyZero P t = some cs) (w : World) : ∃ z, (zeroValue t).run P w = .ok z w ∧ z.cells.toList = cs := by
  unfold tyZero at h
  cases hi : P.info? t with
  | none => simp [hi] at h
  | some i =>
    cases hz : i.zero with
    | none => simp [hi, hz] at h
    | some z => simp [hi, hz] at h; exact ⟨z, by simp [zeroValue, typeInfo, hi, hz], h⟩

/-! ### Operands -/
def constA (v : Value) : AV := match v with
  | .agg cs => .agg (cs.toList.map .v)
  | .tuple vs => if vs.toList.isEmpty then .undef else .un
  | v => .c (.v v)
def constOk (v : Value) : Bool := match v with
  | .agg cs => cs.toList.all wfV
  | .tuple _ => true
  | v => wfV v
def opndOk : Operand → Bool
  | .const v => constOk v
  | _ => true
def unpin : AV → AV
  | .pin x _ => x
  | .c x => .c x
  | .agg xs => .agg xs
  | .lp l i off => .lp l i off
  | .ip xs => .ip xs
  | .tup xs => .tup xs
  | .undef => .undef
  | .un => .un
theorem AVR.unpin {w : World} {St : Nat → Nat → Prop} {st : List Ob} {β : Nat → Option Nat} {x : AV} {u : Value} (h : AVR w St st β x u) : AVR w St st β (unpin x) u := by
  cases x with
  | pin x u0 => simp only [AVR] at h; exact h.2
  | _ => exact h
def evA (s : MS) : Operand → AV
  | .tmp t => unpin (eget s.env t)
  | .const v => constA v
  | .global g => .c (.v (.pointer (some ⟨g, 0, none⟩)))
  | .func f => .c (.v (.func (.func f) #[] #[]))

theorem constA_ok {w : World} {St : Nat → Nat → Prop} {st : List Ob} {β : Nat → Option Nat} (v : Value) (hv : constOk v = true) : AVR w St st β (constA v) v := by
  cases v with
  | agg cs =>
    simp only [constA, AVR]
    simp only [constOk] at hv
    refine ⟨cs.toList, by simp, by simp, fun k c hk => ?_⟩
    simp only [List.getElem?_map, Option.map_eq_some_iff] at hk
    obtain ⟨y, hy, rfl⟩ := hk
    refine ⟨y, hy, ?_⟩
    simp only [RdC, RdD, true_and]
    exact List.all_eq_true.1 hv y (List.mem_of_getElem? hy)
  | tuple vs =>
    simp only [constA]
    split
    · rename_i h
      have : vs = #[] := by cases vs; simp_all
      subst this
      simp only [AVR]; rfl
    · simp only [AVR]
  | _ => simp only [constA, AVR, RdC, RdD, true_and]; exact hv

theorem evA_ok {w0 : Bs} {St0 St : Nat → Nat → Prop} {β : Nat → Option Nat} {s : MS} {a : Act} {w : World} (h : Core w0 St0 St β s a w) (x : Operand) (hx : opndOk x = true) : AVR w St s.st β (evA s x) (a.eval x) := by
  cases x with
  | tmp t => exact (h.env t).unpin
  | const v => exact constA_ok v hx
  | global g => simp [evA, AVR, RdC, RdD, Act.eval, wfV]
  | func f => simp [evA, AVR, RdC, RdD, Act.eval, wfV]

/-! ### Cells of a value, data behind a slice, freezing -/
def cellsA : AV → Option (List Cl)
  | .c x => some [x]
  | .agg xs => some xs
  | _ => none

theorem cellsA_ok {w : World} {St : Nat → Nat → Prop} {st : List Ob} {β : Nat → Option Nat} {x : AV} {u : Value} {cs : List Cl} (h : AVR w St st β x u) (hc : cellsA x = some cs) :
    u.cells.toList.length = cs.length ∧ ∀ (k : Nat) (c : Cl), cs[k]? = some c → ∃ y, u.cells.toList[k]? = some y ∧ RdC w St st β c y := by
  cases x with
  | c x =>
    simp only [cellsA, Option.some.injEq] at hc
    subst hc
    simp only [AVR] at h
    have h1 : u.oneCell' = true := by
      cases x with
      | v y => simp only [RdC, RdD] at h; obtain ⟨rfl, h⟩ := h; exact wfV_one h
      | sl xs => simp only [RdC, RdD] at h; obtain ⟨a, cap, rfl, _⟩ := h; rfl
      | ref l => simp only [RdC, RefR] at h; split at h <;> first | exact h.elim | exact h.1
      | ow ty sz xs => simp [RdC, RdD] at h
    have h2 : u.cells = #[u] := by cases u <;> first | rfl | simp [Value.oneCell'] at h1
    rw [h2]
    refine ⟨rfl, fun k c hk => ?_⟩
    cases k with
    | zero => simp at hk; subst hk; exact ⟨u, rfl, h⟩
    | succ k => simp at hk
  | agg xs =>
    simp only [cellsA, Option.some.injEq] at hc
    subst hc
    simp only [AVR] at h
    obtain ⟨us, rfl, h2, h3⟩ := h
    exact ⟨by simpa [Value.cells] using h2, fun k c hk => by simpa [Value.cells] using h3 k c hk⟩
  | _ => simp [cellsA] at hc

theorem RdC.one {w : World} {St : Nat → Nat → Prop} {st : List Ob} {β : Nat → Option Nat} {x : Cl} {u : Value} (h : RdC w St st β x u) : u.oneCell' = true := by
  cases x with
  | v y => simp only [RdC, RdD] at h; obtain ⟨rfl, h⟩ := h; exact wfV_one h
  | sl xs => simp only [RdC, RdD] at h; obtain ⟨a, cap, rfl, _⟩ := h; rfl
  | ref l => simp only [RdC, RefR] at h; split at h <;> first | exact h.elim | exact h.1
  | ow ty sz xs => simp [RdC, RdD] at h
theorem RdB.one {w : World} {St : Nat → Nat → Prop} {st : List Ob} {β : Nat → Option Nat} {x : Cl} {u : Value} (h : RdB w St st β x u) : u.oneCell' = true := by
  cases x with
  | ow ty sz xs => exact h
  | v y => exact RdC.one (w := w) (St := St) (st := st) (β := β) (x := .v y) h
  | sl xs => exact RdC.one (w := w) (St := St) (st := st) (β := β) (x := .sl xs) h
  | ref l => exact RdC.one (w := w) (St := St) (st := st) (β := β) (x := .ref l) h

def obAt (st : List Ob) (l : Nat) : Option Ob := match st[l]? with
  | some ob => if ob.live then some ob else none
  | none => none
theorem obAt_some {st : List Ob} {l : Nat} {ob : Ob} (h : obAt st l = some ob) : st[l]? = some ob ∧ ob.live = true := by
  unfold obAt at h
  split at h
  · split at h
    · simp only [Option.some.injEq] at h; subst h; exact ⟨‹_›, ‹_›⟩
    · cases h
  · cases h

/-- The rows behind a slice. -/
def dataC (st : List Ob) : Cl → Option (List (List Cl))
  | .v (.slice none 0 0) => some []
  | .v _ => none
  | .sl xs => some xs
  | .ref l => (obAt st l).map (·.xs)
  | .ow _ _ _ => none

def fzC (st : List Ob) : Cl → Option Cl
  | .v (.slice none 0 0) => some (.sl [])
  | .v (.slice _ _ _) => none
  | .v x => some (.v x)
  | .sl xs => some (.sl xs)
  | .ref l => match obAt st l with
    | some ob => if pureE ob.xs then some (.sl ob.xs) else none
    | none => none
  | .ow _ _ _ => none

def unwr (st : List Ob) (l : Nat) : List Ob := st.modify l fun ob => { ob with wr := false }
def fzSt (st : List Ob) : Cl → List Ob
  | .ref l => unwr st l
  | _ => st

theorem flatten_at {xs : List (List Cl)} {sz : Nat} (hl : ∀ x ∈ xs, x.length = sz) : ∀ (i j : Nat) (x : List Cl) (c : Cl), xs[i]? = some x → x[j]? = some c → xs.flatten[i * sz + j]? = some c := by
  induction xs with
  | nil => intro i j x c h; simp at h
  | cons x0 xs ih =>
    intro i j x c hi hj
    have h0 : x0.length = sz := hl x0 (by simp)
    simp only [List.flatten_cons]
    cases i with
    | zero =>
      simp only [List.getElem?_cons_zero, Option.some.injEq] at hi
      subst hi
      have : j < x0.length := by
        rcases Nat.lt_or_ge j x0.length with h | h
        · exact h
        · simp [List.getElem?_eq_none h] at hj
      rw [List.getElem?_append_left (by omega)]
      simpa using hj
    | succ i =>
      simp only [List.getElem?_cons_succ] at hi
      rw [List.getElem?_append_right (by rw [Nat.add_mul]; omega)]
      have := ih (fun y hy => hl y (by simp [hy])) i j x c hi hj
      rwa [show (i + 1) * sz + j - x0.length = i * sz + j by rw [Nat.add_mul]; omega]

theorem flatten_len {xs : List (List Cl)} {sz : Nat} (hl : ∀ x ∈ xs, x.length = sz) : xs.flatten.length = xs.length * sz := by
  induction xs with
  | nil => simp
  | cons x xs ih =>
    simp only [List.flatten_cons, List.length_append, List.length_cons]
    rw [ih (fun y hy => hl y (by simp [hy])), hl x (by simp), Nat.add_mul]; omega

theorem pureC_rd {w : World} {St : Nat → Nat → Prop} {st : List Ob} {β : Nat → Option Nat} {c : Cl} {u : Value} (hp : pureC c = true) (h : RdC w St st β c u) : RdD w St c u := by
  cases c with
  | ref l => simp [pureC] at hp
  | v x => exact h
  | sl xs => exact h
  | ow ty sz xs => simp [pureC] at hp
theorem pureC_notOw {c : Cl} (hp : pureC c = true) : isOw c = false := by
  cases c <;> simp_all [pureC, isOw]

theorem RefR_unwr {w : World} {st : List Ob} {β : Nat → Option Nat} {l : Nat} (l' : Nat) (u : Value) : RefR w (unwr st l) β l' u ↔ RefR w st β l' u := by
  unfold RefR unwr
  rw [List.getElem?_modify]
  by_cases h : l = l'
  · subst h
    cases st[l]? <;> simp
  · simp [h]

/-- Freezing one object. -/
theorem Core.freeze {w0 : Bs} {St0 St : Nat → Nat → Prop} {β : Nat → Option Nat} {s : MS} {a : Act} {w : World} (h : Core w0 St0 St β s a w) (l : Nat) {ob : Ob} (hl : obAt s.st l = some ob) (hp : pureE ob.xs = true) :
    ∃ St', Core w0 St0 St' β ⟨s.n, s.env, unwr s.st l⟩ a w ∧ (∀ b o, St b o → St' b o) ∧ ∀ u, RefR w s.st β l u → RdD w St' (.sl ob.xs) u := by
  obtain ⟨hl1, hlive⟩ := obAt_some hl
  refine ⟨fun b o => St b o ∨ (β l = some b ∧ o < ob.xs.length * ob.sz), ?_, fun b o hbo => .inl hbo, ?_⟩
  · have hget : ∀ l' ob', (unwr s.st l)[l']? = some ob' → ∃ ob'', s.st[l']? = some ob'' ∧ ob'.ty = ob''.ty ∧ ob'.sz = ob''.sz ∧ ob'.xs = ob''.xs ∧ ob'.live = ob''.live ∧ (l = l' → ob'.wr = false) ∧ (l ≠ l' → ob' = ob'') := by
      intro l' ob' h'
      unfold unwr at h'
      rw [List.getElem?_modify] at h'
      simp only [Option.map_eq_map, Option.map_eq_some_iff] at h'
      obtain ⟨ob'', h1, h2⟩ := h'
      refine ⟨ob'', h1, ?_⟩
      by_cases e : l = l'
      · simp only [e, if_true] at h2; subst h2; simp [e]
      · simp only [e, if_false] at h2; subst h2; simp [e]
    have hS : ∀ b o, St b o → St b o ∨ (β l = some b ∧ o < ob.xs.length * ob.sz) := fun b o hbo => .inl hbo
    have hr : ∀ l' u, RefR w s.st β l' u → RefR w (unwr s.st l) β l' u := fun l' u hu => (RefR_unwr l' u).2 hu
    have hp' : ∀ l' i off u, AVR w St s.st β (.lp l' i off) u → AVR w (fun b o => St b o ∨ (β l = some b ∧ o < ob.xs.length * ob.sz)) (unwr s.st l) β (.lp l' i off) u := by
      intro l' i off u hu
      simp only [AVR] at hu ⊢
      cases hq : (unwr s.st l)[l']? with
      | none =>
        unfold unwr at hq
        rw [List.getElem?_modify] at hq
        simp only [Option.map_eq_map, Option.map_eq_none_iff] at hq
        simp [hq] at hu
      | some ob' =>
        obtain ⟨ob'', h1, _, h3, _, h5, _⟩ := hget l' ob' hq
        simp only [h1] at hu
        simpa [h3, h5] using hu
    exact {
      defers := h.defers
      size := h.size
      env := fun i => AVR.mono hS (fun _ _ _ => rfl) hr hp' _ _ (h.env i)
      below := h.below
      st0 := fun b o hbo => .inl (h.st0 b o hbo)
      stOld := fun b o hbo hlt hno => by
        rcases hbo with hbo | ⟨hβ, _⟩
        · exact h.stOld b o hbo hlt hno
        · rcases (h.obs l ob b hl1 hlive hβ).1 with h' | h'
          · omega
          · exact absurd h' hno
      stIn := fun b o hbo => by
        rcases hbo with hbo | ⟨hβ, _⟩
        · exact h.stIn b o hbo
        · exact (h.obs l ob b hl1 hlive hβ).2.1
      obs := fun l' ob' b hl' hlive' hβ => by
        obtain ⟨ob'', h1, h2, h3, h4, h5, _⟩ := hget l' ob' hl'
        obtain ⟨h6, h7, h8⟩ := h.obs l' ob'' b h1 (by rw [← h5]; exact hlive') hβ
        refine ⟨h6, h7, ?_⟩
        obtain ⟨cs, g1, g2, g3⟩ := ObR.mono hS (fun _ _ _ => rfl) hr rfl h8
        exact ⟨cs, by rw [h2]; exact g1, by rw [h4, h3]; exact g2, by rw [h4]; exact g3⟩
      nil := fun l' ob' hl' hlive' hβ => by
        obtain ⟨ob'', h1, _, _, h4, h5, _⟩ := hget l' ob' hl'
        rw [h4]; exact h.nil l' ob'' h1 (by rw [← h5]; exact hlive') hβ
      inj := fun l1 l2 o1 o2 b h1 h2 h3 h4 h5 h6 => by
        obtain ⟨p1, q1, _, _, _, r1, _⟩ := hget l1 o1 h1
        obtain ⟨p2, q2, _, _, _, r2, _⟩ := hget l2 o2 h2
        exact h.inj l1 l2 p1 p2 b q1 q2 (by rw [← r1]; exact h3) (by rw [← r2]; exact h4) h5 h6
      sep := fun l' ob' b o hl' hlive' hβ hbo => by
        obtain ⟨ob'', h1, _, h3, h4, h5, h6, h7⟩ := hget l' ob' hl'
        rcases hbo with hbo | ⟨hβl, ho⟩
        · have := h.sep l' ob'' b o h1 (by rw [← h5]; exact hlive') hβ hbo
          rw [h3, h4]
          by_cases e : l = l'
          · exact ⟨h6 e, this.2⟩
          · rw [h7 e]; exact this
        · have e : l = l' := h.inj l l' ob ob'' b hl1 h1 hlive (by rw [← h5]; exact hlive') hβl hβ
          subst e
          rw [hl1] at h1
          simp only [Option.some.injEq] at h1
          subst h1
          rw [h3, h4]
          exact ⟨h6 rfl, ho⟩
      own := by
        refine h.own.move id (fun x hx => ⟨⟨hx.1, hx.2.1, hx.2.2.1, fun o ho => ?_, fun l' o' hl' hlv => by
          obtain ⟨o2, g1, _, _, _, g5, _⟩ := hget l' o' hl'
          exact hx.2.2.2.2 l' o2 g1 (by rw [← g5]; exact hlv)⟩, rfl⟩) hS (fun _ _ _ => rfl) (fun l' ob' b k c h1 h2 h3 h4 h5 => ?_) (fun _ _ _ _ _ _ _ _ e => e)
        · rcases ho with ho | ⟨hβ, _⟩
          · exact hx.2.2.2.1 o ho
          · exact hx.2.2.2.2 l ob hl1 hlive hβ
        · obtain ⟨ob'', g1, _, _, g4, g5, _⟩ := hget l' ob' h1
          exact ⟨ob'', b, g1, by rw [← g5]; exact h2, h3, by rw [← g4]; exact h4, rfl⟩ }
  · intro u hu
    unfold RefR at hu
    simp only [hl1] at hu
    have hu2 := hu.2 hlive
    cases hβ : β l with
    | none =>
      simp only [hβ] at hu2
      obtain ⟨rfl, hx⟩ := hu2
      simp only [RdD]
      exact ⟨none, 0, by simp [hx], by simp [hx], by simp [maxLen], ⟨0, by simp [hx]⟩, .inl hx⟩
    | some b =>
      simp only [hβ] at hu2
      obtain ⟨cap, cs, rfl, h2, h3, h4, h5⟩ := hu2
      obtain ⟨_, _, cs', g1, g2, g3⟩ := h.obs l ob b hl1 hlive hβ
      simp only [RdD]
      refine ⟨some ⟨b, 0, none⟩, cap, rfl, h2, h3, ⟨ob.sz, g2⟩, .inr ⟨b, 0, rfl, ?_⟩⟩
      refine RdE.mk ob.sz g2 fun i x hi => RdL.mk fun j c hj => ?_
      have hf := flatten_at g2 i j x c hi hj
      obtain ⟨v, hv, hc⟩ := g3 _ c hf
      have hlt : i * ob.sz + j < ob.xs.length * ob.sz := by
        rw [← flatten_len g2]
        rcases Nat.lt_or_ge (i * ob.sz + j) ob.xs.flatten.length with h' | h'
        · exact h'
        · simp [List.getElem?_eq_none h'] at hf
      have hpc : pureC c = true := by
        have h1 : pureL x = true := List.all_eq_true.1 hp x (List.mem_of_getElem? hi)
        exact List.all_eq_true.1 h1 c (List.mem_of_getElem? hj)
      refine ⟨.inr ⟨rfl, by omega⟩, v, ?_, ?_⟩
      · rw [World.cell?, g1]
        simp only [Option.isSome_none, Bool.false_eq_true, if_false]
        rw [show 0 + i * ob.sz + j = i * ob.sz + j by omega]; exact hv
      · exact RdD.mono (fun b o hbo => .inl hbo) (fun _ _ _ => rfl) _ _ (pureC_rd hpc (hc.toC (pureC_notOw hpc)))

end Go.Vm
