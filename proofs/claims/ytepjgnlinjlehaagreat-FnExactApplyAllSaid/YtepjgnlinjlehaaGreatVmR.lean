/- The value machine, part R: a region that draws its order, by the order of the text. -/
import Derived.Test.YtepjgnlinjlehaaGreatVmQ
namespace Go.Vm
set_option linter.unusedSimpArgs false
set_option linter.unusedVariables false
open Go.RowKit

variable {P : Program} {w0 : Bs} {St0 St : Nat → Nat → Prop} {β : Nat → Option Nat} {s : MS} {a : Act} {w : World}

/-- Does a guard let the operation run? (none: not known) -/
def gdA (ops : Array Oper) (env : List (Nat × AV)) (g : Option (Nat × Bool)) : Option Bool := match g with
  | none => some true
  | some (j, want) => match (ops[j]?).bind (·.dst) with
    | some d => match eget env d with
      | .c (.v (.bool t)) => some (t == want)
      | .undef => some false
      | _ => none
    | none => some false

theorem gdA_ok (h : Core w0 St0 St β s a w) {ops : Array Oper} {o : Oper} {b : Bool} (hg : gdA ops s.env o.guard = some b) : Region.wanted o (yielded ops a.tmps) = b := by
  unfold gdA at hg
  unfold Region.wanted
  split at hg
  · rename_i hn
    simp only [Option.some.injEq] at hg
    subst hg
    simp [hn]
  · rename_i j want hn
    simp only [hn]
    unfold yielded
    split at hg
    · rename_i d hd
      rw [hd]
      have henv := h.env d
      split at hg
      · rename_i t hev
        simp only [Option.some.injEq] at hg
        subst hg
        rw [hev] at henv
        obtain ⟨hv, _⟩ := v_ok henv
        have hlt : d < a.tmps.size := by
          rcases Nat.lt_or_ge d a.tmps.size with h' | h'
          · exact h'
          · simp [h', undef] at hv
        have : a.tmps[d]? = some (.bool t) := by
          simp [hlt] at hv ⊢
          exact hv
        simp only [Option.bind_some, this]
        cases t <;> cases want <;> rfl
      · rename_i hev
        simp only [Option.some.injEq] at hg
        subst hg
        rw [hev] at henv
        simp only [AVR] at henv
        simp only [Option.bind_some]
        cases hq : a.tmps[d]? with
        | none => simp
        | some v =>
          have : v = undef := by simpa [hq] using henv
          subst this
          simp [undef]
      · cases hg
    · rename_i hd
      simp only [Option.some.injEq] at hg
      subst hg
      simp [hd]

/-- Two ways, by a Bool. -/
def CondK (b : Bool) (x y : Prop) : Prop := (b = true → x) ∧ (b = false → y)
theorem CondK_true {x y : Prop} : CondK true x y = x := by simp [CondK]
theorem CondK_false {x y : Prop} : CondK false x y = y := by simp [CondK]
theorem CondK.mk {b : Bool} {x y : Prop} (h1 : b = true → x) (h2 : b = false → y) : CondK b x y := ⟨h1, h2⟩

/-- What goes on behind a value that must be there. -/
def bindO (x : Option (AV × List Ob)) (K : AV → List Ob → Prop) : Prop := match x with
  | some (y, st) => K y st
  | none => False
def bindF (x : Option (List AV × List Ob)) (K : List AV → List Ob → Prop) : Prop := match x with
  | some (y, st) => K y st
  | none => False
def bindB (x : Option Bool) (K : Bool → Prop) : Prop := match x with
  | some b => K b
  | none => False
def boolK (x : AV) (K : Bool → Prop) : Prop := match x with
  | .c (.v (.bool b)) => K b
  | _ => False
theorem bindO_some {y : AV} {st : List Ob} {K : AV → List Ob → Prop} : bindO (some (y, st)) K = K y st := rfl
theorem bindF_some {y : List AV} {st : List Ob} {K : List AV → List Ob → Prop} : bindF (some (y, st)) K = K y st := rfl
theorem bindB_some {b : Bool} {K : Bool → Prop} : bindB (some b) K = K b := rfl
theorem boolK_bool {b : Bool} {K : Bool → Prop} : boolK (.c (.v (.bool b))) K = K b := rfl

/-- The order of the text. -/
def DrK (P : Program) (s : MS) (o : Op) (K : AV → Prop) : Prop := ∃ r, drStep P s o r ∧ K r
def drPut (s : MS) (dst : Option Nat) (K : MS → Prop) (r : AV) : Prop := K (s.put dst r)
def gD (P : Program) (o : Oper) (K : MS → Prop) (s : MS) (b : Bool) : Prop := CondK b (DrK P s o.op (drPut s o.dst K)) (K (s.put o.dst .undef))
theorem gD_true {P : Program} {o : Oper} {K : MS → Prop} {s : MS} : gD P o K s true = DrK P s o.op (drPut s o.dst K) := CondK_true
theorem gD_false {P : Program} {o : Oper} {K : MS → Prop} {s : MS} : gD P o K s false = K (s.put o.dst .undef) := CondK_false
theorem gD.mk {P : Program} {o : Oper} {K : MS → Prop} {s : MS} {b : Bool} (h1 : b = true → DrK P s o.op (drPut s o.dst K)) (h2 : b = false → K (s.put o.dst .undef)) : gD P o K s b := CondK.mk h1 h2
def vpD (P : Program) (ops : Array Oper) (K : MS → Prop) : List Oper → MS → Prop
  | [], s => K s
  | o :: rest, s => bindB (gdA ops s.env o.guard) (gD P o (vpD P ops K rest) s)

/-- What may be asked of a region, by its text alone: what one operation writes, another that reads or writes it is ordered with. -/
def bindsTo (o : Oper) (i : Nat) : Bool := o.after.any fun e => e.on == i && Region.binds .any e
def readsT (ops : Array Oper) (o : Oper) : List Nat :=
  (o.op.operands.toList.filterMap fun x => match x with | .tmp t => some t | _ => none) ++ (match o.guard with | some (j, _) => ((ops[j]?).bind (·.dst)).toList | none => [])
def drawPair (ops : Array Oper) (i j : Nat) : Bool := match ops[i]?, ops[j]? with
  | some oi, some oj => match oi.dst with
    | some d => (i == j || oj.dst != some d) && (i == j || !(readsT ops oj).contains d || (if i < j then bindsTo oj i else bindsTo oi j))
    | none => true
  | _, _ => true
def drawOk (n : Nat) (ops : Array Oper) : Bool :=
  ((List.range ops.size).all fun i => (List.range ops.size).all fun j => drawPair ops i j) &&
  ((List.range ops.size).all fun i => match ops[i]? with | some o => (o.after.all fun e => !Region.binds .any e || e.on < i) && (match o.dst with | some d => d < n | none => true) | none => true)

theorem Core.congr (h : Core w0 St0 St β s a w) {s' : MS} (hn : s'.n = s.n) (hst : s'.st = s.st) (he : ∀ t, eget s'.env t = eget s.env t) : Core w0 St0 St β s' a w := {
  defers := h.defers
  size := by rw [hn]; exact h.size
  env := fun i => by rw [he, hst]; exact h.env i
  below := h.below, st0 := h.st0, stOld := h.stOld, stIn := h.stIn
  obs := by rw [hst]; exact h.obs
  nil := by rw [hst]; exact h.nil
  inj := by rw [hst]; exact h.inj
  sep := by rw [hst]; exact h.sep
  own := by rw [hst]; exact h.own }

section draw
variable (ops : Array Oper) (R : Nat → AV)

/-- The environment when the operations in X have run. -/
def envX (env : List (Nat × AV)) (X : Nat → Bool) : Nat → List (Nat × AV)
  | 0 => env
  | k + 1 => match (ops[k]?).bind (·.dst) with
    | some d => if X k then (d, R k) :: envX env X k else envX env X k
    | none => envX env X k

variable {ops R}
theorem envX_hit {env : List (Nat × AV)} {X : Nat → Bool} (hd : ∀ (i j d : Nat), (ops[i]?).bind (·.dst) = some d → (ops[j]?).bind (·.dst) = some d → i = j) {i d : Nat} (hi : (ops[i]?).bind (·.dst) = some d) (hX : X i = true) :
    ∀ k, i < k → eget (envX ops R env X k) d = R i
  | 0, h => by omega
  | k + 1, h => by
    simp only [envX]
    rcases Nat.lt_or_ge i k with h' | h'
    · have ih := envX_hit (env := env) (X := X) hd hi hX k h'
      split
      · rename_i d' hk
        split
        · simp only [eget]
          by_cases e : d' = d
          · subst e
            have := hd i k d' hi hk
            omega
          · simp only [e, if_false]; exact ih
        · exact ih
      · exact ih
    · have : i = k := by omega
      subst this
      simp only [hi, hX, if_true, eget]
theorem envX_miss {env : List (Nat × AV)} {X : Nat → Bool} {d : Nat} : ∀ k, (∀ (i : Nat), i < k → (ops[i]?).bind (·.dst) = some d → X i = false) → eget (envX ops R env X k) d = eget env d
  | 0, _ => rfl
  | k + 1, hm => by
    have ih := envX_miss (env := env) (X := X) k (fun i hi => hm i (by omega))
    simp only [envX]
    split
    · rename_i d' hk
      split
      · rename_i hx
        simp only [eget]
        by_cases e : d' = d
        · subst e
          have := hm k (by omega) hk
          rw [hx] at this; cases this
        · simp only [e, if_false]; exact ih
      · exact ih
    · exact ih
end draw

theorem drawOk_pair {n : Nat} {ops : Array Oper} (h : drawOk n ops = true) {i j : Nat} (hi : i < ops.size) (hj : j < ops.size) : drawPair ops i j = true := by
  simp only [drawOk, Bool.and_eq_true] at h
  have := List.all_eq_true.1 h.1 i (List.mem_range.2 hi)
  exact List.all_eq_true.1 this j (List.mem_range.2 hj)
theorem drawOk_dst {n : Nat} {ops : Array Oper} (h : drawOk n ops = true) : ∀ (i j d : Nat), (ops[i]?).bind (·.dst) = some d → (ops[j]?).bind (·.dst) = some d → i = j := by
  intro i j d hi hj
  cases hoi : ops[i]? with
  | none => simp [hoi] at hi
  | some oi =>
    cases hoj : ops[j]? with
    | none => simp [hoj] at hj
    | some oj =>
      simp only [hoi, hoj, Option.bind_some] at hi hj
      have := drawOk_pair h (Array.getElem?_eq_some_iff.1 hoi).1 (Array.getElem?_eq_some_iff.1 hoj).1
      simp only [drawPair, hoi, hoj, hi, Bool.and_eq_true, Bool.or_eq_true, beq_iff_eq, bne_iff_ne] at this
      rcases this.1 with h1 | h1
      · exact h1
      · exact absurd hj h1
/-- j reads what i writes: then they are ordered, the one way or the other. -/
theorem drawOk_read {n : Nat} {ops : Array Oper} (h : drawOk n ops = true) {i j d : Nat} {oi oj : Oper} (hoi : ops[i]? = some oi) (hoj : ops[j]? = some oj) (hd : oi.dst = some d) (hr : d ∈ readsT ops oj) (hne : i ≠ j) :
    (i < j → bindsTo oj i = true) ∧ (j < i → bindsTo oi j = true) := by
  have := drawOk_pair h (Array.getElem?_eq_some_iff.1 hoi).1 (Array.getElem?_eq_some_iff.1 hoj).1
  simp only [drawPair, hoi, hoj, hd, Bool.and_eq_true, Bool.or_eq_true, beq_iff_eq, bne_iff_ne] at this
  have h2 : (readsT ops oj).contains d = true := List.contains_iff_mem.2 hr
  rcases this.2 with (h1 | h1) | h1
  · exact absurd h1 hne
  · simp [h2] at h1
    exact absurd hr h1
  · refine ⟨fun hlt => ?_, fun hlt => ?_⟩
    · rw [if_pos hlt] at h1; exact h1
    · rw [if_neg (by omega)] at h1; exact h1
theorem drawOk_after {n : Nat} {ops : Array Oper} (h : drawOk n ops = true) {i : Nat} {o : Oper} (ho : ops[i]? = some o) : (∀ e ∈ o.after, Region.binds .any e = true → e.on < i) ∧ ∀ d, o.dst = some d → d < n := by
  simp only [drawOk, Bool.and_eq_true] at h
  have := List.all_eq_true.1 h.2 i (List.mem_range.2 (Array.getElem?_eq_some_iff.1 ho).1)
  simp only [ho, Bool.and_eq_true] at this
  refine ⟨fun e he hb => ?_, fun d hd => ?_⟩
  · have := Array.all_eq_true'.1 this.1 e he
    simpa [hb] using this
  · have h2 := this.2
    simp only [hd] at h2
    simpa using h2
theorem bindsTo_listed {o : Oper} {i : Nat} {listed : Array Bool} (h : bindsTo o i = true) (hall : ∀ e ∈ o.after, Region.binds .any e = true → listed.getD e.on false = true) : listed.getD i false = true := by
  unfold bindsTo at h
  rw [Array.any_eq_true'] at h
  obtain ⟨e, he, h2⟩ := h
  simp only [Bool.and_eq_true, beq_iff_eq] at h2
  rw [← h2.1]
  exact hall e he h2.2

/-- Read off the walk of the text: the value of each operation. -/
theorem vpD_values {n : Nat} {ops : Array Oper} {K : MS → Prop} (hok : drawOk n ops = true) (hn : s.n = n) : ∀ (l : List Oper) (k : Nat) (R0 : Nat → AV), (∀ j, l[j]? = ops[k + j]?) → k + l.length = ops.size →
    vpD P ops K l ⟨s.n, envX ops R0 s.env (fun i => decide (i < k)) k, s.st⟩ →
    ∃ R : Nat → AV, (∀ i, i < k → R i = R0 i) ∧ K ⟨s.n, envX ops R s.env (fun _ => true) ops.size, s.st⟩ ∧
      ∀ (i : Nat) (o : Oper), k ≤ i → ops[i]? = some o → ∃ b, gdA ops (envX ops R s.env (fun _ => true) i) o.guard = some b ∧ (b = true → drStep P ⟨s.n, envX ops R s.env (fun _ => true) i, s.st⟩ o.op (R i)) ∧ (b = false → R i = .undef)
  | [], k, R0, hl, hk, h => by
    simp only [List.length_nil, Nat.add_zero] at hk
    simp only [vpD] at h
    refine ⟨R0, fun _ _ => rfl, ?_, fun i o hi ho => ?_⟩
    · have key : ∀ m, m ≤ k → envX ops R0 s.env (fun i => decide (i < k)) m = envX ops R0 s.env (fun _ => true) m := by
        intro m
        induction m with
        | zero => intro _; rfl
        | succ m ih =>
          intro hm
          have hmk : m < k := by omega
          simp only [envX, ih (by omega), hmk, decide_true]
      rw [← hk, ← key k (Nat.le_refl _)]; exact h
    · have := (Array.getElem?_eq_some_iff.1 ho).1
      omega
  | o :: l, k, R0, hl, hk, h => by
    have ho : ops[k]? = some o := by simpa using (hl 0).symm
    have key : ∀ (R1 : Nat → AV) (m : Nat), m ≤ k → envX ops R1 s.env (fun i => decide (i < k)) m = envX ops R1 s.env (fun _ => true) m := by
      intro R1 m
      induction m with
      | zero => intro _; rfl
      | succ m ih =>
        intro hm
        have hmk : m < k := by omega
        simp only [envX, ih (by omega), hmk, decide_true]
    have keyR : ∀ (R1 R2 : Nat → AV) (m : Nat), (∀ i, i < m → R1 i = R2 i) → envX ops R1 s.env (fun _ => true) m = envX ops R2 s.env (fun _ => true) m := by
      intro R1 R2 m
      induction m with
      | zero => intro _; rfl
      | succ m ih =>
        intro hm
        simp only [envX, ih (fun i hi => hm i (by omega)), hm m (by omega)]
    simp only [vpD, bindB, gD, drPut] at h
    -- one step, with value r
    have step : ∀ r : AV, vpD P ops K l (MS.put ⟨s.n, envX ops R0 s.env (fun i => decide (i < k)) k, s.st⟩ o.dst r) →
        ∃ R : Nat → AV, (∀ i, i < k → R i = R0 i) ∧ R k = r ∧ K ⟨s.n, envX ops R s.env (fun _ => true) ops.size, s.st⟩ ∧
          ∀ (i : Nat) (o : Oper), k + 1 ≤ i → ops[i]? = some o → ∃ b, gdA ops (envX ops R s.env (fun _ => true) i) o.guard = some b ∧ (b = true → drStep P ⟨s.n, envX ops R s.env (fun _ => true) i, s.st⟩ o.op (R i)) ∧ (b = false → R i = .undef) := by
      intro r hr
      have e1 : MS.put ⟨s.n, envX ops R0 s.env (fun i => decide (i < k)) k, s.st⟩ o.dst r = ⟨s.n, envX ops (fun i => if i = k then r else R0 i) s.env (fun i => decide (i < k + 1)) (k + 1), s.st⟩ := by
        have key2 : ∀ m, m ≤ k → envX ops (fun i => if i = k then r else R0 i) s.env (fun i => decide (i < k + 1)) m = envX ops R0 s.env (fun i => decide (i < k)) m := by
          intro m
          induction m with
          | zero => intro _; rfl
          | succ m ih =>
            intro hm
            have h1 : m < k := by omega
            have h2 : m < k + 1 := by omega
            have h3 : ¬ m = k := by omega
            simp only [envX, ih (by omega), h1, h2, h3, decide_true, if_false]
        simp only [envX, ho, Option.bind_some, key2 k (Nat.le_refl _)]
        cases hd : o.dst with
        | none => simp only [MS.put]
        | some d =>
          have := (drawOk_after hok ho).2 d hd
          have h2 : k < k + 1 := by omega
          simp [MS.put, hn, this, h2]
      rw [e1] at hr
      obtain ⟨R, h1, h2, h3⟩ := vpD_values hok hn l (k + 1) _ (fun j => by
        have := hl (j + 1)
        simpa [Nat.add_assoc, Nat.add_comm 1 j] using this) (by simp only [List.length_cons] at hk; omega) hr
      exact ⟨R, fun i hi => by rw [h1 i (by omega)]; simp; omega, by rw [h1 k (by omega)]; simp, h2, h3⟩
    split at h
    · rename_i b hb
      cases b with
      | true =>
        obtain ⟨r, hr1, hr2⟩ := h.1 rfl
        obtain ⟨R, h1, h2, h3, h4⟩ := step r hr2
        refine ⟨R, h1, h3, fun i o' hi ho' => ?_⟩
        rcases Nat.lt_or_ge k i with h' | h'
        · exact h4 i o' (by omega) ho'
        · have : i = k := by omega
          subst this
          rw [ho] at ho'
          simp only [Option.some.injEq] at ho'
          subst ho'
          rw [key R0 i (Nat.le_refl _), keyR R0 R i (fun j hj => (h1 j hj).symm)] at hb
          rw [key R0 i (Nat.le_refl _), keyR R0 R i (fun j hj => (h1 j hj).symm)] at hr1
          exact ⟨true, hb, fun _ => by rw [h2]; exact hr1, by simp⟩
      | false =>
        obtain ⟨R, h1, h2, h3, h4⟩ := step _ (h.2 rfl)
        refine ⟨R, h1, h3, fun i o' hi ho' => ?_⟩
        rcases Nat.lt_or_ge k i with h' | h'
        · exact h4 i o' (by omega) ho'
        · have : i = k := by omega
          subst this
          rw [ho] at ho'
          simp only [Option.some.injEq] at ho'
          subst ho'
          rw [key R0 i (Nat.le_refl _), keyR R0 R i (fun j hj => (h1 j hj).symm)] at hb
          exact ⟨false, hb, by simp, fun _ => h2⟩
    · exact h.elim

end Go.Vm
