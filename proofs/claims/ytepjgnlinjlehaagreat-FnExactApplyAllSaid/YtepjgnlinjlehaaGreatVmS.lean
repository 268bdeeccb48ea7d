/- The value machine, part MS: every order that is drawn comes to what the order of the text comes to. -/
import Derived.Test.YtepjgnlinjlehaaGreatVmR
namespace Go.Vm
set_option linter.unusedSimpArgs false
set_option linter.unusedVariables false
open Go.RowKit

variable {P : Program} {w0 : Bs} {St0 St : Nat → Nat → Prop} {β : Nat → Option Nat} {s : MS} {a : Act} {w : World}

theorem Sim.congr {s s' : MS} (h : Sim w0 St0 s a w) (hn : s'.n = s.n) (hst : s'.st = s.st) (he : ∀ t, eget s'.env t = eget s.env t) : Sim w0 St0 s' a w := by
  obtain ⟨St, β, h⟩ := h
  exact ⟨St, β, h.congr hn hst he⟩

theorem gdA_congr {ops : Array Oper} {env env' : List (Nat × AV)} {o : Oper} (h : ∀ t ∈ readsT ops o, eget env' t = eget env t) : gdA ops env' o.guard = gdA ops env o.guard := by
  unfold gdA
  split
  · rfl
  · rename_i j want hg
    split
    · rename_i d hd
      rw [h d (by simp only [readsT, hg, hd, Option.toList]; simp)]
    · rfl

theorem set_getD {listed : Array Bool} {i j : Nat} (hi : i < listed.size) : (listed.setIfInBounds i true).getD j false = if i = j then true else listed.getD j false := by
  by_cases e : i = j
  · subst e; simp [hi]
  · simp only [e, if_false]; exact getD_set_ne false e

theorem ops_ok_spec {ops : Array Oper} (h : (ops.toList.all fun o => o.op.operands.toList.all opndOk) = true) {i : Nat} {o : Oper} (ho : ops[i]? = some o) : o.op.operands.toList.all opndOk = true :=
  List.all_eq_true.1 h o (by
    have := List.mem_of_getElem? (l := ops.toList) (i := i) (by simpa using ho)
    exact this)

theorem draw_any {ops : Array Oper} {n : Nat} (hok : drawOk n ops = true) (hops : (ops.toList.all fun o => o.op.operands.toList.all opndOk) = true) (env : List (Nat × AV)) (st : List Ob) (R : Nat → AV)
    (hR : ∀ (i : Nat) (o : Oper), ops[i]? = some o → ∃ b, gdA ops (envX ops R env (fun _ => true) i) o.guard = some b ∧ (b = true → drStep P ⟨n, envX ops R env (fun _ => true) i, st⟩ o.op (R i)) ∧ (b = false → R i = .undef))
    (Q : Exit → Act → World → Prop) (hQ : ∀ a w, Sim w0 St0 ⟨n, envX ops R env (fun _ => true) ops.size, st⟩ a w → Q .normal a w) :
    ∀ (fuel : Nat) (listed : Array Bool) (a : Act) (w : World), listed.size = ops.size → listed.toList.countP (fun b => !b) ≤ fuel →
      (∀ (i : Nat) (o : Oper), listed.getD i false = true → ops[i]? = some o → ∀ e ∈ o.after, Region.binds .any e = true → listed.getD e.on false = true) →
      Sim w0 St0 ⟨n, envX ops R env (fun i => listed.getD i false) ops.size, st⟩ a w → wpAny P .any ops Q fuel listed a w := by
  have hdst := drawOk_dst hok
  -- all are listed: it is done
  have hall : ∀ (listed : Array Bool) (a : Act) (w : World), (∀ i, i < ops.size → listed.getD i false = true) → Sim w0 St0 ⟨n, envX ops R env (fun i => listed.getD i false) ops.size, st⟩ a w → Q .normal a w := by
    intro listed a w hl hs
    refine hQ a w (hs.congr rfl rfl fun t => ?_)
    have key : ∀ m, m ≤ ops.size → envX ops R env (fun _ => true) m = envX ops R env (fun i => listed.getD i false) m := by
      intro m
      induction m with
      | zero => intro _; rfl
      | succ m ih => intro hm; simp only [envX, ih (by omega), hl m (by omega)]
    rw [key ops.size (Nat.le_refl _)]
  -- none is ready: all are listed
  have hready : ∀ (listed : Array Bool), Region.ready .any ops listed = [] → listed.size = ops.size → ∀ i, i < ops.size → listed.getD i false = true := by
    intro listed hr hsz i
    induction i using Nat.strongRecOn with
    | _ i ih =>
      intro hi
      cases hc : listed.getD i false with
      | true => rfl
      | false =>
        exfalso
        have : i ∈ Region.ready .any ops listed := by
          rw [mem_ready]
          refine ⟨?_, ops[i], by simp [hi], fun e he hb => ?_⟩
          · have hi' : i < listed.size := by omega
            simp [hi'] at hc ⊢
            exact hc
          · have := (drawOk_after hok (i := i) (o := ops[i]) (by simp [hi])).1 e he hb
            exact ih e.on this (by omega)
        rw [hr] at this
        cases this
  intro fuel
  induction fuel with
  | zero =>
    intro listed a w hsz hcnt hcl hs
    have hl : ∀ i, i < ops.size → listed.getD i false = true := by
      intro i hi
      have h0 : listed.toList.countP (fun b => !b) = 0 := by omega
      rw [List.countP_eq_zero] at h0
      have hi' : i < listed.size := by omega
      have := h0 listed[i] (by simp)
      simp [hi'] at this ⊢
      exact this
    refine ⟨?_, hall listed a w hl hs⟩
    apply List.eq_nil_iff_forall_not_mem.2
    intro i hi
    rw [mem_ready] at hi
    obtain ⟨h1, o, ho, _⟩ := hi
    have hi' : i < ops.size := (Array.getElem?_eq_some_iff.1 ho).1
    have h2 := hl i hi'
    have hi2 : i < listed.size := by omega
    simp [hi2] at h1 h2
    rw [h1] at h2; cases h2
  | succ fuel ih =>
    intro listed a w hsz hcnt hcl hs
    refine ⟨fun hr => hall listed a w (hready listed hr hsz) hs, fun i hi => ?_⟩
    rw [mem_ready] at hi
    obtain ⟨hun, o, ho, hafter⟩ := hi
    have hi' : i < ops.size := (Array.getElem?_eq_some_iff.1 ho).1
    have hi2 : i < listed.size := by omega
    have hun' : listed.getD i false = false := by
      simp [hi2] at hun ⊢
      exact hun
    -- what the operation reads is what it reads in the order of the text
    have hread : ∀ t ∈ readsT ops o, eget (envX ops R env (fun i => listed.getD i false) ops.size) t = eget (envX ops R env (fun _ => true) i) t := by
      intro t ht
      by_cases hj : ∃ (j : Nat), (ops[j]?).bind (·.dst) = some t
      · obtain ⟨j, hj⟩ := hj
        cases hoj : ops[j]? with
        | none => simp [hoj] at hj
        | some oj =>
          have hjd : oj.dst = some t := by simpa [hoj] using hj
          have hjs : j < ops.size := (Array.getElem?_eq_some_iff.1 hoj).1
          rcases Nat.lt_trichotomy j i with h1 | h1 | h1
          · have hb := (drawOk_read hok hoj ho hjd ht (by omega)).1 h1
            have hl := bindsTo_listed hb hafter
            rw [envX_hit (X := fun i => listed.getD i false) hdst hj hl ops.size hjs, envX_hit (X := fun _ => true) hdst hj rfl i h1]
          · subst h1
            rw [envX_miss (X := fun i => listed.getD i false) ops.size (fun k _ hk => by have := hdst k j t hk hj; subst this; exact hun'),
              envX_miss (X := fun _ => true) j (fun k hk hkd => by have := hdst k j t hkd hj; omega)]
          · have hb := (drawOk_read hok hoj ho hjd ht (by omega)).2 h1
            have hl : listed.getD j false = false := by
              cases hc : listed.getD j false with
              | false => rfl
              | true =>
                have := bindsTo_listed hb (hcl j oj hc hoj)
                rw [this] at hun'; cases hun'
            rw [envX_miss (X := fun i => listed.getD i false) ops.size (fun k _ hk => by have := hdst k j t hk hj; subst this; exact hl),
              envX_miss (X := fun _ => true) i (fun k hk hkd => by have := hdst k j t hkd hj; omega)]
      · rw [envX_miss (X := fun i => listed.getD i false) ops.size (fun k _ hk => (hj ⟨k, hk⟩).elim), envX_miss (X := fun _ => true) i (fun k _ hk => (hj ⟨k, hk⟩).elim)]
    obtain ⟨b, hb1, hb2, hb3⟩ := hR i o ho
    rw [← gdA_congr hread] at hb1
    obtain ⟨St, β, hcore⟩ := hs
    have hwant := gdA_ok hcore (o := o) hb1
    -- how it goes on
    have hnext : ∀ (r : AV) (a' : Act) (w' : World), r = R i → Sim w0 St0 (MS.put ⟨n, envX ops R env (fun i => listed.getD i false) ops.size, st⟩ o.dst r) a' w' → wpAny P .any ops Q fuel (listed.setIfInBounds i true) a' w' := by
      intro r a' w' hr hsim
      subst hr
      refine ih _ a' w' (by simpa using hsz) ?_ ?_ ?_
      · have hset : (listed.setIfInBounds i true).toList = listed.toList.set i true := by simp
        rw [hset, List.countP_set (by simpa using hi2)]
        have hv : listed.toList[i]'(by simpa using hi2) = false := by simpa [hi2] using hun'
        rw [hv]
        have hpos : 0 < listed.toList.countP (fun b => !b) := List.countP_pos_iff.2 ⟨listed.toList[i]'(by simpa using hi2), List.getElem_mem _, by rw [hv]; rfl⟩
        simp only [Bool.not_false, if_true, Bool.not_true, Bool.false_eq_true, if_false]
        omega
      · intro j oj hj hoj e he hbd
        rw [set_getD hi2] at hj ⊢
        by_cases e1 : i = j
        · subst e1
          rw [ho] at hoj
          simp only [Option.some.injEq] at hoj
          subst hoj
          have := hafter e he hbd
          rw [this]; simp
        · simp only [e1, if_false] at hj
          have := hcl j oj hj hoj e he hbd
          rw [this]; simp
      · refine hsim.congr ?_ ?_ fun t => ?_
        · cases o.dst <;> simp [MS.put]; split <;> rfl
        · cases o.dst <;> simp [MS.put]; split <;> rfl
        · have hX : (fun j => (listed.setIfInBounds i true).getD j false) = fun j => if i = j then true else listed.getD j false := funext fun j => set_getD hi2
          rw [hX]
          cases hd : o.dst with
          | none =>
            simp only [MS.put]
            -- nothing is written
            by_cases hj : ∃ (j : Nat), (ops[j]?).bind (·.dst) = some t
            · obtain ⟨j, hj⟩ := hj
              have hjs : j < ops.size := by
                cases hoj : ops[j]? with
                | none => simp [hoj] at hj
                | some oj => exact (Array.getElem?_eq_some_iff.1 hoj).1
              have hne : i ≠ j := fun e => by subst e; simp [ho, hd] at hj
              cases hl : listed.getD j false with
              | true => rw [envX_hit (X := fun j => if i = j then true else listed.getD j false) hdst hj (by simp only [hne, if_false]; exact hl) ops.size hjs, envX_hit (X := fun j => listed.getD j false) hdst hj hl ops.size hjs]
              | false => rw [envX_miss (X := fun j => if i = j then true else listed.getD j false) ops.size (fun k _ hk => by have := hdst k j t hk hj; subst this; simp only [hne, if_false]; exact hl), envX_miss (X := fun j => listed.getD j false) ops.size (fun k _ hk => by have := hdst k j t hk hj; subst this; exact hl)]
            · rw [envX_miss (X := fun j => if i = j then true else listed.getD j false) ops.size (fun k _ hk => (hj ⟨k, hk⟩).elim), envX_miss (X := fun j => listed.getD j false) ops.size (fun k _ hk => (hj ⟨k, hk⟩).elim)]
          | some d =>
            have hdn := (drawOk_after hok ho).2 d hd
            have hid : (ops[i]?).bind (·.dst) = some d := by simp [ho, hd]
            simp only [MS.put, hdn, if_true, eget]
            by_cases e1 : d = t
            · subst e1
              simp only [if_true]
              rw [envX_hit (X := fun j => if i = j then true else listed.getD j false) hdst hid (by simp) ops.size hi']
            · simp only [e1, if_false]
              by_cases hj : ∃ (j : Nat), (ops[j]?).bind (·.dst) = some t
              · obtain ⟨j, hj⟩ := hj
                have hjs : j < ops.size := by
                  cases hoj : ops[j]? with
                  | none => simp [hoj] at hj
                  | some oj => exact (Array.getElem?_eq_some_iff.1 hoj).1
                have hne : i ≠ j := fun e => by subst e; rw [hid] at hj; exact e1 (Option.some.inj hj)
                cases hl : listed.getD j false with
                | true => rw [envX_hit (X := fun j => if i = j then true else listed.getD j false) hdst hj (by simp only [hne, if_false]; exact hl) ops.size hjs, envX_hit (X := fun j => listed.getD j false) hdst hj hl ops.size hjs]
                | false => rw [envX_miss (X := fun j => if i = j then true else listed.getD j false) ops.size (fun k _ hk => by have := hdst k j t hk hj; subst this; simp only [hne, if_false]; exact hl), envX_miss (X := fun j => listed.getD j false) ops.size (fun k _ hk => by have := hdst k j t hk hj; subst this; exact hl)]
              · rw [envX_miss (X := fun j => if i = j then true else listed.getD j false) ops.size (fun k _ hk => (hj ⟨k, hk⟩).elim), envX_miss (X := fun j => listed.getD j false) ops.size (fun k _ hk => (hj ⟨k, hk⟩).elim)]
    unfold wpOp
    simp only [ho, hwant]
    cases b with
    | true =>
      simp only [if_true]
      left
      have hstep := drStep_congr (P := P) (s := ⟨n, envX ops R env (fun _ => true) i, st⟩) (s' := ⟨n, envX ops R env (fun i => listed.getD i false) ops.size, st⟩) rfl o.op (fun t ht => hread t (by
        simp only [readsT, List.mem_append]
        left
        rw [List.mem_filterMap]
        exact ⟨.tmp t, ht, rfl⟩)) (R i) (hb2 rfl)
      exact Oper.wp_mono (fun a' w' hs => hnext (R i) a' w' rfl hs) (drStep_ok hcore o (ops_ok_spec hops ho) hstep Q)
    | false =>
      simp only [Bool.false_eq_true, if_false]
      refine hnext .undef _ _ (hb3 rfl).symm ⟨St, β, hcore.put o.dst ?_⟩
      simp only [AVR]

/-- THE REGION THAT DRAWS. -/
theorem draw_region (hm : P.follows .mixedOrders = true) {id : Nat} {ops : Array Oper} (hok : drawOk s.n ops = true) (hops : (ops.toList.all fun o => o.op.operands.toList.all opndOk) = true) (h : Core w0 St0 St β s a w) {K : MS → Prop} (hK : vpD P ops K ops.toList s) :
    (Code.region id ops true).wp P (fun e a' w' => e = .normal ∧ ∃ s', K s' ∧ Sim w0 St0 s' a' w') a w := by
  obtain ⟨R, _, hKs, hR⟩ := vpD_values (K := K) hok rfl ops.toList 0 (fun _ => .un) (fun j => by simp) (by simp) (by simpa [envX] using hK)
  refine wp_region_any hm ?_
  have hgrow : Core w0 St0 St β s a { w with drawn := w.drawn + 1 } := h.grow (w' := { w with drawn := w.drawn + 1 }) ⟨rfl, rfl, rfl, Nat.le_refl _, fun _ _ => rfl⟩ (fun _ _ h => h) (fun _ _ h _ => h) h.stIn
  refine draw_any (P := P) (n := s.n) hok hops s.env s.st R (fun i o ho => hR i o (Nat.zero_le _) ho) _ (fun a w hs => ⟨rfl, _, hKs, hs⟩) ops.size (Array.replicate ops.size false) a _ (by simp) ?_ ?_ ?_
  · have : (Array.replicate ops.size false).toList.countP (fun b => !b) ≤ (Array.replicate ops.size false).toList.length := List.countP_le_length
    simpa using this
  · intro i o hi
    have : (Array.replicate ops.size false).getD i false = false := by
      simp [Array.getElem?_replicate]
      split <;> rfl
    rw [this] at hi; cases hi
  · refine ⟨St, β, hgrow.congr rfl rfl fun t => ?_⟩
    rw [envX_miss ops.size (fun k _ _ => by simp [Array.getElem?_replicate]; split <;> rfl)]

end Go.Vm
