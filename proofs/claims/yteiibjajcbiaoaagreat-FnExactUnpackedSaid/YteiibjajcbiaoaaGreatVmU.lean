/- The value machine, part U: a contract out of the machine's walk. -/
import Derived.Test.YteiibjajcbiaoaaGreatVmT
namespace Go.Vm
set_option linter.unusedSimpArgs false
set_option linter.unusedVariables false
open Go.RowKit

variable {P : Program} {w0 : World} {St0 St : Nat → Nat → Prop} {β : Nat → Option Nat} {s : MS} {a : Act} {w : World}

/-- What the result variables hold. -/
def retsA (P : Program) (s : MS) : List ResultVar → Option (List AV)
  | [] => some []
  | .tmp t :: r => match retsA P s r with
    | some xs => some (eget s.env t :: xs)
    | none => none
  | .cell t T :: r => match opF P s (.load T (.tmp t)), retsA P s r with
    | some x, some xs => some (x :: xs)
    | _, _ => none

def OwnsR (st : List Ob) : List AV → List Res → List Nat → Prop
  | [], [], _ => True
  | _ :: xs, .val _ :: rs, us => OwnsR st xs rs us
  | x :: xs, .own ty sz ys wr :: rs, us => match x with
    | .c (.ref l) => match obAt st l with
      | some ob => ob.ty = ty ∧ ob.sz = sz ∧ ob.xs = ys ∧ (wr = true → ob.wr = true) ∧ pureE ys = true ∧ l ∉ us ∧ OwnsR st xs rs (l :: us)
      | none => False
    | .c (.v (.slice none 0 0)) => ys = [] ∧ OwnsR st xs rs us
    | _ => False
  | _, _, _ => False
def ValsR (st : List Ob) : List AV → List Res → (List Ob → Prop) → Prop
  | [], [], K => K st
  | x :: xs, .val y :: rs, K => match fzA st x with
    | some (y', st') => y' = y ∧ ValsR st' xs rs K
    | none => False
  | _ :: xs, .own _ _ _ _ :: rs, K => ValsR st xs rs K
  | _, _, _ => False
def Post (P : Program) (vars : List ResultVar) (rs : List Res) (s : MS) : Prop := match retsA P s vars with
  | some xs => ValsR s.st xs rs fun st => OwnsR st xs rs []
  | none => False

theorem AVRs_map {w' : World} {St' : Nat → Nat → Prop} {st st' : List Ob} {β' : Nat → Option Nat} (hA : ∀ x u, AVR w St st β x u → AVR w' St' st' β' x u) : ∀ {xs : List AV} {us : List Value}, AVRs w St st β xs us → AVRs w' St' st' β' xs us
  | [], us, h => by simp only [AVRs] at h ⊢; exact h
  | x :: xs, us, h => by
    simp only [AVRs] at h ⊢
    obtain ⟨y, ys, h1, h2, h3⟩ := h
    exact ⟨y, ys, h1, hA x y h2, AVRs_map hA h3⟩

theorem ValsR_ok : ∀ (xs : List AV) (rs : List Res) (us : List Value) (st : List Ob) (St : Nat → Nat → Prop) (K : List Ob → Prop), Core w0 St0 St β ⟨s.n, s.env, st⟩ a w → AVRs w St st β xs us → ValsR st xs rs K →
    ∃ st' St', K st' ∧ Core w0 St0 St' β ⟨s.n, s.env, st'⟩ a w ∧ (∀ b o, St b o → St' b o) ∧ (∀ x u, AVR w St st β x u → AVR w St' st' β x u) ∧
      (∀ (j : Nat) (y : AV), rs[j]? = some (.val y) → ∃ u, us[j]? = some u ∧ RdA w St' y u)
  | [], rs, us, st, St, K, h, hx, hv => by
    cases rs with
    | nil => exact ⟨st, St, hv, h, fun _ _ h => h, fun _ _ h => h, fun j y hj => by simp at hj⟩
    | cons r rs => cases r <;> simp [ValsR] at hv
  | x :: xs, rs, us, st, St, K, h, hx, hv => by
    cases rs with
    | nil => simp [ValsR] at hv
    | cons r rs =>
      simp only [AVRs] at hx
      obtain ⟨u, us', rfl, h1, h2⟩ := hx
      cases r with
      | val y =>
        simp only [ValsR] at hv
        split at hv
        · rename_i y' st1 hf
          obtain ⟨rfl, hv⟩ := hv
          obtain ⟨St1, q1, q2, q3, q4⟩ := fzA_ok h hf
          have hm := lp_mono_of (w := w) (w' := w) (β := β) (St := St) (St' := St1) fun l ob hl => fzA_get hf hl
          have hA : ∀ x u, AVR w St st β x u → AVR w St1 st1 β x u := fun x u hx => AVR.mono q2 (fun _ _ _ => rfl) q3 hm x u hx
          obtain ⟨st', St', r1, r2, r3, r4, r5⟩ := ValsR_ok xs rs us' st1 St1 K q1 (AVRs_map hA h2) hv
          refine ⟨st', St', r1, r2, fun b o hbo => r3 b o (q2 b o hbo), fun x u hx => r4 x u (hA x u hx), fun j z hj => ?_⟩
          cases j with
          | zero =>
            simp only [List.getElem?_cons_zero, Option.some.injEq, Res.val.injEq] at hj
            subst hj
            exact ⟨u, rfl, (q4 u h1).mono r3 (fun _ _ _ => rfl)⟩
          | succ j => simpa using r5 j z (by simpa using hj)
        · exact hv.elim
      | own ty sz ys wr =>
        simp only [ValsR] at hv
        obtain ⟨st', St', r1, r2, r3, r4, r5⟩ := ValsR_ok xs rs us' st St K h h2 hv
        refine ⟨st', St', r1, r2, r3, r4, fun j z hj => ?_⟩
        cases j with
        | zero => simp at hj
        | succ j => simpa using r5 j z (by simpa using hj)

/-- The blocks of the slices that are handed over. -/
theorem OwnsR_ok (h : Core w0 St0 St β s a w) : ∀ (xs : List AV) (rs : List Res) (us : List Value) (used : List Nat), AVRs w St s.st β xs us → OwnsR s.st xs rs used →
    (∀ (j : Nat) (y : AV), rs[j]? = some (.val y) → ∃ u, us[j]? = some u ∧ RdA w St y u) →
    ∃ bs, ResR w St w0.heap.size rs us bs ∧ (∀ (i j b : Nat), bs[i]? = some (some b) → bs[j]? = some (some b) → i = j) ∧
      ∀ (i b : Nat), bs[i]? = some (some b) → ∃ l ob, s.st[l]? = some ob ∧ ob.live = true ∧ β l = some b ∧ l ∉ used
  | [], rs, us, used, hx, ho, hv => by
    cases rs with
    | nil =>
      simp only [AVRs] at hx
      subst hx
      exact ⟨[], ⟨rfl, rfl⟩, fun i j b hi => by simp at hi, fun i b hi => by simp at hi⟩
    | cons r rs => cases r <;> simp [OwnsR] at ho
  | x :: xs, rs, us, used, hx, ho, hv => by
    cases rs with
    | nil => simp [OwnsR] at ho
    | cons r rs =>
      simp only [AVRs] at hx
      obtain ⟨u, us', rfl, h1, h2⟩ := hx
      have hv' : ∀ (j : Nat) (y : AV), rs[j]? = some (.val y) → ∃ u, us'[j]? = some u ∧ RdA w St y u := fun j y hj => by
        simpa using hv (j + 1) y (by simpa using hj)
      have hnd0 : ∀ bs : List (Option Nat), (∀ (i j b : Nat), bs[i]? = some (some b) → bs[j]? = some (some b) → i = j) → ∀ (i j b : Nat), (none :: bs)[i]? = some (some b) → (none :: bs)[j]? = some (some b) → i = j := by
        intro bs hnd i j b hi hj
        cases i with
        | zero => simp at hi
        | succ i =>
          cases j with
          | zero => simp at hj
          | succ j => have := hnd i j b (by simpa using hi) (by simpa using hj); omega
      cases r with
      | val y =>
        obtain ⟨bs, q1, q2, q3⟩ := OwnsR_ok h xs rs us' used h2 ho hv'
        obtain ⟨u2, hu2, hr⟩ := hv 0 y rfl
        simp only [List.getElem?_cons_zero, Option.some.injEq] at hu2
        subst hu2
        refine ⟨none :: bs, ⟨u, us', none, bs, rfl, rfl, ⟨hr, rfl⟩, q1⟩, hnd0 bs q2, fun i b hi => ?_⟩
        cases i with
        | zero => simp at hi
        | succ i => exact q3 i b (by simpa using hi)
      | own ty sz ys wr =>
        simp only [OwnsR] at ho
        split at ho
        · rename_i l
          split at ho
          · rename_i ob hob
            obtain ⟨rfl, rfl, rfl, hwr, hp, hnu, ho⟩ := ho
            obtain ⟨hl, hlive⟩ := obAt_some hob
            obtain ⟨bs, q1, q2, q3⟩ := OwnsR_ok h xs rs us' (l :: used) h2 ho hv'
            simp only [AVR, RdC, RefR, hl] at h1
            have h1' := h1.2 hlive
            cases hβ : β l with
            | none =>
              simp only [hβ] at h1'
              refine ⟨none :: bs, ⟨u, us', none, bs, rfl, rfl, h1', q1⟩, hnd0 bs q2, fun i b hi => ?_⟩
              cases i with
              | zero => simp at hi
              | succ i =>
                obtain ⟨l2, ob2, k1, k2, k3, k4⟩ := q3 i b (by simpa using hi)
                exact ⟨l2, ob2, k1, k2, k3, fun hm => k4 (by simp [hm])⟩
            | some b0 =>
              simp only [hβ] at h1'
              obtain ⟨cap, cs, e1, e2, e3, e4, e5⟩ := h1'
              obtain ⟨g1, g2, cs', g3, g4, g5⟩ := h.obs l ob b0 hl hlive hβ
              rw [e4] at g3
              simp only [Option.some.injEq, Obj.cells.injEq, and_true] at g3
              subst g3
              refine ⟨some b0 :: bs, ⟨u, us', some b0, bs, rfl, rfl, ⟨g1, g2, g4, fun o hbo => ?_, cap, cs, e1, e2, e3, e4, e5, fun k c hk => ?_⟩, q1⟩, fun i j b hi hj => ?_, fun i b hi => ?_⟩
              · have := h.sep l ob b0 o hl hlive hβ hbo
                refine ⟨?_, this.2⟩
                cases wr with
                | false => rfl
                | true => rw [hwr rfl] at this; exact this.1
              · obtain ⟨y, hy, hc⟩ := g5 k c hk
                refine ⟨y, hy, pureC_rd ?_ hc⟩
                obtain ⟨x2, hx2, hcx⟩ := List.mem_flatten.1 (List.mem_of_getElem? hk)
                exact List.all_eq_true.1 (List.all_eq_true.1 hp x2 hx2) c hcx
              · have hclash : ∀ m, bs[m]? = some (some b0) → False := fun m hm => by
                  obtain ⟨l2, ob2, k1, k2, k3, k4⟩ := q3 m b0 hm
                  have := h.inj l l2 ob ob2 b0 hl k1 hlive k2 hβ k3
                  exact k4 (by simp [this])
                cases i with
                | zero =>
                  simp only [List.getElem?_cons_zero, Option.some.injEq] at hi
                  subst hi
                  cases j with
                  | zero => rfl
                  | succ j => exact (hclash j (by simpa using hj)).elim
                | succ i =>
                  cases j with
                  | zero =>
                    simp only [List.getElem?_cons_zero, Option.some.injEq] at hj
                    subst hj
                    exact (hclash i (by simpa using hi)).elim
                  | succ j => have := q2 i j b (by simpa using hi) (by simpa using hj); omega
              · cases i with
                | zero =>
                  simp only [List.getElem?_cons_zero, Option.some.injEq] at hi
                  subst hi
                  exact ⟨l, ob, hl, hlive, hβ, hnu⟩
                | succ i =>
                  obtain ⟨l2, ob2, k1, k2, k3, k4⟩ := q3 i b (by simpa using hi)
                  exact ⟨l2, ob2, k1, k2, k3, fun hm => k4 (by simp [hm])⟩
          · exact ho.elim
        · obtain ⟨rfl, ho⟩ := ho
          obtain ⟨bs, q1, q2, q3⟩ := OwnsR_ok h xs rs us' used h2 ho hv'
          obtain ⟨hu, _⟩ := v_ok h1
          refine ⟨none :: bs, ⟨u, us', none, bs, rfl, rfl, ⟨hu, rfl⟩, q1⟩, hnd0 bs q2, fun i b hi => ?_⟩
          cases i with
          | zero => simp at hi
          | succ i => exact q3 i b (by simpa using hi)
        · exact ho.elim

def resVar (tmps : Array Value) : ResultVar → Sem Value
  | .tmp t => pure (tmps.getD t Go.undef)
  | .cell t T => do loadVar T (← asAddr (tmps.getD t Go.undef))
theorem results_eq (fn : Func) (tmps : Array Value) : results fn tmps = (do
    let vs ← fn.results.mapM (resVar tmps)
    pure (if h : vs.size = 1 then vs[0] else .tuple vs)) := by
  unfold results
  congr 1

theorem retsA_ok (h : Core w0 St0 St β s a w) : ∀ (vars : List ResultVar) (xs : List AV), retsA P s vars = some xs →
    ∃ us, AVRs w St s.st β xs us ∧ (vars.mapM (resVar a.tmps)).run P w = .ok us w
  | [], xs, hr => by
    simp only [retsA, Option.some.injEq] at hr
    subst hr
    exact ⟨[], by simp [AVRs], by simp⟩
  | .tmp t :: vars, xs, hr => by
    simp only [retsA] at hr
    split at hr
    · rename_i ys hys
      simp only [Option.some.injEq] at hr
      subst hr
      obtain ⟨us, h1, h2⟩ := retsA_ok h vars ys hys
      refine ⟨a.tmps.getD t Go.undef :: us, by simp only [AVRs]; exact ⟨_, _, rfl, h.env t, h1⟩, ?_⟩
      simp only [List.mapM_cons, resVar, Sem.run_bind, Sem.run_pure, Result.andThen_ok, h2]
    · cases hr
  | .cell t T :: vars, xs, hr => by
    simp only [retsA] at hr
    split at hr
    · rename_i x ys hx hys
      simp only [Option.some.injEq] at hr
      subst hr
      obtain ⟨us, h1, h2⟩ := retsA_ok h vars ys hys
      obtain ⟨v, g1, g2⟩ := opF_ok (P := P) h { dst := none, op := .load T (.tmp t), type := 0, pos := "", after := #[], guard := none } (by simp [Op.operands, opndOk]) hx
      refine ⟨v :: us, by simp only [AVRs]; exact ⟨_, _, rfl, g2, h1⟩, ?_⟩
      have hload : (do loadVar T (← asAddr (a.tmps.getD t Go.undef)) : Sem Value).run P w = .ok v w := by
        simp only [execOp, Act.eval, Instr.loadAt, Sem.run_bind] at g1
        generalize a.tmps.getD t Go.undef = z at g1 ⊢
        cases z with
        | pointer ad =>
          cases ad with
          | none => simp [Instr.sureAddr] at g1
          | some ad =>
            simp only [Instr.sureAddr, Sem.run_pure, Result.andThen_ok, asAddr] at g1 ⊢
            simp only [Sem.run_bind, Sem.run_pure, Result.andThen_ok]
            generalize (loadVar T ad).run P w = r at g1 ⊢
            cases r with
            | ok v2 w2 => simp only [Result.andThen_ok, Result.ok.injEq, Next.value.injEq] at g1; rw [g1.1, g1.2]
            | halt hh w2 => simp at g1
        | _ => simp [Instr.sureAddr] at g1
      have hload' : (resVar a.tmps (.cell t T)).run P w = .ok v w := hload
      simp only [List.mapM_cons, Sem.run_bind, hload', Sem.run_pure, Result.andThen_ok, h2]
    · cases hr

/-- The end of a function. -/
theorem post_ok {fn : Func} {rs : List Res} (hs : Sim w0 St0 s a w) (hp : Post P fn.results.toList rs s) : ∃ us bs St', (results fn a.tmps).run P w = .ok (tupV us) w ∧ a.defers = [] ∧ Back w0 St0 rs (.returned (tupV us)) w us bs St' := by
  obtain ⟨St, β, h⟩ := hs
  unfold Post at hp
  split at hp
  · rename_i xs hxs
    obtain ⟨us, h1, h2⟩ := retsA_ok h fn.results.toList xs hxs
    obtain ⟨st', St', r1, r2, r3, r4, r5⟩ := ValsR_ok xs rs us s.st St _ h h1 hp
    obtain ⟨bs, o1, o2, _⟩ := OwnsR_ok r2 xs rs us [] (AVRs_map r4 h1) r1 r5
    refine ⟨us, bs, St', ?_, h.defers, ⟨rfl, h.below, fun b o hbo => r3 b o (h.st0 b o hbo), r2.stOld, r2.stIn, o1, o2⟩⟩
    rw [results_eq, Sem.run_bind, Array.mapM_eq_mapM_toList, Sem.run_map, h2]
    simp only [Result.andThen_ok, Sem.run_pure]
    congr 1
    match us with
    | [] => rfl
    | [u] => rfl
    | u :: u2 :: us => simp [tupV]
  · exact hp.elim

/-- The start of a function. -/
def envOf : List AV → Nat → List (Nat × AV)
  | [], _ => []
  | x :: xs, k => (k, x) :: envOf xs (k + 1)

theorem eget_envOf : ∀ (xs : List AV) (k i : Nat), eget (envOf xs k) i = if k ≤ i then xs.getD (i - k) .un else .un
  | [], k, i => by simp [envOf, eget]
  | x :: xs, k, i => by
    simp only [envOf, eget, eget_envOf xs (k + 1) i]
    by_cases e : k = i
    · subst e; simp
    · simp only [e, if_false]
      by_cases h : k ≤ i
      · have h1 : k + 1 ≤ i := by omega
        simp only [h, h1, if_true]
        have : i - k = (i - (k + 1)) + 1 := by omega
        rw [this]
        simp
      · have h1 : ¬ k + 1 ≤ i := by omega
        simp [h, h1]

theorem RdAs_at {w : World} {St : Nat → Nat → Prop} : ∀ {xs : List AV} {us : List Value}, RdAs w St xs us → us.length = xs.length ∧ ∀ (j : Nat) (x : AV), xs[j]? = some x → ∃ u, us[j]? = some u ∧ RdA w St x u
  | [], us, h => by simp only [RdAs] at h; subst h; exact ⟨rfl, fun j x hj => by simp at hj⟩
  | x :: xs, us, h => by
    obtain ⟨y, ys, rfl, h1, h2⟩ := h
    obtain ⟨q1, q2⟩ := RdAs_at h2
    refine ⟨by simp [q1], fun j z hj => ?_⟩
    cases j with
    | zero => simp at hj; subst hj; exact ⟨y, rfl, h1⟩
    | succ j => simpa using q2 j z (by simpa using hj)

def EndK (P : Program) (vars : List ResultVar) (rs : List Res) (e : Ex) (s : MS) : Prop := match e with
  | .exit _ => False
  | _ => Post P vars rs s

/-- THE CONTRACT OF A FUNCTION, out of the machine's walk of its text. -/
theorem Ctr.mk {f : FuncId} {fn : Func} {c : Code} {args : List AV} {rs : List Res} (hin : CallsIn P f) (hf : P.funcs[f]? = some fn) (hb : fn.body = some c) (hm : P.follows .mixedOrders = true) {n : Nat} (hn : fn.ntmps = n) {vars : Array ResultVar} (hvars : fn.results = vars) (hc : codeOk n c = true) (hlen0 : Nat.ble args.length n = true)
    (h : WfAs args → vp P c ⟨n, envOf args 0, []⟩ (EndK P vars.toList rs)) : Ctr P f args rs := by
  subst hn
  subst hvars
  have hlen : args.length ≤ fn.ntmps := Nat.le_of_ble_eq_true hlen0
  refine ⟨hin, fun w St vs hSt hrd => ?_⟩
  obtain ⟨hvl, hva⟩ := RdAs_at hrd
  refine calls_of_wp hf hb (wp_mono (vp_ok (w0 := w) (St0 := St) hm fn.ntmps c hc ⟨fn.ntmps, envOf args 0, []⟩ _ { tmps := vs.toArray ++ Array.replicate (fn.ntmps - vs.toArray.size) Go.undef, defers := [] } w rfl (h hrd.wf) ⟨St, fun _ => none, ?_⟩) ?_)
  · exact {
      defers := rfl
      size := by simp; omega
      env := fun i => by
        simp only [eget_envOf, Nat.zero_le, if_true, Nat.sub_zero]
        rcases Nat.lt_or_ge i args.length with hi | hi
        · obtain ⟨u, hu, hr⟩ := hva i args[i] (by simp [hi])
          have e1 : args.getD i .un = args[i] := by simp [hi]
          have e2 : (vs.toArray ++ Array.replicate (fn.ntmps - vs.toArray.size) Go.undef).getD i Go.undef = u := by
            have hiv : i < vs.length := by omega
            simp only [Array.getD_eq_getD_getElem?]
            rw [Array.getElem?_append_left (by simpa using hiv)]
            simp [hu]
          rw [e1, e2]
          exact hr.toAVR
        · have e1 : args.getD i .un = .un := by simp [hi]
          rw [e1]
          simp only [AVR]
      below := Below.refl _ _
      st0 := fun _ _ h => h
      stOld := fun _ _ h _ => h
      stIn := hSt
      obs := fun l ob b hl => by simp at hl
      nil := fun l ob hl => by simp at hl
      inj := fun l l' ob ob' b hl => by simp at hl
      sep := fun l ob b o hl => by simp at hl }
  · rintro e a' w' ⟨ex, s', rfl, hq, _, hs'⟩
    cases ex with
    | exit i => exact hq.elim
    | normal =>
      obtain ⟨us, bs, St', p1, p2, p3⟩ := post_ok hs' hq
      exact ⟨p2, _, p1, us, bs, St', p3⟩
    | ret =>
      obtain ⟨us, bs, St', p1, p2, p3⟩ := post_ok hs' hq
      exact ⟨p2, _, p1, us, bs, St', p3⟩

end Go.Vm
