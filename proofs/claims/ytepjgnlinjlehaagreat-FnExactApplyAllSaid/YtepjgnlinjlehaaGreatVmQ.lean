/- The value machine, part Q: one operation, in text order and in an order that is drawn. -/
import Derived.Test.YtepjgnlinjlehaaGreatVmY
import Derived.Orders
namespace Go.Vm
set_option linter.unusedSimpArgs false
set_option linter.unusedVariables false
open Go.RowKit

variable {P : Program} {w0 : Bs} {St0 St : Nat → Nat → Prop} {β : Nat → Option Nat} {s : MS} {a : Act} {w : World}

def same (st : List Ob) : Option AV → Option (AV × List Ob)
  | some y => some (y, st)
  | none => none
def opE (P : Program) (s : MS) (o : Op) : Option (AV × List Ob) := match o with
  | .alloc T => allocE P s T
  | .box T x => boxE s T (evA s x)
  | .store T p x => storeE P s T (evA s p) (evA s x)
  | .makeSlice T l c => makeE P s T (evA s l) (evA s c)
  | .buildSlice T len ps => buildSliceE P s T len ps.toList
  | .build T ps => if fieldsOk P T then buildE P s T ps.toList else none
  | .slice T x lo hi none => sliceE P s T (evA s x) lo hi
  | .load T x => match opF P s (.load T x) with
    | some y => some (y, s.st)
    | none => loadO P s T (evA s x)
  | .call c => match c.callee with
    | .builtin .append => match c.args.toList, c.argTypes.toList with
      | [x, y], [T, T'] => if T = T' then appB P s T (evA s x) (evA s y) else none
      | _, _ => none
    | _ => same s.st (opF P s (.call c))
  | op => same s.st (opF P s op)

theorem same_ok {st st' : List Ob} {x : Option AV} {y : AV} (h : same st x = some (y, st')) : x = some y ∧ st' = st := by
  cases x with
  | none => simp [same] at h
  | some z => simp only [same, Option.some.injEq, Prod.mk.injEq] at h; exact ⟨by rw [h.1], h.2.symm⟩

theorem does_of_gives (h : Core w0 St0 St β s a w) {o : Oper} {y : AV} (hg : Gives P a w St s.st β o y) : Does P a w w0 St0 s o y s.st := by
  obtain ⟨v, h1, h2⟩ := hg
  exact ⟨_, v, w, St, β, h1, .inl rfl, h, h2⟩

theorem loadO_ok (h : Core w0 St0 St β s a w) (o : Oper) (T : TypeId) (x : Operand) (ho : o.op = .load T x) (hc : opndOk x = true) {y : AV} {st' : List Ob} (hy : loadO P s T (evA s x) = some (y, st')) : Does P a w w0 St0 s o y st' := by
  have he := evA_ok h x hc
  unfold loadO at hy
  split at hy
  · rename_i l i off hg hev
    split at hy
    · rename_i ob hob
      split at hy
      · rename_i hwr
        split at hy
        · rename_i row hrow
          split at hy
          · rename_i ty sz xs hcell
            simp only [Option.some.injEq, Prod.mk.injEq] at hy
            obtain ⟨rfl, rfl⟩ := hy
            obtain ⟨b, u, β', hb, hu, hcore, href⟩ := h.openCell hob hwr hrow hcell
            rw [hev] at he
            obtain ⟨hl, hlive⟩ := obAt_some hob
            simp only [AVR, hl] at he
            obtain ⟨b2, hb2, hv⟩ := he hlive
            rw [hb] at hb2
            cases hb2
            refine ⟨.value u, u, w, St, β', ?_, .inl rfl, hcore, by simpa only [AVR] using href⟩
            simp [execOp, ho, hv, Instr.loadAt, Instr.sureAddr, loadVar, run_agg hg, hu]
          · cases hy
        · cases hy
      · cases hy
    · cases hy
  · cases hy

theorem opE_ok (h : Core w0 St0 St β s a w) (o : Oper) (hc : o.op.operands.toList.all opndOk = true) {y : AV} {st' : List Ob} (hy : opE P s o.op = some (y, st')) : Does P a w w0 St0 s o y st' := by
  have hF : ∀ {y : AV} {st' : List Ob}, same s.st (opF P s o.op) = some (y, st') → Does P a w w0 St0 s o y st' := fun {y st'} hs => by
    obtain ⟨h1, rfl⟩ := same_ok hs
    exact does_of_gives h (opF_ok h o hc h1)
  cases hop : o.op with
  | alloc T => rw [hop] at hy; exact alloc_ok h o T hop hy
  | load T x =>
    rw [hop] at hy hc
    simp only [opE] at hy
    split at hy
    · rename_i y' hf
      simp only [Option.some.injEq, Prod.mk.injEq] at hy
      obtain ⟨rfl, rfl⟩ := hy
      exact does_of_gives h (opF_ok h o (by rw [hop]; exact hc) (by rw [hop]; exact hf))
    · exact loadO_ok h o T x hop (by simpa [Op.operands] using hc) hy
  | box T x =>
    rw [hop] at hy hc
    exact box_ok h o T x hop (by simpa [Op.operands] using hc) hy
  | store T p x =>
    rw [hop] at hy hc
    simp [Op.operands] at hc
    exact store_ok h o T p x hop hc.1 hc.2 hy
  | makeSlice T l c =>
    rw [hop] at hy hc
    simp [Op.operands] at hc
    exact make_ok h o T l c hop hc.1 hc.2 hy
  | buildSlice T len ps =>
    rw [hop] at hy hc
    exact buildSlice_ok h o T len ps hop (by simpa [Op.operands, Function.comp_def] using hc) hy
  | build T ps =>
    rw [hop] at hy hc
    simp only [opE] at hy
    split at hy
    · rename_i hfo
      exact build_ok h o T ps hop hfo (by simpa [Op.operands, Function.comp_def] using hc) hy
    · cases hy
  | slice T x lo hi mx =>
    cases mx with
    | none =>
      rw [hop] at hy hc
      simp [Op.operands] at hc
      refine slice_ok h o T x lo hi hop hc.1 ?_ ?_ hy
      · cases lo with
        | none => rfl
        | some q => exact hc.2.1 q rfl
      · cases hi with
        | none => rfl
        | some q => exact hc.2.2 q rfl
    | some m => rw [hop] at hy; simp [opE, opF, same] at hy
  | call c =>
    by_cases hap : c.callee = .builtin .append
    · rw [hop] at hy hc
      simp only [opE, hap] at hy
      split at hy
      · rename_i x y2 T T' hca hct
        split at hy
        · rename_i hT
          subst hT
          simp only [Op.operands, Call.operands, Array.toList_append, List.all_append, Bool.and_eq_true, hca] at hc
          simp at hc
          exact appB_ok h o T c x y2 hop hap hca hct hc.2.1 hc.2.2 hy
        · cases hy
      · cases hy
    · rw [hop] at hy
      have : opE P s (.call c) = same s.st (opF P s (.call c)) := by
        simp only [opE]
      rw [this] at hy
      exact hF (by rw [hop]; exact hy)
  | _ => exact hF (by rw [hop] at hy ⊢; exact hy)

/-! ### A call -/
theorem run_call (o : Oper) (c : Call) (f : FuncId) (ho : o.op = .call c) (hcl : c.callee = .value (.func f)) (hin : CallsIn P f) : (execOp a.eval o).run P w = .ok (.enter f (c.args.map a.eval)) w := by
  have := hin (c.args.map a.eval) w
  simp [execOp, ho, resolve, hcl, Act.eval, Deferred.ofValue, invoke, this]

theorem evAs_ok (h : Core w0 St0 St β s a w) : ∀ (xs : List Operand), xs.all opndOk = true → AVRs w St s.st β (xs.map (evA s)) (xs.map a.eval)
  | [], _ => by simp [AVRs]
  | x :: xs, hc => by
    simp only [List.all_cons, Bool.and_eq_true] at hc
    simp only [List.map_cons, AVRs]
    exact ⟨_, _, rfl, evA_ok h x hc.1, evAs_ok h xs hc.2⟩

/-- The state behind a call whose results are values. -/
theorem back_core (h : Core w0 St0 St β s a w) {rs : List Res} {e : Ending} {w' : World} {us : List Value} {bs : List (Option Nat)} {St' : Nat → Nat → Prop} (hb : Back w St rs e w' us bs St') : Core w0 St0 St' β s a w' :=
  h.grow hb.below hb.st hb.stOld hb.stIn

theorem back_own (h : Core w0 St0 St β s a w) {rs : List Res} {e : Ending} {w' : World} {us : List Value} {bs : List (Option Nat)} {St' : Nat → Nat → Prop} (hb : Back w St rs e w' us bs St') : Own w0 (fun x => w.heap.size ≤ x) w' St' s.st β :=
  h.own.grow hb.below hb.st hb.stOld h.stIn (fun l ob b h1 h2 h3 => (h.obs l ob b h1 h2 h3).2.1) (fun x h1 h2 => by omega)

theorem ResR.blk {w w' : World} {St' : Nat → Nat → Prop} : ∀ (rs : List Res) (us : List Value) (bs : List (Option Nat)) (Φs : List (Nat → Nat → Prop)), ResR w' St' w.heap.size rs us bs Φs → ∀ (i b : Nat), bs[i]? = some (some b) → w.heap.size ≤ b := by
  intro rs
  induction rs with
  | nil => intro us bs Φs h i b hi; obtain ⟨_, rfl, _⟩ := h; simp at hi
  | cons r rs ih =>
    intro us bs Φs h i b hi
    obtain ⟨u, us', b0, bs', Φ, Φs', rfl, rfl, rfl, h1, h2⟩ := h
    cases i with
    | succ i => exact ih us' bs' Φs' h2 i b (by simpa using hi)
    | zero =>
      simp only [List.getElem?_cons_zero, Option.some.injEq] at hi
      subst hi
      cases r with
      | val x => exact absurd h1.2 (by simp)
      | own ty sz xs wr => exact h1.1
      | agg cl => exact absurd h1.1 (by simp)
/-- The results of a call, as objects. -/
theorem back_res (h : Core w0 St0 St β s a w) {rs : List Res} {e : Ending} {w' : World} {us : List Value} {bs : List (Option Nat)} {St' : Nat → Nat → Prop} (hb : Back w St rs e w' us bs St') :
    ∃ β', Core w0 St0 St' β' ⟨s.n, s.env, (resA s.st rs).2⟩ a w' ∧ AVRs w' St' (resA s.st rs).2 β' (resA s.st rs).1 us := by
  obtain ⟨Φs, hr, hf⟩ := hb.res
  have hfr : ∀ x, w.heap.size ≤ x → ∀ l o2, s.st[l]? = some o2 → o2.live = true → β l ≠ some x := fun x hx l o2 hl hlv hβ => by
    have := (h.obs l o2 x hl hlv hβ).2.1
    omega
  obtain ⟨β', q1, q2, _⟩ := resA_ok w.heap.size rs us bs Φs s.st β (fun x => w.heap.size ≤ x) (back_core h hb) h.below.size (back_own h hb) hr hf
    (fun i b hi => ⟨ResR.blk rs us bs Φs hr i b hi, hfr b (ResR.blk rs us bs Φs hr i b hi)⟩) (fun i Φ k x hi hx => ⟨(hf.fresh i Φ k x hi hx).1, hfr x (hf.fresh i Φ k x hi hx).1⟩)
  exact ⟨β', q1, q2⟩

/-! ### An order that is drawn -/
/-- What one operation comes to, where the order is drawn: the objects stay as they are. -/
def drStep (P : Program) (s : MS) (o : Op) (r : AV) : Prop := match o with
  | .call c => match c.callee with
    | .value (.func f) => ∃ args rs, (fzAs s.st (c.args.toList.map (evA s)) = some (args, s.st) ∨ (borAs s.st (c.args.toList.map (evA s)) = some args ∧ rs.all cloR = true)) ∧ Ctr P f args rs ∧ r = retA (resF rs)
    | .builtin .append => False
    | _ => opF P s (.call c) = some r
  | .build T ps => fieldsOk P T = true ∧ buildE P s T ps.toList = some (r, s.st)
  | .slice T x lo hi none => sliceE P s T (evA s x) lo hi = some (r, s.st)
  | op => opF P s op = some r

theorem drStep_ok (h : Core w0 St0 St β s a w) (o : Oper) (hc : o.op.operands.toList.all opndOk = true) {r : AV} (hr : drStep P s o.op r) (Q : Exit → Act → World → Prop) :
    o.wp P a w (fun a' w' => Sim w0 St0 (s.put o.dst r) a' w') Q := by
  have hD : ∀ {r : AV}, Does P a w w0 St0 s o r s.st → o.wp P a w (fun a' w' => Sim w0 St0 (s.put o.dst r) a' w') Q := fun {r} hd => by
    obtain ⟨nx, v, w', St', β', h1, h2, h3, h4⟩ := hd
    unfold Oper.wp
    rw [h1]
    rcases h2 with rfl | ⟨rfl, rfl⟩
    · exact ⟨St', β', h3.put o.dst h4⟩
    · exact ⟨St', β', h3.put o.dst h4⟩
  have hF : ∀ {r : AV}, opF P s o.op = some r → o.wp P a w (fun a' w' => Sim w0 St0 (s.put o.dst r) a' w') Q := fun {r} hs => hD (does_of_gives h (opF_ok h o hc hs))
  cases hop : o.op with
  | call c =>
    rw [hop] at hr
    simp only [drStep] at hr
    split at hr
    · rename_i f hcl
      obtain ⟨args, rs, hf, hspec, rfl⟩ := hr
      have hca : c.args.toList.all opndOk = true := by
        rw [hop] at hc
        simp only [Op.operands, Call.operands, Array.toList_append, List.all_append, Bool.and_eq_true] at hc
        exact hc.2
      rcases hf with hf | hf
      · obtain ⟨St1, q1, q2, q3⟩ := fzAs_ok _ _ _ _ St h hf
        have hargs := q3 _ (evAs_ok h c.args.toList hca)
        unfold Oper.wp
        rw [run_call o c f hop hcl hspec.1]
        simp only [Oper.upon]
        have hcall := hspec.2 w St1 (c.args.toList.map a.eval) q1.stIn hargs
        have ea : (c.args.toList.map a.eval).toArray = c.args.map a.eval := by apply Array.ext'; simp
        rw [ea] at hcall
        refine hcall.mono fun e w' hb => ?_
        obtain ⟨us, bs, St2, hb⟩ := hb
        obtain ⟨bs3, St3, hb3⟩ := back_frz hb
        have k1 := back_core q1 hb3
        have e1 := hb.ret
        subst e1
        obtain ⟨Φs3, hr3, _⟩ := hb3.res
        have k3 := resF_ok rs hr3
        refine ⟨St3, β, k1.put o.dst (retA_ok ?_)⟩
        have key : ∀ (xs : List AV) (us : List Value), RdAs w' St3 xs us → AVRs w' St3 s.st β xs us := by
          intro xs
          induction xs with
          | nil => intro us h; simp only [AVRs]; exact h
          | cons x xs ih =>
            intro us h
            obtain ⟨y, ys, h1, h2, h3⟩ := h
            simp only [AVRs]
            exact ⟨y, ys, h1, h2.toAVR, ih ys h3⟩
        exact key _ _ k3
      · obtain ⟨φ, hφ⟩ := h.own
        have hargs := borAs_ok h hφ hf.1 (evAs_ok h c.args.toList hca)
        unfold Oper.wp
        rw [run_call o c f hop hcl hspec.1]
        simp only [Oper.upon]
        have hcall := hspec.2 w _ (c.args.toList.map a.eval) (fun b o hb => AllSt.lt h hφ hb) hargs
        have ea : (c.args.toList.map a.eval).toArray = c.args.map a.eval := by apply Array.ext'; simp
        rw [ea] at hcall
        refine hcall.mono fun e w' hb => ?_
        obtain ⟨us, bs, St2, hb⟩ := hb
        have hb := hb.clo hf.2 h.stIn
        obtain ⟨bs3, St3, hb3⟩ := back_frz hb
        have k1 := back_core h hb3
        have e1 := hb.ret
        subst e1
        obtain ⟨Φs3, hr3, _⟩ := hb3.res
        have k3 := resF_ok rs hr3
        refine ⟨St3, β, k1.put o.dst (retA_ok ?_)⟩
        have key : ∀ (xs : List AV) (us : List Value), RdAs w' St3 xs us → AVRs w' St3 s.st β xs us := by
          intro xs
          induction xs with
          | nil => intro us h; simp only [AVRs]; exact h
          | cons x xs ih =>
            intro us h
            obtain ⟨y, ys, h1, h2, h3⟩ := h
            simp only [AVRs]
            exact ⟨y, ys, h1, h2.toAVR, ih ys h3⟩
        exact key _ _ k3
    · exact hr.elim
    · exact hF (by rw [hop]; exact hr)
  | build T ps =>
    rw [hop] at hr
    refine hD (opE_ok h o hc ?_)
    rw [hop]
    simp only [drStep] at hr
    simp only [opE, hr.1, if_true]
    exact hr.2
  | slice T x lo hi mx =>
    rw [hop] at hr
    cases mx with
    | none =>
      refine hD (opE_ok h o hc ?_)
      rw [hop]
      exact hr
    | some m => simp only [drStep, opF] at hr; cases hr
  | _ => exact hF (by rw [hop] at hr ⊢; exact hr)

theorem evA_congr {s s' : MS} {x : Operand} (h : ∀ t, x = .tmp t → eget s'.env t = eget s.env t) : evA s' x = evA s x := by
  cases x with
  | tmp t => exact congrArg unpin (h t rfl)
  | _ => rfl

/-- The step looks at the operands alone. -/
theorem drStep_congr {s s' : MS} (hst : s'.st = s.st) (o : Op) (h : ∀ t, .tmp t ∈ o.operands.toList → eget s'.env t = eget s.env t) (r : AV) (hr : drStep P s o r) : drStep P s' o r := by
  have he : ∀ x, x ∈ o.operands.toList → evA s' x = evA s x := fun x hx => evA_congr fun t ht => h t (by rw [← ht]; exact hx)
  cases o with
  | call c =>
    have hargs : ∀ x ∈ c.args.toList, evA s' x = evA s x := fun x hx => he x (by
      simp only [Op.operands, Call.operands, Array.toList_append, List.mem_append]
      exact .inr hx)
    have hmap : c.args.toList.map (evA s') = c.args.toList.map (evA s) := List.map_congr_left hargs
    simp only [drStep] at hr ⊢
    split at hr
    · rename_i f hcl
      rw [hmap, hst]; exact hr
    · exact hr
    · simp only [opF] at hr ⊢
      split at hr
      · split at hr
        · rename_i t x hat hax
          rw [hargs x (by rw [hax]; simp), hst]; exact hr
        · cases hr
      · split at hr
        · rename_i x y hax
          rw [hargs x (by rw [hax]; simp), hargs y (by rw [hax]; simp)]; exact hr
        · cases hr
      · split at hr
        · rename_i x y hax
          rw [hargs x (by rw [hax]; simp), hargs y (by rw [hax]; simp)]; exact hr
        · cases hr
      · cases hr
  | build T ps =>
    have hps : ∀ p ∈ ps.toList, evA s' p.2 = evA s p.2 := fun p hp => he p.2 (by
      simp only [Op.operands]
      simp only [List.mem_map]
      exact ⟨p, hp, rfl⟩)
    have key : ∀ (l : List (Nat × Operand)), (∀ p ∈ l, evA s' p.2 = evA s p.2) → partsA s' l = partsA s l := by
      intro l
      induction l with
      | nil => intro _; rfl
      | cons p l ih => intro hl; simp only [partsA, hl p (by simp), ih (fun q hq => hl q (by simp [hq]))]
    simp only [drStep, buildE, key _ hps, hst] at hr ⊢
    exact hr
  | slice T x lo hi mx =>
    cases mx with
    | none =>
      have h1 : evA s' x = evA s x := he x (by simp [Op.operands])
      have h2 : ∀ d, optIdx s' lo d = optIdx s lo d := fun d => by
        cases lo with
        | none => rfl
        | some q => simp only [optIdx]; rw [he q (by simp [Op.operands])]
      have h3 : ∀ d, optIdx s' hi d = optIdx s hi d := fun d => by
        cases hi with
        | none => rfl
        | some q => simp only [optIdx]; rw [he q (by simp [Op.operands])]
      simp only [drStep, sliceE, h1, h2, h3, hst] at hr ⊢
      exact hr
    | some m => simp only [drStep, opF] at hr; cases hr
  | move x => simp only [drStep, opF] at hr ⊢; rw [he x (by simp [Op.operands])]; exact hr
  | assign x => simp only [drStep, opF] at hr ⊢; rw [he x (by simp [Op.operands])]; exact hr
  | pick c x y => simp only [drStep, opF] at hr ⊢; rw [he c (by simp [Op.operands]), he x (by simp [Op.operands]), he y (by simp [Op.operands])]; exact hr
  | load T x => simp only [drStep, opF] at hr ⊢; rw [he x (by simp [Op.operands]), hst]; exact hr
  | nilCheck x => simp only [drStep, opF] at hr ⊢; rw [he x (by simp [Op.operands]), hst]; exact hr
  | binOp op T x y T2 => simp only [drStep, opF] at hr ⊢; rw [he x (by simp [Op.operands]), he y (by simp [Op.operands])]; exact hr
  | unOp op T x => simp only [drStep, opF] at hr ⊢; rw [he x (by simp [Op.operands])]; exact hr
  | convert a b x => simp only [drStep, opF] at hr ⊢; rw [he x (by simp [Op.operands]), hst]; exact hr
  | fieldAddr T x f => simp only [drStep, opF] at hr ⊢; rw [he x (by simp [Op.operands]), hst]; exact hr
  | field T x f => simp only [drStep, opF] at hr ⊢; rw [he x (by simp [Op.operands])]; exact hr
  | indexAddr T x y => simp only [drStep, opF] at hr ⊢; rw [he x (by simp [Op.operands]), he y (by simp [Op.operands]), hst]; exact hr
  | index T x y => simp only [drStep, opF] at hr ⊢; rw [he x (by simp [Op.operands]), he y (by simp [Op.operands])]; exact hr
  | extract x i => simp only [drStep, opF] at hr ⊢; rw [he x (by simp [Op.operands])]; exact hr
  | _ => simp only [drStep, opF] at hr; cases hr

end Go.Vm
