/- The value machine, part G: opF is what the model does. -/
import Derived.Test.YtepjgnlinjlehaaGreatVmF
namespace Go.Vm
set_option linter.unusedSimpArgs false
set_option linter.unusedVariables false
open Go.RowKit

theorem tyField_ok {P : Program} {T : TypeId} {f fo : Nat} {ft : TypeId} (h : tyField P T f = some (fo, ft)) : ∃ (fs : Array Field) (x : Field), P.underlying T = some (.struct fs) ∧ fs[f]? = some x ∧ x.offset = fo ∧ x.type = ft := by
  unfold tyField at h
  split at h
  · rename_i fs hu
    cases hx : fs[f]? with
    | none => simp [hx] at h
    | some x => simp [hx] at h; exact ⟨fs, x, hu, hx, h.1, h.2⟩
  · cases h
theorem tyElem_ok {P : Program} {T e : TypeId} (h : tyElem P T = some e) : P.underlying T = some (.slice e) := by
  unfold tyElem at h
  split at h
  · simp only [Option.some.injEq] at h; subst h; assumption
  · cases h

/-- An operation that hands back one value and turns nothing. -/
def Gives (P : Program) (a : Act) (w : World) (St : Nat → Nat → Prop) (st : List Ob) (β : Nat → Option Nat) (o : Oper) (x : AV) : Prop :=
  ∃ v, (execOp a.eval o).run P w = .ok (.value v) w ∧ AVR w St st β x v

variable {P : Program} {w0 : Bs} {St0 St : Nat → Nat → Prop} {β : Nat → Option Nat} {s : MS} {a : Act} {w : World}

theorem g_load (h : Core w0 St0 St β s a w) (o : Oper) (T : TypeId) (x : Operand) (ho : o.op = .load T x) (hc : opndOk x = true) {y : AV} (hy : opF P s (.load T x) = some y) : Gives P a w St s.st β o y := by
  have he := evA_ok h x hc
  simp only [opF] at hy
  split at hy
  · rename_i n g hs hg
    split at hy
    · rename_i l i off hev
      split at hy
      · rename_i ob hob
        split at hy
        · rename_i row hrow
          split at hy
          · rename_i y0 hcut
            split at hy
            · rename_i hno
              simp only [Option.some.injEq] at hy
              subst hy
              rw [hev] at he
              obtain ⟨b, cs, hb, hu, g1, g2, g3⟩ := lp_ok h he hob
              obtain ⟨v, hv, hr⟩ := load_at (P := P) (T := T) (row_cells g1 g2 g3 hrow) hs hg hcut hno
              exact ⟨v, by simp [execOp, ho, hu, hv], hr⟩
            · cases hy
          · cases hy
        · cases hy
      · cases hy
    · rename_i row hev
      rw [hev] at he
      simp only [AVR] at he
      obtain ⟨b, off, hu, hr⟩ := he
      obtain ⟨v, hv, hr2⟩ := load_at (P := P) (w := w) (St := St) (st := s.st) (β := β) (T := T) (row := row) (b := b) (o := off) (off := 0) (fun j c hj => by
        obtain ⟨_, u, hu1, hu2⟩ := hr.at j c hj
        refine ⟨u, hu1, ?_⟩
        cases c with
        | ref l => simp [RdD] at hu2
        | v x => exact hu2
        | sl xs => exact hu2
        | ow ty sz xs => simp [RdD] at hu2) hs hg hy (cut_notOw (fun j c hj => by
          obtain ⟨_, u, hu1, hu2⟩ := hr.at j c hj
          cases c with
          | ow ty sz xs => simp [RdD] at hu2
          | _ => rfl) hy)
      exact ⟨v, by simp only [Nat.add_zero] at hv; simp [execOp, ho, hu, hv], hr2⟩
    · cases hy
  · cases hy

theorem g_field (h : Core w0 St0 St β s a w) (o : Oper) (T : TypeId) (x : Operand) (f : Nat) (ho : o.op = .field T x f) (hc : opndOk x = true) {y : AV} (hy : opF P s (.field T x f) = some y) : Gives P a w St s.st β o y := by
  have he := evA_ok h x hc
  simp only [opF] at hy
  split at hy
  · rename_i fo ft hf
    split at hy
    · rename_i n g row hs hg hev
      rw [hev] at he
      simp only [AVR] at he
      obtain ⟨us, hu, h1, h2⟩ := he
      obtain ⟨fs, fx, q1, q2, q3, q4⟩ := tyField_ok hf
      obtain ⟨v, hv, hr⟩ := part_at (P := P) h1 h2 hs hg hy
      subst q3 q4
      exact ⟨v, by simp [execOp, ho, Instr.field, run_underlying q1, q2, hu, asAgg, hv], hr⟩
    · cases hy
  · cases hy

theorem g_fieldAddr (h : Core w0 St0 St β s a w) (o : Oper) (T : TypeId) (x : Operand) (f : Nat) (ho : o.op = .fieldAddr T x f) (hc : opndOk x = true) {y : AV} (hy : opF P s (.fieldAddr T x f) = some y) : Gives P a w St s.st β o y := by
  have he := evA_ok h x hc
  simp only [opF] at hy
  split at hy
  · rename_i fo ft hf
    obtain ⟨fs, fx, q1, q2, q3, q4⟩ := tyField_ok hf
    subst q3 q4
    split at hy
    · rename_i m hs
      have hrun : ∀ b off, (Instr.fieldAt T (.pointer (some ⟨b, off, none⟩)) f).run P w = .ok (.pointer (some ⟨b, off + fx.offset, none⟩)) w := by
        intro b off
        simp [Instr.fieldAt, run_underlying q1, q2, Instr.sureAddr, fieldPlace, run_size hs, addr_add]
      split at hy
      · rename_i l i off hev
        split at hy
        · rename_i ob hob
          simp only [Option.some.injEq] at hy
          subst hy
          rw [hev] at he
          obtain ⟨b, cs, hb, hu, _⟩ := lp_ok h he hob
          refine ⟨_, by simp [execOp, ho, hu, hrun]; rfl, ?_⟩
          obtain ⟨hl, _⟩ := obAt_some hob
          simp only [AVR, hl]
          exact fun _ => ⟨b, hb, by rw [Nat.add_assoc]⟩
        · cases hy
      · rename_i row hev
        simp only [Option.some.injEq] at hy
        subst hy
        rw [hev] at he
        simp only [AVR] at he
        obtain ⟨b, off, hu, hr⟩ := he
        refine ⟨_, by simp [execOp, ho, hu, hrun]; rfl, ?_⟩
        simp only [AVR]
        exact ⟨b, _, rfl, hr.drop _⟩
      · cases hy
    · cases hy
  · cases hy

theorem run_indexAt {T e : TypeId} {n : Nat} (ht : P.underlying T = some (.slice e)) (hs : tySize P e = some n) {b off len cap k : Nat} {kd : IntKind} (hk : k < len) :
    (Instr.indexAt T (.slice (some ⟨b, off, none⟩) len cap) (.int kd (k : Int))).run P w = .ok (.pointer (some ⟨b, off + k * n, none⟩)) w := by
  have h1 : ¬ len ≤ k := by omega
  simp [Instr.indexAt, asIntOf, run_underlying ht, run_size hs, addr_add, h1]

theorem g_indexAddr (h : Core w0 St0 St β s a w) (o : Oper) (T : TypeId) (x ix : Operand) (ho : o.op = .indexAddr T x ix) (hc : opndOk x = true) (hc2 : opndOk ix = true) {y : AV} (hy : opF P s (.indexAddr T x ix) = some y) : Gives P a w St s.st β o y := by
  have he := evA_ok h x hc
  have hi := evA_ok h ix hc2
  simp only [opF] at hy
  split at hy
  · rename_i e hte
    have ht := tyElem_ok hte
    split at hy
    · rename_i n k hs hk
      obtain ⟨kd, hi2⟩ := idxA_ok hi hk
      split at hy
      · rename_i xs hev
        split at hy
        · rename_i row hrow
          split at hy
          · rename_i hlen
            simp only [Option.some.injEq] at hy
            subst hy
            rw [hev] at he
            simp only [AVR, RdC, RdD] at he
            obtain ⟨ad, cap, hu, h2, h3, ⟨sz, h4⟩, h5⟩ := he
            have hkl : k < xs.length := (List.getElem?_eq_some_iff.1 hrow).1
            rcases h5 with rfl | ⟨b, off, rfl, h6⟩
            · simp at hkl
            · have hsz : sz = n := by rw [← hlen]; exact (h4 row (List.mem_of_getElem? hrow)).symm
              subst hsz
              refine ⟨_, by simp [execOp, ho, hu, hi2, run_indexAt ht hs hkl]; rfl, ?_⟩
              simp only [AVR]
              exact ⟨b, _, rfl, h6.at sz h4 k row hrow⟩
          · cases hy
        · cases hy
      · rename_i l hev
        split at hy
        · rename_i ob hob
          split at hy
          · rename_i hkl
            obtain ⟨hkl, hsz⟩ := hkl
            simp only [Option.some.injEq] at hy
            subst hy
            rw [hev] at he
            obtain ⟨hl, hlive⟩ := obAt_some hob
            simp only [AVR, RdC, RefR, hl] at he
            have h2 := he.2 hlive
            split at h2
            · obtain ⟨_, hx⟩ := h2
              rw [hx] at hkl; simp at hkl
            · rename_i b hb
              obtain ⟨cap, cs, hu, h3, h4, _⟩ := h2
              refine ⟨_, by simp [execOp, ho, hu, hi2, run_indexAt ht hs hkl]; rfl, ?_⟩
              simp only [AVR, hl]
              exact fun _ => ⟨b, hb, by simp [hsz]⟩
          · cases hy
        · cases hy
      · cases hy
    · cases hy
  · cases hy

theorem g_len (h : Core w0 St0 St β s a w) (o : Oper) (c : Call) (ho : o.op = .call c) (hcl : c.callee = .builtin .len) (hc : c.args.toList.all opndOk = true) {y : AV} (hy : opF P s (.call c) = some y) : Gives P a w St s.st β o y := by
  simp only [opF, hcl] at hy
  split at hy
  · rename_i t x hat hax
    have hx : opndOk x = true := by rw [hax] at hc; simpa using hc
    have he := evA_ok h x hx
    have ha1 : c.argTypes = #[t] := by have := congrArg List.toArray hat; simpa using this
    have ha2 : c.args = #[x] := by have := congrArg List.toArray hax; simpa using this
    split at hy
    · rename_i b hu hev
      simp only [Option.some.injEq] at hy
      subst hy
      rw [hev] at he
      obtain ⟨hv, hw⟩ := v_ok he
      refine ⟨.int .i64 b.size, ?_, v_mk (wf_len (by simpa [wfV] using hw))⟩
      simp [execOp, ho, resolve, hcl, ha1, ha2, invoke, builtin, Builtin.len_, run_underlying hu, hv, goInt]
    · rename_i e d hu hev
      split at hy
      · rename_i xs hd
        simp only [Option.some.injEq] at hy
        subst hy
        rw [hev] at he
        simp only [AVR] at he
        obtain ⟨ad, cap, hv, h1, h2⟩ := dataC_ok h he hd
        refine ⟨.int .i64 xs.length, ?_, v_mk (wf_len (by omega))⟩
        simp [execOp, ho, resolve, hcl, ha1, ha2, invoke, builtin, Builtin.len_, run_underlying hu, hv, goInt]
      · cases hy
    · cases hy
  · cases hy

theorem g_minmax (h : Core w0 St0 St β s a w) (o : Oper) (c : Call) (ho : o.op = .call c) (hcl : c.callee = .builtin .min ∨ c.callee = .builtin .max) (hc : c.args.toList.all opndOk = true) {y : AV} (hy : opF P s (.call c) = some y) : Gives P a w St s.st β o y := by
  rcases hcl with hcl | hcl
  all_goals
    simp only [opF, hcl] at hy
    split at hy
    · rename_i x x2 hax
      have hx : opndOk x = true ∧ opndOk x2 = true := by rw [hax] at hc; simpa using hc
      have he := evA_ok h x hx.1
      have he2 := evA_ok h x2 hx.2
      have ha2 : c.args = #[x, x2] := by have := congrArg List.toArray hax; simpa using this
      split at hy
      · rename_i p q hev hev2
        simp only [Option.some.injEq] at hy
        subst hy
        rw [hev] at he
        rw [hev2] at he2
        obtain ⟨hv, hw⟩ := v_ok he
        obtain ⟨hv2, hw2⟩ := v_ok he2
        refine ⟨_, ?_, v_mk ?_⟩
        rotate_left
        · simp only [wfV] at hw hw2 ⊢
          split <;> assumption
        · simp [execOp, ho, resolve, hcl, ha2, invoke, builtin, Builtin.min_, Builtin.max_, Builtin.min2, Builtin.max2, hv, hv2]
      · cases hy
    · cases hy

theorem g_index (h : Core w0 St0 St β s a w) (o : Oper) (T : TypeId) (x ix : Operand) (ho : o.op = .index T x ix) (hc : opndOk x = true) (hc2 : opndOk ix = true) {y : AV} (hy : opF P s (.index T x ix) = some y) : Gives P a w St s.st β o y := by
  have he := evA_ok h x hc
  have hi := evA_ok h ix hc2
  simp only [opF] at hy
  split at hy
  · rename_i hu
    split at hy
    · rename_i b k hev hk
      obtain ⟨kd, hi2⟩ := idxA_ok hi hk
      split at hy
      · rename_i c hb
        simp only [Option.some.injEq] at hy
        subst hy
        rw [hev] at he
        obtain ⟨hv, hw⟩ := v_ok he
        refine ⟨_, ?_, v_mk (wf_byte c)⟩
        simp [execOp, ho, Instr.index, asIntOf, hi2, run_underlying hu, hv, hb]
      · cases hy
    · cases hy
  · cases hy

theorem opF_ok (h : Core w0 St0 St β s a w) (o : Oper) (hc : o.op.operands.toList.all opndOk = true) {y : AV} (hy : opF P s o.op = some y) : Gives P a w St s.st β o y := by
  obtain ⟨dst, op, type, pos, after, guard⟩ := o
  simp only at hc hy
  cases op with
  | move x =>
    have he := evA_ok h x (by simpa [Op.operands] using hc)
    simp only [opF, Option.some.injEq] at hy; subst hy
    exact ⟨_, by simp [execOp], he⟩
  | assign x =>
    have he := evA_ok h x (by simpa [Op.operands] using hc)
    simp only [opF, Option.some.injEq] at hy; subst hy
    exact ⟨_, by simp [execOp], he⟩
  | pick c x1 x2 =>
    simp [Op.operands] at hc
    have he := evA_ok h c hc.1
    have h1 := evA_ok h x1 hc.2.1
    have h2 := evA_ok h x2 hc.2.2
    simp only [opF] at hy
    split at hy
    · rename_i t hev
      simp only [Option.some.injEq] at hy; subst hy
      rw [hev] at he
      obtain ⟨hv, _⟩ := v_ok he
      cases t with
      | true => exact ⟨_, by simp [execOp, hv, asBool], h1⟩
      | false => exact ⟨_, by simp [execOp, hv, asBool], h2⟩
    · cases hy
  | load T x => exact g_load h _ T x rfl (by simpa [Op.operands] using hc) hy
  | nilCheck x =>
    have he := evA_ok h x (by simpa [Op.operands] using hc)
    simp only [opF] at hy
    split at hy
    · rename_i l i off hev
      split at hy
      · rename_i ob hob
        simp only [Option.some.injEq] at hy; subst hy
        rw [hev] at he
        obtain ⟨b, cs, hb, hu, _⟩ := lp_ok h he hob
        exact ⟨_, by simp [execOp, hu]; rfl, by rw [← hu]; exact he⟩
      · cases hy
    · rename_i row hev
      simp only [Option.some.injEq] at hy; subst hy
      rw [hev] at he
      have he' := he
      simp only [AVR] at he'
      obtain ⟨b, off, hu, _⟩ := he'
      exact ⟨_, by simp [execOp, hu]; rfl, by rw [← hu]; exact he⟩
    · rename_i f x1 x2 hev
      simp only [Option.some.injEq] at hy; subst hy
      rw [hev] at he
      obtain ⟨hv, hw⟩ := v_ok he
      exact ⟨.func (.func f) x1 x2, by simp [execOp, hv], v_mk hw⟩
    · cases hy
  | binOp op T x1 x2 T2 =>
    simp [Op.operands] at hc
    have h1 := evA_ok h x1 hc.1
    have h2 := evA_ok h x2 hc.2
    simp only [opF] at hy
    split at hy
    · rename_i p q hev1 hev2
      split at hy
      · rename_i r hr
        simp only [Option.some.injEq] at hy; subst hy
        rw [hev1] at h1
        rw [hev2] at h2
        obtain ⟨hv1, hw1⟩ := v_ok h1
        obtain ⟨hv2, hw2⟩ := v_ok h2
        obtain ⟨hrun, hwf⟩ := aBin_ok (P := P) hw1 hr x1 x2 w
        refine ⟨r, ?_, v_mk hwf⟩
        simp only [execOp, hv1, hv2]
        rw [Sem.run_bind, hrun]
        rfl
      · cases hy
    · rename_i cs ds hev1 hev2
      rw [hev1] at h1
      rw [hev2] at h2
      simp only [AVR] at h1 h2
      obtain ⟨us, hu1, hu2, hu3⟩ := h1
      obtain ⟨vs, hv1, hv2, hv3⟩ := h2
      split at hy
      · rename_i ks hks
        split at hy
        · rename_i r hr
          obtain ⟨k1, k2⟩ := eqAgg_ok (w := w) hks hr (us := us) (vs := vs) (fun k x hk => by
            obtain ⟨z, hz, hc⟩ := hu3 k _ hk
            simp only [RdC, RdD] at hc
            rw [hz, hc.1]) (fun k x hk => by
            obtain ⟨z, hz, hc⟩ := hv3 k _ hk
            simp only [RdC, RdD] at hc
            rw [hz, hc.1]) x1 x2
          split at hy
          · simp only [Option.some.injEq] at hy; subst hy
            refine ⟨.bool r, ?_, v_mk rfl⟩
            simp only [execOp, hu1, hv1]
            rw [Sem.run_bind, k1]
            rfl
          · simp only [Option.some.injEq] at hy; subst hy
            refine ⟨.bool (!r), ?_, v_mk rfl⟩
            simp only [execOp, hu1, hv1]
            rw [Sem.run_bind, k2]
            rfl
          · cases hy
        · cases hy
      · cases hy
    · cases hy
  | unOp op T x =>
    have he := evA_ok h x (by simpa [Op.operands] using hc)
    simp only [opF] at hy
    split at hy
    · rename_i p hev
      split at hy
      · rename_i r hr
        simp only [Option.some.injEq] at hy; subst hy
        rw [hev] at he
        obtain ⟨hv, hw⟩ := v_ok he
        obtain ⟨hrun, hwf⟩ := aUn_ok (P := P) hr w
        exact ⟨r, by simp [execOp, hv, hrun], v_mk hwf⟩
      · cases hy
    · cases hy
  | convert src dst x =>
    have he := evA_ok h x (by simpa [Op.operands] using hc)
    simp only [opF] at hy
    split at hy
    · rename_i d1 k kd n hs1 hs2 hev
      simp only [Option.some.injEq] at hy; subst hy
      rw [hev] at he
      obtain ⟨hv, hw⟩ := v_ok he
      refine ⟨_, ?_, v_mk (v := .int k (k.wrap n)) (by simp only [wfV]; exact Go.wf_wrap _ _)⟩
      simp [execOp, hv, convert, run_underlying hs1, run_underlying hs2, Conv.intToInt]
    · rename_i d1 b hs1 hs2 hev
      simp only [Option.some.injEq] at hy; subst hy
      rw [hev] at he
      obtain ⟨hv, hw⟩ := v_ok he
      refine ⟨_, ?_, v_mk (v := .string b) hw⟩
      simp [execOp, hv, convert, run_underlying hs1, run_underlying hs2]
    · rename_i e d _ hs1 hs2 hev
      split at hy
      · rename_i xs he1 hdx
        split at hy
        · rename_i ns hns
          simp only [Option.some.injEq] at hy; subst hy
          rw [hev] at he
          simp only [AVR] at he
          obtain ⟨q1, q2⟩ := bytesA_ok hns
          obtain ⟨ad0, cap0, e0, e1, e2⟩ := dataC_ok h he hdx
          obtain ⟨ad, cap, hu, _, hcells⟩ := data_cells h he hdx
          have hsz : (strOfNums ns).size ≤ maxLen := by rw [strOfNums_size, q1]; omega
          refine ⟨.string (strOfNums ns), ?_, v_mk (v := .string (strOfNums ns)) (by simp only [wfV, decide_eq_true_eq]; exact hsz)⟩
          have key : (convert src dst (a.eval x)).run P w = .ok (.string (strOfNums ns)) w := by
            rw [hu]
            rcases hcells with rfl | ⟨b, off, rfl, hc2⟩
            · have : ns = [] := List.eq_nil_of_length_eq_zero q1
              subst this
              rw [hu] at e0
              cases ad with
              | none => exact run_convert_bytes_nil w src e hs1 he1 _ _ dst hs2
              | some ad =>
                have := run_convert_bytes_string (P := P) w src dst e (some ad) 0 cap hs1 he1 hs2
                simp only [List.length_nil]
                rw [this, run_bytesToString w ad 0 cap [] (run_loadCells_list (P := P) w ad [] (fun j v hj => by simp at hj))]
                rfl
            · refine run_convert_bytes_arg w src e hs1 he1 b off xs.length cap ns q1 (fun i hi => ?_) dst hs2
              have hin : i < ns.length := by omega
              have hf := q2 i ns[i] (by simp [hin])
              obtain ⟨v, hv, hr⟩ := hc2 i _ hf
              have hr2 := hr.toC rfl
              simp only [RdC, RdD] at hr2
              rw [hv, hr2.1]
              simp [List.getD, hin]
          simp only [execOp, Sem.run_bind, key, Result.andThen_ok, Sem.run_pure]
        · cases hy
      · cases hy
    · cases hy
  | fieldAddr T x f => exact g_fieldAddr h _ T x f rfl (by simpa [Op.operands] using hc) hy
  | field T x f => exact g_field h _ T x f rfl (by simpa [Op.operands] using hc) hy
  | indexAddr T x ix =>
    simp [Op.operands] at hc
    exact g_indexAddr h _ T x ix rfl hc.1 hc.2 hy
  | index T x ix =>
    simp [Op.operands] at hc
    exact g_index h _ T x ix rfl hc.1 hc.2 hy
  | extract x ix =>
    have he := evA_ok h x (by simpa [Op.operands] using hc)
    simp only [opF] at hy
    split at hy
    · rename_i xs hev
      rw [hev] at he
      simp only [AVR] at he
      obtain ⟨us, hu, h1⟩ := he
      obtain ⟨u, hu1, hu2⟩ := AVRs_at h1 ix y hy
      exact ⟨u, by simp [execOp, hu, Instr.extract, hu1], hu2⟩
    · cases hy
  | call c =>
    have hca : c.args.toList.all opndOk = true := by
      simp only [Op.operands, Call.operands, Array.toList_append, List.all_append, Bool.and_eq_true] at hc
      exact hc.2
    by_cases h1 : c.callee = .builtin .len
    · exact g_len h _ c rfl h1 hca hy
    · by_cases h2 : c.callee = .builtin .min ∨ c.callee = .builtin .max
      · exact g_minmax h _ c rfl h2 hca hy
      · simp only [opF] at hy
        split at hy <;> simp_all
  | _ => simp [opF] at hy

end Go.Vm
