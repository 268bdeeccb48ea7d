/- The value machine, part V: the set of rules for a walk. -/
import Derived.Test.YteiibjajcbiaoaaGreatVmU
namespace Go.Vm
set_option linter.unusedSimpArgs false
set_option linter.unusedVariables false
open Go.RowKit

/-! The rules are theorems at full application: so nothing is walked ahead of its time. -/
def seqC (P : Program) (y : Code) (Q : Ex → MS → Prop) : Ex → MS → Prop := seqM (vp P y) Q
def cndC (P : Program) (x y : Code) (s : MS) (Q : Ex → MS → Prop) (b : Bool) : Prop := cndM (vp P x) (vp P y) s Q b
def lopC (P : Program) (x : Code) (Q : Ex → MS → Prop) (s : MS) (K : MS → Prop) : Prop := lopM (vp P x) Q s K
section
variable {P : Program} {s : MS} {Q : Ex → MS → Prop} {x y : Code} {K : MS → Prop}
@[go_sem] theorem vp_skip : vp P .skip s Q = Q .normal s := rfl
@[go_sem] theorem vp_reg {id : Nat} {ops : Array Oper} : vp P (.region id ops false) s Q = vpR P ops (Q .normal) s := rfl
@[go_sem] theorem vp_draw {id : Nat} {ops : Array Oper} : vp P (.region id ops true) s Q = DrawK P ops s (Q .normal) := rfl
@[go_sem] theorem vp_seq : vp P (.seq x y) s Q = vp P x s (seqC P y Q) := rfl
@[go_sem] theorem vp_cond {c : Operand} : vp P (.cond c x y) s Q = boolK (evA s c) (cndC P x y s Q) := rfl
@[go_sem] theorem vp_block {id : Nat} : vp P (.block id x) s Q = vp P x s (blkK id Q) := rfl
@[go_sem] theorem vp_loop : vp P (.loop x) s Q = LoopK s (lopC P x Q) := rfl
@[go_sem] theorem vp_exit {id : Nat} : vp P (.exit id) s Q = Q (.exit id) s := rfl
@[go_sem] theorem vp_scope : vp P (.scope x) s Q = vp P x s Q := rfl
@[go_sem] theorem vp_ret : vp P .ret s Q = Q .ret s := rfl
@[go_sem] theorem seqC_normal : seqC P y Q .normal s = vp P y s Q := rfl
@[go_sem] theorem seqC_exit {i : Nat} : seqC P y Q (.exit i) s = Q (.exit i) s := rfl
@[go_sem] theorem seqC_ret : seqC P y Q .ret s = Q .ret s := rfl
@[go_sem] theorem cndC_true : cndC P x y s Q true = vp P x s Q := cndM_true
@[go_sem] theorem cndC_false : cndC P x y s Q false = vp P y s Q := cndM_false
theorem cndC.mk {b : Bool} (h1 : b = true → vp P x s Q) (h2 : b = false → vp P y s Q) : cndC P x y s Q b := cndM.mk h1 h2
@[go_sem] theorem blkK_normal {id : Nat} : blkK id Q .normal s = Q .normal s := rfl
@[go_sem] theorem blkK_exit {id i : Nat} : blkK id Q (.exit i) s = if i = id then Q .normal s else Q (.exit i) s := rfl
@[go_sem] theorem blkK_ret {id : Nat} : blkK id Q .ret s = Q .ret s := rfl
@[go_sem] theorem lopC_ap : lopC P x Q s K = vp P x s (lopK K Q) := rfl
@[go_sem] theorem lopK_normal : lopK K Q .normal s = K s := rfl
@[go_sem] theorem lopK_exit {i : Nat} : lopK K Q (.exit i) s = Q (.exit i) s := rfl
@[go_sem] theorem lopK_ret : lopK K Q .ret s = Q .ret s := rfl
@[go_sem] theorem vpO_nil {ops : Array Oper} : vpO P ops K [] s = K s := rfl
@[go_sem] theorem vpO_cons {ops : Array Oper} {o : Oper} {rest : List Oper} : vpO P ops K (o :: rest) s = bindB (gdA ops s.env o.guard) (gO P o (vpO P ops K rest) s) := rfl
@[go_sem] theorem vpD_nil {ops : Array Oper} : vpD P ops K [] s = K s := rfl
@[go_sem] theorem vpD_cons {ops : Array Oper} {o : Oper} {rest : List Oper} : vpD P ops K (o :: rest) s = bindB (gdA ops s.env o.guard) (gD P o (vpD P ops K rest) s) := rfl
@[go_sem] theorem putK_ap {d : Option Nat} {v : AV} {st' : List Ob} : putK s d K v st' = K (MS.put ⟨s.n, s.env, st'⟩ d v) := rfl
@[go_sem] theorem drPut_ap {d : Option Nat} {v : AV} : drPut s d K v = K (s.put d v) := rfl
@[go_sem] theorem resK_ap {d : Option Nat} {st1 : List Ob} {rs : List Res} : resK s d K st1 rs = K (MS.put ⟨s.n, s.env, (resA st1 rs).2⟩ d (retA (resA st1 rs).1)) := rfl
@[go_sem] theorem enterK_ap {f : FuncId} {d : Option Nat} {args : List AV} {st1 : List Ob} : enterK P f s d K args st1 = CallK P f args (resK s d K st1) := rfl
@[go_sem] theorem EndK_normal {vars : List ResultVar} {rs : List Res} : EndK P vars rs .normal s = Post P vars rs s := rfl
@[go_sem] theorem EndK_ret {vars : List ResultVar} {rs : List Res} : EndK P vars rs .ret s = Post P vars rs s := rfl
theorem CallK.mk {f : FuncId} {args : List AV} {K : List Res → Prop} (rs : List Res) (h : Ctr P f args rs) (hk : WfRs rs → K rs) : CallK P f args K := ⟨rs, h, hk⟩
theorem DrK.call {o : Op} {c : Call} {f : FuncId} {K : AV → Prop} (ho : o = .call c) (hc : c.callee = .value (.func f)) {args : List AV} {rs : List Res} (hf : fzAs s.st (c.args.toList.map (evA s)) = some (args, s.st)) (h : Ctr P f args rs) (hk : K (retA (resF rs))) : DrK P s o K := by
  subst ho
  refine ⟨_, ?_, hk⟩
  simp only [drStep, hc]
  exact ⟨args, rs, hf, h, rfl⟩
end
/-- In an order that is drawn: a reading operation. -/
theorem DrK.op {P : Program} {s : MS} {o : Op} {K : AV → Prop} {r : AV} (h : drStep P s o r) (hk : K r) : DrK P s o K := ⟨r, h, hk⟩

attribute [go_sem] envOf gdA gD_true gD_false gO_true gO_false stepK opE same opF evA constA eget MS.put boxE storeE allocE makeE buildSliceE sliceE buildE appE fillA partsA rowsA cellsA obAt cutRow pickA dataC fzC fzSt fzL fzA fzAs fzObs unwr killSt optIdx
attribute [go_sem] vpR_lit bindO_some bindF_some bindB_some boolK_bool
attribute [go_sem] resA resF retA retsA Post ValsR OwnsR aBin aInt aStr aUn
attribute [go_sem] Option.bind_some Option.map_some List.nil_append List.cons_append List.length_cons List.length_nil List.getElem?_cons_zero List.getElem?_cons_succ List.getElem?_nil List.drop_zero List.drop_succ_cons List.take_succ_cons List.take_zero List.map_cons List.map_nil List.set_cons_zero List.set_cons_succ List.modify_cons List.toList_toArray List.append_nil List.drop_nil List.take_nil
attribute [go_sem] Nat.zero_add Nat.add_zero Nat.le_refl and_self true_and and_true eq_self if_true if_false decide_true decide_false Bool.false_eq_true ne_eq not_false_eq_true not_true_eq_false Int.toNat_natCast
attribute [go_sem] Bool.not_true Bool.not_false Bool.true_and Bool.false_and Bool.and_true Bool.and_false Bool.true_or Bool.false_or Bool.or_true Bool.or_false

@[go_sem] theorem beq_tt : (true == true) = true := rfl
@[go_sem] theorem beq_tf : (true == false) = false := rfl
@[go_sem] theorem beq_ft : (false == true) = false := rfl
@[go_sem] theorem beq_ff : (false == false) = true := rfl
theorem beq_true (b : Bool) : (b == true) = b := by cases b <;> rfl
theorem beq_false (b : Bool) : (b == false) = !b := by cases b <;> rfl
attribute [go_sem] beq_true beq_false

@[go_sem] theorem idxA_nat (k : IntKind) (n : Nat) : idxA (.c (.v (.int k (n : Int)))) = some n := by simp [idxA]
@[go_sem] theorem idxA_zero (k : IntKind) : idxA (.c (.v (.int k 0))) = some 0 := by simp [idxA]
@[go_sem] theorem idxA_one (k : IntKind) : idxA (.c (.v (.int k 1))) = some 1 := by simp [idxA]

/-- A sum that does not wrap. -/
theorem wrap_i64 {n : Int} (h : -9223372036854775808 ≤ n) (h2 : n ≤ 9223372036854775807) : IntKind.i64.wrap n = n :=
  wrap_self (by simp [Lit.wf, IntKind.min, IntKind.max, IntKind.signed, IntKind.bits]; omega)

theorem map_at {α β : Type} (f : α → β) {l : List α} {k : Nat} (h : k < l.length) : (l.map f)[k]? = some (f l[k]) := by simp [h]

/-- A contract that hands over its slice, as one that hands back a value. -/
theorem Ctr.val {P : Program} {f : FuncId} {args : List AV} {ty sz : Nat} {xs : List (List Cl)} {wr : Bool} (h : Ctr P f args [.own ty sz xs wr]) : Ctr P f args [.val (.c (.sl xs))] := by
  refine ⟨h.1, fun w St vs h1 h2 => (h.2 w St vs h1 h2).mono fun e w' hb => ?_⟩
  obtain ⟨us, bs, St', hb⟩ := hb
  obtain ⟨u, us', b, bs', rfl, rfl, h3, h4⟩ := hb.res
  obtain ⟨rfl, rfl⟩ := h4
  cases b with
  | none =>
    obtain ⟨rfl, rfl⟩ := h3
    refine ⟨[_], [none], St', ⟨hb.ret, hb.below, hb.st, hb.stOld, hb.stIn, ⟨_, [], none, [], rfl, rfl, ⟨?_, rfl⟩, rfl, rfl⟩, fun i j b hi => by cases i <;> simp at hi⟩⟩
    simp only [RdA, RdD]
    exact ⟨none, 0, rfl, by simp, by simp [maxLen], ⟨0, by simp⟩, .inl trivial⟩
  | some b =>
    obtain ⟨g1, g2, g3, g4, cap, cs, rfl, e2, e3, e4, e5, e6⟩ := h3
    refine ⟨[_], [none], fun b' o => St' b' o ∨ (b' = b ∧ o < xs.length * sz), ⟨hb.ret, hb.below, fun b' o h => .inl (hb.st b' o h), ?_, ?_, ⟨_, [], none, [], rfl, rfl, ⟨?_, rfl⟩, rfl, rfl⟩, fun i j b hi => by cases i <;> simp at hi⟩⟩
    · intro b' o h hlt
      rcases h with h | ⟨rfl, _⟩
      · exact hb.stOld b' o h hlt
      · omega
    · intro b' o h
      rcases h with h | ⟨rfl, _⟩
      · exact hb.stIn b' o h
      · exact g2
    · simp only [RdA, RdD]
      refine ⟨some ⟨b, 0, none⟩, cap, rfl, e2, e3, ⟨sz, g3⟩, .inr ⟨b, 0, rfl, ?_⟩⟩
      refine RdE.mk sz g3 fun i x hi => RdL.mk fun j c hj => ?_
      have hf := flatten_at g3 i j x c hi hj
      obtain ⟨v, hv, hc⟩ := e6 _ c hf
      have hlt : i * sz + j < xs.length * sz := by
        rw [← flatten_len g3]
        rcases Nat.lt_or_ge (i * sz + j) xs.flatten.length with h' | h'
        · exact h'
        · simp [List.getElem?_eq_none h'] at hf
      refine ⟨.inr ⟨rfl, by omega⟩, v, ?_, RdD.mono (fun b' o h => .inl h) (fun _ _ _ => rfl) _ _ hc⟩
      rw [World.cell?, e4]
      simp only [Option.isSome_none, Bool.false_eq_true, if_false]
      rw [show 0 + i * sz + j = i * sz + j by omega]; exact hv

/-- A loop, by the states at its head. -/
theorem LoopK.mk {s : MS} {body : MS → (MS → Prop) → Prop} (N : Nat) (keys : List Nat) {A : Type} (f : A → MS) (p : A → Prop) (μ : A → Nat) (x0 : A) (h0 : trimOk N keys s ∧ trim N keys s = f x0 ∧ p x0)
    (h : ∀ x, p x → body (f x) fun s' => ∃ y, trimOk N keys s' ∧ trim N keys s' = f y ∧ p y ∧ μ y < μ x) : LoopK s body :=
  ⟨trimOk N keys, fun s t => trim N keys s = t, A, f, p, μ, fun s t h1 h2 => ⟨by rw [← h2]; rfl, fun w0 St0 St β a w h => ⟨St, β, by rw [← h2]; exact h.trim h1⟩⟩, ⟨x0, h0⟩, h⟩
/-- A loop whose objects change their places. -/
theorem LoopR.mk {s : MS} {body : MS → (MS → Prop) → Prop} (keys : List Nat) {A : Type} (f : A → MS) (p : A → Prop) (μ : A → Nat) (x0 : A) (sel0 : List (Nat × Bool)) (h0 : relOk sel0 keys s ∧ rel sel0 keys s = f x0) (hp : p x0)
    (h : ∀ x, p x → body (f x) fun s' => ∃ y, True ∧ (∃ sel, relOk sel keys s' ∧ rel sel keys s' = f y) ∧ p y ∧ μ y < μ x) : LoopK s body :=
  ⟨fun _ => True, fun s t => ∃ sel, relOk sel keys s ∧ rel sel keys s = t, A, f, p, μ, fun s t _ ⟨sel, h1, h2⟩ => ⟨by rw [← h2]; rfl, fun w0 St0 St β a w h => ⟨St, relB sel β, by rw [← h2]; exact h.rel h1⟩⟩, ⟨x0, trivial, ⟨sel0, h0⟩, hp⟩, h⟩

theorem pureE_map {α : Type} {f : α → List Cl} {l : List α} (h : ∀ x, pureL (f x) = true) : pureE (l.map f) = true := by
  unfold pureE
  rw [List.all_map]
  exact List.all_eq_true.2 fun x _ => h x

theorem WfE_map {α : Type} {f : α → List Cl} {l : List α} (h : WfE (l.map f)) {k : Nat} (hk : k < l.length) : WfL (f l[k]) := WfE_mem h _ (List.mem_map.2 ⟨l[k], List.getElem_mem hk, rfl⟩)

end Go.Vm
