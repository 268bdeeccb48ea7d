/- The value machine, part T: the code of a function; contracts out of it. -/
import Derived.Test.YtekkkcelnaomoaaVmZ
import Derived.Deep.LoopGhost
import Derived.Scope
namespace Go.Vm
set_option linter.unusedSimpArgs false
set_option linter.unusedVariables false
open Go.RowKit

variable {P : Program} {w0 : Bs} {St0 St : Nat → Nat → Prop} {β : Nat → Option Nat} {s : MS} {a : Act} {w : World}

inductive Ex where
  | normal
  | exit (id : Nat)
  | ret

/-- What a call's contract hands on. -/
def CallK (P : Program) (f : FuncId) (args : List AV) (K : List Res → Prop) : Prop := ∃ rs, Ctr P f args rs ∧ (WfRs rs → K rs)

def putK (s : MS) (dst : Option Nat) (K : MS → Prop) (y : AV) (st' : List Ob) : Prop := K (MS.put ⟨s.n, s.env, st'⟩ dst y)
def resK (s : MS) (dst : Option Nat) (K : MS → Prop) (st1 : List Ob) (rs : List Res) : Prop := K (MS.put ⟨s.n, s.env, (resA st1 rs).2⟩ dst (retA (resA st1 rs).1))
def enterK (P : Program) (f : FuncId) (s : MS) (dst : Option Nat) (K : MS → Prop) (args : List AV) (st1 : List Ob) : Prop := CallK P f args (resK s dst K st1)
/-- A call that writes its first argument. -/
def MutK (P : Program) (f : FuncId) (s : MS) (args : List AV) (dst : Option Nat) (K : MS → Prop) : Prop := ∃ (rest : List AV) (g : Bool) (zs cl : List Cl) (Q : List Cl → List AV → Prop), args = mkA g zs :: rest ∧ (g = true ∨ zs.length = 1) ∧
  OwnL s.st zs cl [] (fun _ => True) ∧ rest.all isV = true ∧ MCtr P f g cl rest Q ∧ ∀ cl' rs, Q cl' rs → (rs.all isV = true ∧ shpL cl cl') ∧ K (MS.put ⟨s.n, s.env, putL s.st zs cl'⟩ dst (retA rs))
def orM (A B : Prop) : Prop := A ∨ B
/-- A call that reads its arguments where they lie. -/
def BorK (P : Program) (f : FuncId) (s : MS) (x : Option (List AV)) (K : List Res → Prop) : Prop := ∃ args rs, x = some args ∧ rs.all cloR = true ∧ Ctr P f args rs ∧ (WfRs rs → K rs)
def stepK (P : Program) (op : Op) (dst : Option Nat) (s : MS) (K : MS → Prop) : Prop := match op with
  | .call c => match c.callee with
    | .value (.func f) => orM (bindF (fzAs s.st (c.args.toList.map (evA s))) (enterK P f s dst K)) (orM (BorK P f s (borAs s.st (c.args.toList.map (evA s))) (resK s dst K s.st)) (MutK P f s (c.args.toList.map (evA s)) dst K))
    | _ => bindO (opE P s (.call c)) (putK s dst K)
  | op => bindO (opE P s op) (putK s dst K)

def gO (P : Program) (o : Oper) (K : MS → Prop) (s : MS) (b : Bool) : Prop := CondK b (stepK P o.op o.dst s K) (K (s.put o.dst .undef))
theorem gO_true {P : Program} {o : Oper} {K : MS → Prop} {s : MS} : gO P o K s true = stepK P o.op o.dst s K := CondK_true
theorem gO_false {P : Program} {o : Oper} {K : MS → Prop} {s : MS} : gO P o K s false = K (s.put o.dst .undef) := CondK_false
theorem gO.mk {P : Program} {o : Oper} {K : MS → Prop} {s : MS} {b : Bool} (h1 : b = true → stepK P o.op o.dst s K) (h2 : b = false → K (s.put o.dst .undef)) : gO P o K s b := CondK.mk h1 h2
def vpO (P : Program) (ops : Array Oper) (K : MS → Prop) : List Oper → MS → Prop
  | [], s => K s
  | o :: rest, s => bindB (gdA ops s.env o.guard) (gO P o (vpO P ops K rest) s)

/-- A region in the order of the text. -/
def vpR (P : Program) (ops : Array Oper) (K : MS → Prop) (s : MS) : Prop := vpO P ops K ops.toList s
theorem vpR_lit {P : Program} {l : List Oper} {K : MS → Prop} {s : MS} : vpR P l.toArray K s = vpO P l.toArray K l s := rfl

/-- Objects frozen ahead of a region that draws. -/
def fzObs (st : List Ob) : List Nat → Option (List Ob)
  | [] => some st
  | l :: ls => match obAt st l with
    | some ob => if pureE ob.xs then fzObs (unwr st l) ls else none
    | none => none

/-! ### The head of a loop: what is kept -/
def noRefC (N : Nat) : Cl → Bool
  | .ref l => decide (l < N)
  | _ => true
mutual
def noRefA (N : Nat) : AV → Bool
  | .c x => noRefC N x
  | .agg xs => xs.all (noRefC N)
  | .lp l _ _ => decide (l < N)
  | .tup xs => noRefAs N xs
  | .pin x _ => noRefA N x
  | _ => true
def noRefAs (N : Nat) : List AV → Bool
  | [] => true
  | x :: xs => noRefA N x && noRefAs N xs
end
def noRefOb (N : Nat) (ob : Ob) : Bool := pureE ob.xs || ob.xs.all fun x => x.all (noRefC N)
def trim (N : Nat) (keys : List Nat) (s : MS) : MS := ⟨s.n, keys.map fun k => (k, eget s.env k), s.st.take N⟩
def trimOk (N : Nat) (keys : List Nat) (s : MS) : Prop := (keys.all fun k => noRefA N (eget s.env k)) = true ∧ ((s.st.take N).all (noRefOb N)) = true

/-- Whatever a state stands for, the other stands for too. -/
def Head (s t : MS) : Prop := t.n = s.n ∧ ∀ (w0 : Bs) (St0 St : Nat → Nat → Prop) (β : Nat → Option Nat) (a : Act) (w : World), Core w0 St0 St β s a w → ∃ St' β', Core w0 St0 St' β' t a w

def LoopK (s : MS) (body : MS → (MS → Prop) → Prop) : Prop :=
  ∃ (H1 : MS → Prop) (H2 : MS → MS → Prop) (A : Type) (f : A → MS) (p : A → Prop) (μ : A → Nat), (∀ s t, H1 s → H2 s t → Head s t) ∧ (∃ x, H1 s ∧ H2 s (f x) ∧ p x) ∧
    ∀ x, p x → body (f x) fun s' => ∃ y, H1 s' ∧ H2 s' (f y) ∧ p y ∧ μ y < μ x

/-! ### Objects kept by choice, in a new order -/
def idxL : List (Nat × Bool) → Nat → Nat
  | [], _ => 0
  | x :: xs, l => if x.1 = l then 0 else idxL xs l + 1
def hasL : List (Nat × Bool) → Nat → Bool
  | [], _ => false
  | x :: xs, l => decide (x.1 = l) || hasL xs l
def rnC (sel : List (Nat × Bool)) : Cl → Cl
  | .ref l => .ref (idxL sel l)
  | c => c
def inC (sel : List (Nat × Bool)) : Cl → Bool
  | .ref l => hasL sel l
  | _ => true
mutual
def rnA (sel : List (Nat × Bool)) : AV → AV
  | .c x => .c (rnC sel x)
  | .agg xs => .agg (xs.map (rnC sel))
  | .lp l i off => .lp (idxL sel l) i off
  | .tup xs => .tup (rnAs sel xs)
  | .ip xs => .ip xs
  | .undef => .undef
  | .un => .un
  | .pin x u => .pin (rnA sel x) u
def rnAs (sel : List (Nat × Bool)) : List AV → List AV
  | [] => []
  | x :: xs => rnA sel x :: rnAs sel xs
end
mutual
def inA (sel : List (Nat × Bool)) : AV → Bool
  | .c x => inC sel x
  | .agg xs => xs.all (inC sel)
  | .lp l _ _ => hasL sel l
  | .tup xs => inAs sel xs
  | .pin x _ => inA sel x
  | _ => true
def inAs (sel : List (Nat × Bool)) : List AV → Bool
  | [] => true
  | x :: xs => inA sel x && inAs sel xs
end
def rnOb (sel : List (Nat × Bool)) (r : Bool) (ob : Ob) : Ob := if r = true then ⟨ob.ty, ob.sz, ob.xs.map (fun x => x.map (rnC sel)), ob.wr, ob.live⟩ else ob
def relSt (sel : List (Nat × Bool)) (st : List Ob) : List (Nat × Bool) → List Ob
  | [] => []
  | e :: r => (match st[e.1]? with | some ob => rnOb sel e.2 ob | none => default) :: relSt sel st r
def rel (sel : List (Nat × Bool)) (keys : List Nat) (s : MS) : MS := ⟨s.n, keys.map fun k => (k, rnA sel (eget s.env k)), relSt sel s.st sel⟩
def selOk (sel : List (Nat × Bool)) (st : List Ob) : List (Nat × Bool) → Prop
  | [] => True
  | e :: r => (match st[e.1]? with | some ob => (if e.2 = true then (ob.xs.all fun x => x.all (inC sel)) else pureE ob.xs) = true | none => False) ∧ selOk sel st r
def nodL : List (Nat × Bool) → Bool
  | [] => true
  | x :: xs => !hasL xs x.1 && nodL xs
def relOk (sel : List (Nat × Bool)) (keys : List Nat) (s : MS) : Prop := nodL sel = true ∧ (keys.all fun k => inA sel (eget s.env k)) = true ∧ selOk sel s.st sel

def DrawK (P : Program) (ops : Array Oper) (s : MS) (K : MS → Prop) : Prop := ∃ ls st', fzObs s.st ls = some st' ∧ vpD P ops K ops.toList ⟨s.n, s.env, st'⟩

def blkK (id : Nat) (Q : Ex → MS → Prop) : Ex → MS → Prop
  | .normal, s => Q .normal s
  | .exit i, s => if i = id then Q .normal s else Q (.exit i) s
  | .ret, s => Q .ret s
def lopK (K : MS → Prop) (Q : Ex → MS → Prop) : Ex → MS → Prop
  | .normal, s => K s
  | .exit i, s => Q (.exit i) s
  | .ret, s => Q .ret s
def seqM (V : MS → (Ex → MS → Prop) → Prop) (Q : Ex → MS → Prop) : Ex → MS → Prop
  | .normal, s => V s Q
  | .exit i, s => Q (.exit i) s
  | .ret, s => Q .ret s
def cndM (V W : MS → (Ex → MS → Prop) → Prop) (s : MS) (Q : Ex → MS → Prop) (b : Bool) : Prop := CondK b (V s Q) (W s Q)
theorem cndM_true {V W : MS → (Ex → MS → Prop) → Prop} {s : MS} {Q : Ex → MS → Prop} : cndM V W s Q true = V s Q := CondK_true
theorem cndM_false {V W : MS → (Ex → MS → Prop) → Prop} {s : MS} {Q : Ex → MS → Prop} : cndM V W s Q false = W s Q := CondK_false
theorem cndM.mk {V W : MS → (Ex → MS → Prop) → Prop} {s : MS} {Q : Ex → MS → Prop} {b : Bool} (h1 : b = true → V s Q) (h2 : b = false → W s Q) : cndM V W s Q b := CondK.mk h1 h2
def lopM (V : MS → (Ex → MS → Prop) → Prop) (Q : Ex → MS → Prop) (s1 : MS) (K : MS → Prop) : Prop := V s1 (lopK K Q)
def vp (P : Program) : Code → MS → (Ex → MS → Prop) → Prop
  | .skip, s, Q => Q .normal s
  | .region _ ops false, s, Q => vpR P ops (Q .normal) s
  | .region _ ops true, s, Q => DrawK P ops s (Q .normal)
  | .seq x y, s, Q => vp P x s (seqM (vp P y) Q)
  | .cond c x y, s, Q => boolK (evA s c) (cndM (vp P x) (vp P y) s Q)
  | .block id x, s, Q => vp P x s (blkK id Q)
  | .loop x, s, Q => LoopK s (lopM (vp P x) Q)
  | .exit id, s, Q => Q (.exit id) s
  | .scope x, s, Q => vp P x s Q
  | .ret, s, Q => Q .ret s
  | _, _, _ => False

/-- What is asked of the text, once a function. -/
def opsOk (ops : Array Oper) : Bool := ops.toList.all fun o => o.op.operands.toList.all opndOk
def codeOk (n : Nat) : Code → Bool
  | .region _ ops false => opsOk ops
  | .region _ ops true => opsOk ops && drawOk n ops
  | .seq x y => codeOk n x && codeOk n y
  | .cond c x y => opndOk c && codeOk n x && codeOk n y
  | .block _ x => codeOk n x
  | .loop x => codeOk n x
  | .scope x => codeOk n x
  | _ => true

def Ex.of : Ex → Exit
  | .normal => .normal
  | .exit i => .exit i
  | .ret => .ret

/-- The machine's post, read in the model. -/
def PostM (w0 : Bs) (St0 : Nat → Nat → Prop) (n : Nat) (Q : Ex → MS → Prop) : Exit → Act → World → Prop := fun e a w => ∃ x s, e = Ex.of x ∧ Q x s ∧ s.n = n ∧ Sim w0 St0 s a w

theorem put_n (s : MS) (d : Option Nat) (v : AV) : (s.put d v).n = s.n := by
  cases d with
  | none => rfl
  | some d => simp only [MS.put]; split <;> rfl

theorem step_ok (h : Core w0 St0 St β s a w) (o : Oper) (hc : o.op.operands.toList.all opndOk = true) {K : MS → Prop} (hk : stepK P o.op o.dst s K) (Q : Exit → Act → World → Prop) :
    o.wp P a w (fun a' w' => ∃ s', K s' ∧ s'.n = s.n ∧ Sim w0 St0 s' a' w') Q := by
  have hD : ∀ {y : AV} {st' : List Ob}, opE P s o.op = some (y, st') → K (MS.put ⟨s.n, s.env, st'⟩ o.dst y) → o.wp P a w (fun a' w' => ∃ s', K s' ∧ s'.n = s.n ∧ Sim w0 St0 s' a' w') Q := fun {y st'} he hK => by
    obtain ⟨nx, v, w', St', β', h1, h2, h3, h4⟩ := opE_ok h o hc he
    unfold Oper.wp
    rw [h1]
    rcases h2 with rfl | ⟨rfl, rfl⟩
    · exact ⟨_, hK, put_n _ _ _, St', β', h3.put o.dst h4⟩
    · exact ⟨_, hK, put_n _ _ _, St', β', h3.put o.dst h4⟩
  have hF : ∀ op, o.op = op → (∀ c, op ≠ .call c) → stepK P op o.dst s K → o.wp P a w (fun a' w' => ∃ s', K s' ∧ s'.n = s.n ∧ Sim w0 St0 s' a' w') Q := fun op hop hnc hs => by
    have hs' : bindO (opE P s op) (putK s o.dst K) := by
      cases op with
      | call c => exact absurd rfl (hnc c)
      | _ => exact hs
    unfold bindO at hs'
    split at hs'
    · rename_i y st' he
      exact hD (by rw [hop]; exact he) hs'
    · exact hs'.elim
  cases hop : o.op with
  | call c =>
    rw [hop] at hk
    simp only [stepK, orM, bindF, bindO, enterK, putK] at hk
    split at hk
    · rename_i f hcl
      have hca : c.args.toList.all opndOk = true := by
        rw [hop] at hc
        simp only [Op.operands, Call.operands, Array.toList_append, List.all_append, Bool.and_eq_true] at hc
        exact hc.2
      rcases hk with hk | hk | hk
      rotate_left
      · obtain ⟨args, rs, hf, hclo, hspec, hK⟩ := hk
        obtain ⟨φ, hφ⟩ := h.own
        have hargs := borAs_ok h hφ hf (evAs_ok h c.args.toList hca)
        unfold Oper.wp
        rw [run_call o c f hop hcl hspec.1]
        simp only [Oper.upon]
        have hcall := hspec.2 w _ (c.args.toList.map a.eval) (fun b o hb => AllSt.lt h hφ hb) hargs
        have ea : (c.args.toList.map a.eval).toArray = c.args.map a.eval := by apply Array.ext'; simp
        rw [ea] at hcall
        refine hcall.mono fun e w' hb => ?_
        obtain ⟨us, bs, St2, hb⟩ := hb
        have hb := hb.clo hclo h.stIn
        obtain ⟨β', k1, k2⟩ := back_res h hb
        have hwf : WfRs rs := by
          obtain ⟨Φs, hr, _⟩ := hb.res
          exact hr.wf
        have e1 := hb.ret
        subst e1
        exact ⟨_, hK hwf, put_n _ _ _, St, β', k1.put o.dst (retA_ok k2)⟩
      · obtain ⟨rest, g, zs, cl, Q', hargs, hg, ho, hv1, hspec, hK⟩ := hk
        obtain ⟨φ, hφ⟩ := h.own
        have he := evAs_ok h c.args.toList hca
        rw [hargs] at he
        simp only [AVRs] at he
        obtain ⟨u, vs, hvals, hu, hvs⟩ := he
        have hus : ∃ us : List Value, u = mkV g us ∧ us.length = zs.length ∧ ∀ (k : Nat) (c : Cl), zs[k]? = some c → ∃ y, us[k]? = some y ∧ RdC w St s.st β c y := by
          cases g with
          | true =>
            simp only [mkA, if_true, AVR] at hu
            obtain ⟨us, e1, e2, e3⟩ := hu
            exact ⟨us, by simp only [mkV, if_true]; exact e1, e2, e3⟩
          | false =>
            have hz1 : zs.length = 1 := by simpa using hg
            match zs, hz1 with
            | [z], _ =>
              simp only [mkA, Bool.false_eq_true, if_false, AVR, List.headD_cons] at hu
              refine ⟨[u], by simp [mkV], rfl, fun k c hk => ?_⟩
              cases k with
              | zero => simp only [List.getElem?_cons_zero, Option.some.injEq] at hk; subst hk; exact ⟨u, rfl, hu⟩
              | succ k => simp at hk
        obtain ⟨us, rfl, hul, hur⟩ := hus
        have hrd := OwnL_rd h hφ ho hul hur
        have hGf : ∀ (k x : Nat), (∃ l, zs[k]? = some (Cl.ref l) ∧ Fp s.st β φ l x) → x < w.heap.size ∧ ∀ o, ¬ St x o := fun k x ⟨l, q1, q2⟩ => by
          obtain ⟨_, ob, p1, p2, _⟩ := OwnL_at zs cl [] _ ho k l q1
          obtain ⟨r1, r2, r3⟩ := Fp_free h hφ q2 fun ob' hob' => by
            obtain ⟨p3, _⟩ := obAt_some p1
            rw [p3] at hob'; cases hob'; exact p2
          exact ⟨r2, r3⟩
        have hcall := hspec.2.2 w St us _ vs h.stIn hGf hrd (isV_rds hv1 hvs)
        have ea : (mkV g us :: vs).toArray = c.args.map a.eval := by rw [← hvals]; apply Array.ext'; simp
        rw [ea] at hcall
        unfold Oper.wp
        rw [run_call o c f hop hcl hspec.1]
        simp only [Oper.upon]
        refine hcall.mono fun e w' hb => ?_
        obtain ⟨cl', rs, rv, G', b0, b1, b2, b3, b7, b8, b9⟩ := hb
        obtain ⟨⟨hv2, hsh⟩, hK⟩ := hK cl' rs b0
        subst b1
        have hcore := mut_core h hφ ho hur (fun k x hx => hx) hsh b2 b3 (fun _ _ h => h) (fun _ _ h _ => h) (fun b o hb => Nat.lt_of_lt_of_le (h.stIn b o hb) b2.size) b8 (fun k x hx => by
          rcases b9 k x hx with h9 | ⟨h9, h10⟩
          · exact .inl h9
          · exact .inr ⟨h9, h10, fun o ho => by have := h.stIn x o ho; omega⟩)
        refine ⟨_, hK, put_n _ _ _, St, β, hcore.put o.dst (retA_ok ?_)⟩
        have key : ∀ (xs : List AV) (us : List Value), RdAs w' St xs us → AVRs w' St (putL s.st zs cl') β xs us := by
          intro xs
          induction xs with
          | nil => intro us h; simp only [AVRs]; exact h
          | cons x xs ih =>
            intro us h
            obtain ⟨y, ys, h1, h2, h3⟩ := h
            simp only [AVRs]
            exact ⟨y, ys, h1, h2.toAVR, ih ys h3⟩
        exact key _ _ b7
      split at hk
      · rename_i args st1 hf
        obtain ⟨rs, hspec, hK⟩ := hk
        obtain ⟨St1, q1, q2, q3⟩ := fzAs_ok _ _ _ _ St h hf
        have hargs := q3 _ (evAs_ok h c.args.toList hca)
        unfold Oper.wp
        rw [run_call o c f hop hcl hspec.1]
        simp only [Oper.upon]
        have hcall := hspec.2 w St1 (c.args.toList.map a.eval) q1.stIn hargs
        have ea : (c.args.toList.map a.eval).toArray = c.args.map a.eval := by apply Array.ext'; simp
        rw [ea] at hcall
        refine hcall.mono fun e w' hb => ?_
        obtain ⟨us, bs, St2, hb⟩ := hb
        obtain ⟨β', k1, k2⟩ := back_res q1 hb
        have hwf : WfRs rs := by
          obtain ⟨Φs, hr, _⟩ := hb.res
          exact hr.wf
        have e1 := hb.ret
        subst e1
        exact ⟨_, hK hwf, put_n _ _ _, St2, β', k1.put o.dst (retA_ok k2)⟩
      · exact hk.elim
    · split at hk
      · rename_i y st' he
        exact hD (by rw [hop]; exact he) hk
      · exact hk.elim
  | _ => exact hF _ hop (fun c => by simp) (by rw [hop] at hk; exact hk)

theorem vpO_ok (ops : Array Oper) (Q : Exit → Act → World → Prop) (K : MS → Prop) (n : Nat) : ∀ (l : List Oper) (k : Nat), (∀ j, l[j]? = ops[k + j]?) → (l.all fun o => o.op.operands.toList.all opndOk) = true →
    ∀ (s : MS) (a : Act) (w : World), s.n = n → Sim w0 St0 s a w → vpO P ops K l s → (∀ s' a' w', K s' → s'.n = n → Sim w0 St0 s' a' w' → Q .normal a' w') → wpList P ops Q l a w
  | [], _, _, _, s, a, w, hn, hs, hv, hQ => hQ s a w hv hn hs
  | o :: l, k, hl, hc, s, a, w, hn, hs, hv, hQ => by
    obtain ⟨St, β, h⟩ := hs
    simp only [List.all_cons, Bool.and_eq_true] at hc
    simp only [vpO, bindB, gO] at hv
    split at hv
    · rename_i b hb
      have hw := gdA_ok h hb
      have hl' : ∀ j, l[j]? = ops[k + 1 + j]? := fun j => by
        have := hl (j + 1)
        simpa [Nat.add_assoc, Nat.add_comm 1 j] using this
      unfold wpList
      rw [hw]
      cases b with
      | true =>
        simp only [if_true]
        left
        exact Oper.wp_mono (fun a' w' ⟨s', hK, hn', hs'⟩ => vpO_ok ops Q K n l (k + 1) hl' hc.2 s' a' w' (hn'.trans hn) hs' hK hQ) (step_ok h o hc.1 (hv.1 rfl) Q)
      | false =>
        simp only [Bool.false_eq_true, if_false]
        exact vpO_ok ops Q K n l (k + 1) hl' hc.2 _ _ _ ((put_n _ _ _).trans hn) ⟨St, β, h.put o.dst (by simp only [AVR])⟩ (hv.2 rfl) hQ
    · exact hv.elim

theorem fzObs_ok : ∀ (ls : List Nat) (st st' : List Ob) (St : Nat → Nat → Prop), Core w0 St0 St β ⟨s.n, s.env, st⟩ a w → fzObs st ls = some st' → ∃ St', Core w0 St0 St' β ⟨s.n, s.env, st'⟩ a w
  | [], st, st', St, h, hf => by simp only [fzObs, Option.some.injEq] at hf; subst hf; exact ⟨St, h⟩
  | l :: ls, st, st', St, h, hf => by
    simp only [fzObs] at hf
    split at hf
    · rename_i ob hob
      split at hf
      · rename_i hp
        obtain ⟨St1, q1, _⟩ := h.freeze l hob hp
        exact fzObs_ok ls _ st' St1 q1 hf
      · cases hf
    · cases hf

/-! ### Dropping objects that nothing names -/
theorem eget_map (keys : List Nat) (env : List (Nat × AV)) (i : Nat) : eget (keys.map fun k => (k, eget env k)) i = if i ∈ keys then eget env i else .un := by
  induction keys with
  | nil => simp [eget]
  | cons k keys ih =>
    simp only [List.map_cons, eget, ih, List.mem_cons]
    by_cases e : k = i
    · simp [e]
    · have e' : ¬ i = k := fun h => e h.symm
      simp [e, e']

theorem RefR_take {st : List Ob} {N l : Nat} {u : Value} (hl : l < N) (h : RefR w st β l u) : RefR w (st.take N) β l u := by
  unfold RefR at h ⊢
  rw [List.getElem?_take, if_pos hl]; exact h
theorem RdC_take {st : List Ob} {N : Nat} {c : Cl} {u : Value} (hc : noRefC N c = true) (h : RdC w St st β c u) : RdC w St (st.take N) β c u := by
  cases c with
  | ref l => exact RefR_take (by simpa [noRefC] using hc) h
  | ow ty sz xs => simp [RdC, RdD] at h
  | v x => exact h
  | sl xs => exact h
mutual
theorem AVR_take {st : List Ob} {N : Nat} : ∀ (x : AV) (u : Value), noRefA N x = true → AVR w St st β x u → AVR w St (st.take N) β x u
  | .c x, u, hc, h => by simp only [AVR] at h ⊢; exact RdC_take (by simpa [noRefA] using hc) h
  | .agg xs, u, hc, h => by
    simp only [AVR] at h ⊢
    simp only [noRefA] at hc
    obtain ⟨us, h1, h2, h3⟩ := h
    refine ⟨us, h1, h2, fun k c hk => ?_⟩
    obtain ⟨y, hy, hr⟩ := h3 k c hk
    exact ⟨y, hy, RdC_take (List.all_eq_true.1 hc c (List.mem_of_getElem? hk)) hr⟩
  | .lp l i off, u, hc, h => by
    simp only [AVR] at h ⊢
    have hl : l < N := by simpa [noRefA] using hc
    rw [List.getElem?_take, if_pos hl]; exact h
  | .ip xs, u, _, h => by simp only [AVR] at h ⊢; exact h
  | .tup xs, u, hc, h => by
    simp only [AVR] at h ⊢
    obtain ⟨us, h1, h2⟩ := h
    exact ⟨us, h1, AVRs_take xs us (by simpa [noRefA] using hc) h2⟩
  | .undef, u, _, h => by simp only [AVR] at h ⊢; exact h
  | .un, u, _, h => by simp only [AVR]
  | .pin x u0, u, hc, h => by
    simp only [AVR] at h ⊢
    exact ⟨h.1, AVR_take x u (by simpa [noRefA] using hc) h.2⟩
theorem AVRs_take {st : List Ob} {N : Nat} : ∀ (xs : List AV) (us : List Value), noRefAs N xs = true → AVRs w St st β xs us → AVRs w St (st.take N) β xs us
  | [], us, _, h => by simp only [AVRs] at h ⊢; exact h
  | x :: xs, us, hc, h => by
    simp only [AVRs] at h ⊢
    simp only [noRefAs, Bool.and_eq_true] at hc
    obtain ⟨y, ys, h1, h2, h3⟩ := h
    exact ⟨y, ys, h1, AVR_take x y hc.1 h2, AVRs_take xs ys hc.2 h3⟩
end

theorem RdB_take {st : List Ob} {N : Nat} {c : Cl} {u : Value} (hc : noRefC N c = true) (h : RdB w St st β c u) : RdB w St (st.take N) β c u := by
  cases c with
  | ow ty sz xs => exact h
  | v y => exact RdC_take (w := w) (St := St) (st := st) (β := β) (c := .v y) hc h
  | sl y => exact RdC_take (w := w) (St := St) (st := st) (β := β) (c := .sl y) hc h
  | ref y => exact RdC_take (w := w) (St := St) (st := st) (β := β) (c := .ref y) hc h

theorem Core.trim (h : Core w0 St0 St β s a w) {N : Nat} {keys : List Nat} (ht : trimOk N keys s) : Core w0 St0 St β (trim N keys s) a w := by
  obtain ⟨t1, t2⟩ := ht
  have hg : ∀ l ob, (s.st.take N)[l]? = some ob → s.st[l]? = some ob := fun l ob hl => by
    rw [List.getElem?_take] at hl
    split at hl
    · exact hl
    · cases hl
  exact {
    defers := h.defers
    size := h.size
    env := fun i => by
      simp only [Go.Vm.trim, eget_map]
      split
      · rename_i hi
        exact AVR_take _ _ (List.all_eq_true.1 t1 i hi) (h.env i)
      · simp only [AVR]
    below := h.below, st0 := h.st0, stOld := h.stOld, stIn := h.stIn
    obs := fun l ob b hl hlive hβ => by
      obtain ⟨q1, q2, cs, g1, g2, g3⟩ := h.obs l ob b (hg l ob hl) hlive hβ
      refine ⟨q1, q2, cs, g1, g2, fun k c hk => ?_⟩
      obtain ⟨u, hu, hr⟩ := g3 k c hk
      refine ⟨u, hu, RdB_take ?_ hr⟩
      have hno := List.all_eq_true.1 t2 ob (List.mem_of_getElem? hl)
      obtain ⟨x, hx, hcx⟩ := List.mem_flatten.1 (List.mem_of_getElem? hk)
      simp only [noRefOb, Bool.or_eq_true] at hno
      rcases hno with hno | hno
      · have := List.all_eq_true.1 (List.all_eq_true.1 hno x hx) c hcx
        cases c <;> simp_all [pureC, noRefC]
      · exact List.all_eq_true.1 (List.all_eq_true.1 hno x hx) c hcx
    nil := fun l ob hl => h.nil l ob (hg l ob hl)
    inj := fun l l' ob ob' b h1 h2 => h.inj l l' ob ob' b (hg l ob h1) (hg l' ob' h2)
    sep := fun l ob b o hl => h.sep l ob b o (hg l ob hl)
    own := h.own.move id (fun x hx => ⟨⟨hx.1, hx.2.1, hx.2.2.1, hx.2.2.2.1, fun l ob hl => hx.2.2.2.2 l ob (hg l ob hl)⟩, rfl⟩) (fun _ _ h => h) (fun _ _ _ => rfl)
      (fun l ob b k c h1 h2 h3 h4 _ => ⟨ob, b, hg l ob h1, h2, h3, h4, rfl⟩) (fun _ _ _ _ _ _ _ _ e => e) }


theorem eget_mapF (g : Nat → AV) (keys : List Nat) (i : Nat) : eget (keys.map fun k => (k, g k)) i = if i ∈ keys then g i else .un := by
  induction keys with
  | nil => simp [eget]
  | cons k ks ih =>
    simp only [List.map_cons, eget, ih]
    by_cases e : k = i
    · subst e; simp
    · simp [e, Ne.symm e]
theorem idxL_ok {sel : List (Nat × Bool)} {l : Nat} (h : hasL sel l = true) : ∃ r, sel[idxL sel l]? = some (l, r) := by
  induction sel with
  | nil => simp [hasL] at h
  | cons x xs ih =>
    simp only [idxL]
    by_cases e : x.1 = l
    · subst e; exact ⟨x.2, by simp⟩
    · simp only [hasL, e, decide_false, Bool.false_or] at h
      obtain ⟨r, hr⟩ := ih h
      exact ⟨r, by simpa [e] using hr⟩
theorem hasL_at {sel : List (Nat × Bool)} {i : Nat} {e : Nat × Bool} (h : sel[i]? = some e) : hasL sel e.1 = true := by
  induction sel generalizing i with
  | nil => simp at h
  | cons x xs ih =>
    simp only [hasL, Bool.or_eq_true, decide_eq_true_eq]
    cases i with
    | zero => simp at h; exact .inl (by rw [h])
    | succ i => exact .inr (ih (by simpa using h))
theorem nodL_ok {sel : List (Nat × Bool)} (h : nodL sel = true) : ∀ {i j : Nat} {e e' : Nat × Bool}, sel[i]? = some e → sel[j]? = some e' → e.1 = e'.1 → i = j := by
  induction sel with
  | nil => intro i j e e' hi; simp at hi
  | cons x xs ih =>
    simp only [nodL, Bool.and_eq_true, Bool.not_eq_true'] at h
    intro i j e e' hi hj he
    cases i with
    | zero =>
      cases j with
      | zero => rfl
      | succ j =>
        simp only [List.getElem?_cons_zero, Option.some.injEq] at hi
        have := hasL_at (sel := xs) (by simpa using hj)
        rw [← he, ← hi, h.1] at this
        cases this
    | succ i =>
      cases j with
      | zero =>
        simp only [List.getElem?_cons_zero, Option.some.injEq] at hj
        have := hasL_at (sel := xs) (by simpa using hi)
        rw [he, ← hj, h.1] at this
        cases this
      | succ j =>
        have := ih h.2 (i := i) (j := j) (e := e) (e' := e') (by simpa using hi) (by simpa using hj) he
        omega
theorem relSt_at (sel : List (Nat × Bool)) (st : List Ob) : ∀ (l : List (Nat × Bool)) (i : Nat), (relSt sel st l)[i]? = (l[i]?).map fun e => match st[e.1]? with | some ob => rnOb sel e.2 ob | none => default
  | [], i => by simp [relSt]
  | e :: r, 0 => by simp [relSt]
  | e :: r, i + 1 => by simp only [relSt, List.getElem?_cons_succ]; exact relSt_at sel st r i
theorem selOk_at {sel : List (Nat × Bool)} {st : List Ob} : ∀ {l : List (Nat × Bool)}, selOk sel st l → ∀ {i : Nat} {e : Nat × Bool}, l[i]? = some e → ∃ ob, st[e.1]? = some ob ∧ (if e.2 = true then (ob.xs.all fun x => x.all (inC sel)) else pureE ob.xs) = true
  | [], _, i, e, h => by simp at h
  | x :: r, ho, i, e, h => by
    simp only [selOk] at ho
    cases i with
    | zero =>
      simp only [List.getElem?_cons_zero, Option.some.injEq] at h
      subst h
      have := ho.1
      split at this
      · rename_i ob hob; exact ⟨ob, hob, this⟩
      · exact this.elim
    | succ i => exact selOk_at ho.2 (by simpa using h)

section
variable {sel : List (Nat × Bool)} {st : List Ob}
def relB (sel : List (Nat × Bool)) (β : Nat → Option Nat) (i : Nat) : Option Nat := match sel[i]? with | some e => β e.1 | none => none
theorem rel_ref (ho : selOk sel st sel) {l : Nat} {u : Value} (hl : hasL sel l = true) (h : RefR w st β l u) : RefR w (relSt sel st sel) (relB sel β) (idxL sel l) u := by
  obtain ⟨r, hr⟩ := idxL_ok hl
  obtain ⟨ob, hob, _⟩ := selOk_at ho hr
  simp only at hob
  unfold RefR at h ⊢
  rw [relSt_at, hr]
  simp only [Option.map_some, hob, relB, hr] at h ⊢
  have e1 : (rnOb sel r ob).live = ob.live := by unfold rnOb; split <;> rfl
  have e2 : (rnOb sel r ob).xs.length = ob.xs.length := by unfold rnOb; split <;> simp
  have e3 : (rnOb sel r ob).ty = ob.ty := by unfold rnOb; split <;> rfl
  have e4 : (rnOb sel r ob).sz = ob.sz := by unfold rnOb; split <;> rfl
  have e5 : ob.xs = [] → (rnOb sel r ob).xs = [] := by intro hx; unfold rnOb; split <;> simp [hx]
  refine ⟨h.1, fun hlive => ?_⟩
  have h2 := h.2 (e1 ▸ hlive)
  cases hβ : β l with
  | none => simp only [hβ] at h2 ⊢; exact ⟨h2.1, e5 h2.2⟩
  | some b => simp only [hβ] at h2 ⊢; simpa only [e2, e3, e4] using h2
theorem rel_C (ho : selOk sel st sel) {c : Cl} {u : Value} (hc : inC sel c = true) (h : RdC w St st β c u) : RdC w St (relSt sel st sel) (relB sel β) (rnC sel c) u := by
  cases c with
  | ref l => exact rel_ref ho hc h
  | v x => exact h
  | sl xs => exact h
  | ow ty sz xs => simp [RdC, RdD] at h
theorem rel_B (ho : selOk sel st sel) {c : Cl} {u : Value} (hc : inC sel c = true) (h : RdB w St st β c u) : RdB w St (relSt sel st sel) (relB sel β) (rnC sel c) u := by
  cases c with
  | ow ty sz xs => exact h
  | v y => exact rel_C (w := w) (St := St) (β := β) (c := .v y) ho hc h
  | sl y => exact rel_C (w := w) (St := St) (β := β) (c := .sl y) ho hc h
  | ref y => exact rel_C (w := w) (St := St) (β := β) (c := .ref y) ho hc h
theorem isOw_rn {c : Cl} : isOw (rnC sel c) = isOw c := by cases c <;> rfl
theorem rnC_ow {c : Cl} (h : isOw c = true) : rnC sel c = c := by cases c <;> simp_all [isOw, rnC]
mutual
theorem rel_A (ho : selOk sel st sel) : ∀ (x : AV) (u : Value), inA sel x = true → AVR w St st β x u → AVR w St (relSt sel st sel) (relB sel β) (rnA sel x) u
  | .c x, u, hc, h => by simp only [AVR, rnA] at h ⊢; exact rel_C ho (by simpa [inA] using hc) h
  | .agg xs, u, hc, h => by
    simp only [AVR, rnA] at h ⊢
    simp only [inA] at hc
    obtain ⟨us, h1, h2, h3⟩ := h
    refine ⟨us, h1, by simpa using h2, fun k c hk => ?_⟩
    rw [List.getElem?_map] at hk
    obtain ⟨c0, hc0, rfl⟩ := Option.map_eq_some_iff.1 hk
    obtain ⟨y, hy, hr⟩ := h3 k c0 hc0
    exact ⟨y, hy, rel_C ho (List.all_eq_true.1 hc c0 (List.mem_of_getElem? hc0)) hr⟩
  | .lp l i off, u, hc, h => by
    simp only [AVR, rnA] at h ⊢
    obtain ⟨r, hr⟩ := idxL_ok (sel := sel) (l := l) (by simpa [inA] using hc)
    obtain ⟨ob, hob, _⟩ := selOk_at ho hr
    simp only at hob
    rw [relSt_at, hr]
    simp only [Option.map_some, hob, relB, hr] at h ⊢
    have e1 : (rnOb sel r ob).live = ob.live := by unfold rnOb; split <;> rfl
    have e4 : (rnOb sel r ob).sz = ob.sz := by unfold rnOb; split <;> rfl
    rw [e1, e4]
    exact h
  | .ip xs, u, _, h => by simp only [AVR, rnA] at h ⊢; exact h
  | .tup xs, u, hc, h => by
    simp only [AVR, rnA] at h ⊢
    obtain ⟨us, h1, h2⟩ := h
    exact ⟨us, h1, rel_As ho xs us (by simpa [inA] using hc) h2⟩
  | .undef, u, _, h => by simp only [AVR, rnA] at h ⊢; exact h
  | .un, u, _, h => by simp only [AVR, rnA]
  | .pin x u0, u, hc, h => by
    simp only [AVR, rnA] at h ⊢
    exact ⟨h.1, rel_A ho x u (by simpa [inA] using hc) h.2⟩
theorem rel_As (ho : selOk sel st sel) : ∀ (xs : List AV) (us : List Value), inAs sel xs = true → AVRs w St st β xs us → AVRs w St (relSt sel st sel) (relB sel β) (rnAs sel xs) us
  | [], us, _, h => by simp only [AVRs, rnAs] at h ⊢; exact h
  | x :: xs, us, hc, h => by
    simp only [AVRs, rnAs] at h ⊢
    simp only [inAs, Bool.and_eq_true] at hc
    obtain ⟨y, ys, h1, h2, h3⟩ := h
    exact ⟨y, ys, h1, rel_A ho x y hc.1 h2, rel_As ho xs ys hc.2 h3⟩
end
end

theorem Core.rel (h : Core w0 St0 St β s a w) {sel : List (Nat × Bool)} {keys : List Nat} (ht : relOk sel keys s) : Core w0 St0 St (relB sel β) (rel sel keys s) a w := by
  obtain ⟨t0, t1, t2⟩ := ht
  have hg : ∀ (i : Nat) (ob : Ob), (relSt sel s.st sel)[i]? = some ob → ∃ (e : Nat × Bool) (ob0 : Ob), sel[i]? = some e ∧ s.st[e.1]? = some ob0 ∧ ob = rnOb sel e.2 ob0 ∧ (if e.2 = true then (ob0.xs.all fun x => x.all (inC sel)) else pureE ob0.xs) = true := by
    intro i ob hi
    rw [relSt_at] at hi
    obtain ⟨e, he, h2⟩ := Option.map_eq_some_iff.1 hi
    obtain ⟨ob0, hob, hp⟩ := selOk_at t2 he
    simp only [hob] at h2
    exact ⟨e, ob0, he, hob, h2.symm, hp⟩
  have elive : ∀ r ob, (rnOb sel r ob).live = ob.live := by intro r ob; unfold rnOb; split <;> rfl
  have esz : ∀ r ob, (rnOb sel r ob).sz = ob.sz := by intro r ob; unfold rnOb; split <;> rfl
  have ety : ∀ r ob, (rnOb sel r ob).ty = ob.ty := by intro r ob; unfold rnOb; split <;> rfl
  have ewr : ∀ r ob, (rnOb sel r ob).wr = ob.wr := by intro r ob; unfold rnOb; split <;> rfl
  have elen : ∀ r ob, (rnOb sel r ob).xs.length = ob.xs.length := by intro r ob; unfold rnOb; split <;> simp
  have eβ : ∀ {i : Nat} {e : Nat × Bool}, sel[i]? = some e → relB sel β i = β e.1 := by intro i e he; simp only [relB, he]
  exact {
    defers := h.defers
    size := h.size
    env := fun i => by
      simp only [Go.Vm.rel, eget_mapF]
      split
      · rename_i hi
        exact rel_A t2 _ _ (List.all_eq_true.1 t1 i hi) (h.env i)
      · simp only [AVR]
    below := h.below, st0 := h.st0, stOld := h.stOld, stIn := h.stIn
    obs := fun i ob b hi hlive hβ => by
      obtain ⟨e, ob0, he, hob, rfl, hp⟩ := hg i ob hi
      rw [eβ he] at hβ
      rw [elive] at hlive
      obtain ⟨q1, q2, cs, g1, g2, g3⟩ := h.obs e.1 ob0 b hob hlive hβ
      refine ⟨q1, q2, cs, by rw [ety]; exact g1, ?_, ?_⟩
      · rw [esz]
        intro x hx
        unfold rnOb at hx
        split at hx
        · obtain ⟨y, hy, rfl⟩ := List.mem_map.1 hx
          rw [List.length_map]; exact g2 y hy
        · exact g2 x hx
      · intro k c hk
        unfold rnOb at hk
        split at hk
        · rename_i hr
          simp only [hr, if_true] at hp
          rw [← List.map_flatten, List.getElem?_map] at hk
          obtain ⟨c0, hc0, rfl⟩ := Option.map_eq_some_iff.1 hk
          obtain ⟨u, hu, hc⟩ := g3 k c0 hc0
          obtain ⟨x, hx, hcx⟩ := List.mem_flatten.1 (List.mem_of_getElem? hc0)
          exact ⟨u, hu, rel_B t2 (List.all_eq_true.1 (List.all_eq_true.1 hp x hx) c0 hcx) hc⟩
        · rename_i hr
          simp only [hr, if_false] at hp
          obtain ⟨u, hu, hc⟩ := g3 k c hk
          obtain ⟨x, hx, hcx⟩ := List.mem_flatten.1 (List.mem_of_getElem? hk)
          have := List.all_eq_true.1 (List.all_eq_true.1 hp x hx) c hcx
          refine ⟨u, hu, ?_⟩
          cases c with
          | ref l => simp [pureC] at this
          | v x => exact hc
          | sl xs => exact hc
          | ow ty sz xs => exact hc
    nil := fun i ob hi hlive hβ => by
      obtain ⟨e, ob0, he, hob, rfl, hp⟩ := hg i ob hi
      rw [eβ he] at hβ
      rw [elive] at hlive
      have := h.nil e.1 ob0 hob hlive hβ
      unfold rnOb
      split <;> simp [this]
    inj := fun i j o1 o2 b h1 h2 h3 h4 h5 h6 => by
      obtain ⟨e, ob0, he, hob, rfl, _⟩ := hg i o1 h1
      obtain ⟨e', ob0', he', hob', rfl, _⟩ := hg j o2 h2
      rw [eβ he] at h5
      rw [eβ he'] at h6
      rw [elive] at h3 h4
      exact nodL_ok t0 he he' (h.inj _ _ _ _ b hob hob' h3 h4 h5 h6)
    sep := fun i ob b o hi hlive hβ hbo => by
      obtain ⟨e, ob0, he, hob, rfl, _⟩ := hg i ob hi
      rw [eβ he] at hβ
      rw [elive] at hlive
      rw [ewr, elen, esz]
      exact h.sep e.1 ob0 b o hob hlive hβ hbo
    own := by
      refine h.own.move (fun i => ((sel[i]?).getD (0, false)).1) (fun x hx => ⟨⟨hx.1, hx.2.1, hx.2.2.1, hx.2.2.2.1, fun i ob hi hlv => ?_⟩, rfl⟩) (fun _ _ h => h) (fun _ _ _ => rfl) (fun i ob b k c hi hlive hβ hk hc => ?_) (fun i j o1 o2 h1 h2 _ _ e => ?_)
      · obtain ⟨e, ob0, he, hob, rfl, hp⟩ := hg i ob hi
        rw [eβ he]
        rw [elive] at hlv
        exact hx.2.2.2.2 e.1 ob0 hob hlv
      · obtain ⟨e, ob0, he, hob, rfl, hp⟩ := hg i ob hi
        rw [eβ he] at hβ
        rw [elive] at hlive
        refine ⟨ob0, b, by simpa [he] using hob, hlive, by simpa [he] using hβ, ?_, rfl⟩
        unfold rnOb at hk
        split at hk
        · rw [← List.map_flatten, List.getElem?_map] at hk
          obtain ⟨c0, hc0, rfl⟩ := Option.map_eq_some_iff.1 hk
          rw [isOw_rn] at hc
          rw [rnC_ow hc]
          exact hc0
        · exact hk
      · obtain ⟨e1, ob1, he1, _⟩ := hg i o1 h1
        obtain ⟨e2, ob2, he2, _⟩ := hg j o2 h2
        simp only [he1, he2, Option.getD_some] at e
        exact nodL_ok t0 he1 he2 e }

theorem DrawK.mk {l : List Oper} {s : MS} {K : MS → Prop} (h : vpD P l.toArray K l s) : DrawK P l.toArray s K := ⟨[], s.st, rfl, h⟩
theorem DrawK.mkF {l : List Oper} {s : MS} {K : MS → Prop} (ls : List Nat) {st' : List Ob} (hf : fzObs s.st ls = some st') (h : vpD P l.toArray K l ⟨s.n, s.env, st'⟩) : DrawK P l.toArray s K := ⟨ls, st', hf, h⟩

/-- THE MACHINE IS SOUND. -/
theorem vp_ok (hm : P.follows .mixedOrders = true) (n : Nat) : ∀ (c : Code), codeOk n c = true → ∀ (s : MS) (Q : Ex → MS → Prop) (a : Act) (w : World), s.n = n → vp P c s Q → Sim w0 St0 s a w → c.wp P (PostM w0 St0 n Q) a w := by
  intro c
  induction c with
  | skip => intro _ s Q a w hn hv hs; exact wp_skip ⟨.normal, s, rfl, hv, hn, hs⟩
  | region id ops draw =>
    intro hc s Q a w hn hv hs
    cases draw with
    | false =>
      simp only [vp] at hv
      simp only [codeOk] at hc
      exact wp_region_list (vpO_ok ops _ (Q .normal) n ops.toList 0 (fun j => by simp) hc s a w hn hs hv fun s' a' w' hK hn' hs' => ⟨.normal, s', rfl, hK, hn', hs'⟩)
    | true =>
      simp only [vp] at hv
      simp only [codeOk, Bool.and_eq_true] at hc
      obtain ⟨ls, st', hf, hv⟩ := hv
      obtain ⟨St, β, h⟩ := hs
      obtain ⟨St1, h1⟩ := fzObs_ok ls s.st st' St h hf
      have hvn : vpD P ops (fun s' => Q .normal s' ∧ s'.n = n) ops.toList ⟨s.n, s.env, st'⟩ := by
        have key : ∀ (l : List Oper) (s : MS), s.n = n → vpD P ops (Q .normal) l s → vpD P ops (fun s' => Q .normal s' ∧ s'.n = n) l s := by
          intro l
          induction l with
          | nil => intro s hn h; exact ⟨h, hn⟩
          | cons o l ih =>
            intro s hn h
            simp only [vpD, bindB, gD, drPut] at h ⊢
            split
            · rename_i b hb
              simp only [hb] at h
              refine CondK.mk (fun e => ?_) (fun e => ih _ ((put_n _ _ _).trans hn) (h.2 e))
              obtain ⟨r, hr1, hr2⟩ := h.1 e
              exact ⟨r, hr1, ih _ ((put_n _ _ _).trans hn) hr2⟩
            · rename_i hb
              simp only [hb] at h
        exact key _ _ hn hv
      refine wp_mono (draw_region hm (by simp only; rw [hn]; exact hc.2) hc.1 h1 hvn) ?_
      rintro e a' w' ⟨rfl, s', ⟨hK, hn'⟩, hs'⟩
      exact ⟨.normal, s', rfl, hK, hn', hs'⟩
  | seq x y ihx ihy =>
    intro hc s Q a w hn hv hs
    simp only [codeOk, Bool.and_eq_true] at hc
    simp only [vp] at hv
    refine wp_seq (wp_mono (ihx hc.1 s _ a w hn hv hs) ?_)
    rintro e a' w' ⟨ex, s', rfl, hq, hn', hs'⟩
    cases ex with
    | normal => exact ihy hc.2 s' Q a' w' hn' hq hs'
    | exit i => exact ⟨.exit i, s', rfl, hq, hn', hs'⟩
    | ret => exact ⟨.ret, s', rfl, hq, hn', hs'⟩
  | cond c x y ihx ihy =>
    intro hc s Q a w hn hv hs
    simp only [codeOk, Bool.and_eq_true] at hc
    simp only [vp, boolK] at hv
    split at hv
    · rename_i b hev
      obtain ⟨St, β, h⟩ := hs
      have he := evA_ok h c hc.1.1
      rw [hev] at he
      obtain ⟨hval, _⟩ := v_ok he
      exact wp_cond_split hval (fun hb => ihx hc.1.2 s Q a w hn (hv.1 hb) ⟨St, β, h⟩) (fun hb => ihy hc.2 s Q a w hn (hv.2 hb) ⟨St, β, h⟩)
    · exact hv.elim
  | block id x ih =>
    intro hc s Q a w hn hv hs
    simp only [codeOk] at hc
    simp only [vp] at hv
    refine wp_block (wp_mono (ih hc s _ a w hn hv hs) ?_)
    rintro e a' w' ⟨ex, s', rfl, hq, hn', hs'⟩
    cases ex with
    | normal => exact ⟨.normal, s', rfl, hq, hn', hs'⟩
    | exit i =>
      simp only [Ex.of, Exit.inBlock]
      simp only [blkK] at hq
      by_cases e : i = id
      · simp only [e, if_true] at hq ⊢
        exact ⟨.normal, s', rfl, hq, hn', hs'⟩
      · simp only [e, if_false] at hq ⊢
        exact ⟨.exit i, s', rfl, hq, hn', hs'⟩
    | ret => exact ⟨.ret, s', rfl, hq, hn', hs'⟩
  | loop x ih =>
    intro hc s Q a w hn hv hs
    simp only [codeOk] at hc
    simp only [vp] at hv
    obtain ⟨H1, H2, A, f, p, μ, hH, ⟨x0, t1, t2, hp0⟩, hround⟩ := hv
    refine wp_loop_ghost (fun m a w => ∃ y, μ y = m ∧ p y ∧ (f y).n = n ∧ Sim w0 St0 (f y) a w) (μ x0) ⟨x0, rfl, hp0, ?_, ?_⟩ ?_
    · exact (hH _ _ t1 t2).1.trans hn
    · obtain ⟨St, β, h⟩ := hs
      exact (hH _ _ t1 t2).2 _ _ _ _ _ _ h
    · rintro m a w ⟨y, rfl, hp, hny, hsy⟩
      refine wp_mono (ih hc (f y) _ a w hny (hround y hp) hsy) ?_
      rintro e a' w' ⟨ex, s', rfl, hq, hn', hs'⟩
      cases ex with
      | normal =>
        obtain ⟨z, u1, u2, u3, u4⟩ := hq
        obtain ⟨St, β, h⟩ := hs'
        refine ⟨μ z, u4, z, rfl, u3, ?_, ?_⟩
        · exact (hH _ _ u1 u2).1.trans hn'
        · exact (hH _ _ u1 u2).2 _ _ _ _ _ _ h
      | exit i => exact ⟨.exit i, s', rfl, hq, hn', hs'⟩
      | ret => exact ⟨.ret, s', rfl, hq, hn', hs'⟩
  | exit id => intro _ s Q a w hn hv hs; exact wp_exit ⟨.exit id, s, rfl, hv, hn, hs⟩
  | scope x ih =>
    intro hc s Q a w hn hv hs
    simp only [codeOk] at hc
    simp only [vp] at hv
    refine wp_scope_straight (wp_mono (ih hc s Q a w hn hv hs) ?_)
    rintro e a' w' ⟨ex, s', rfl, hq, hn', hs'⟩
    cases ex with
    | normal => exact ⟨.normal, s', rfl, hq, hn', hs'⟩
    | exit i => exact ⟨.exit i, s', rfl, hq, hn', hs'⟩
    | ret => exact ⟨.ret, s', rfl, hq, hn', hs'⟩
  | ret => intro _ s Q a w hn hv hs; exact wp_ret ⟨.ret, s, rfl, hv, hn, hs⟩
  | _ => intro _ s Q a w _ hv _; simp only [vp] at hv

end Go.Vm
