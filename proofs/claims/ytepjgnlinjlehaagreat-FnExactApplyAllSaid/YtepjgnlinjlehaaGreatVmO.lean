/- The value machine, part O: append. -/
import Derived.Test.YtepjgnlinjlehaaGreatVmN
import Derived.Laws.AppendOwn
namespace Go.Vm
set_option linter.unusedSimpArgs false
set_option linter.unusedVariables false
open Go.RowKit

variable {P : Program} {w0 : Bs} {St0 St : Nat → Nat → Prop} {β : Nat → Option Nat} {s : MS} {a : Act} {w : World}

theorem fzL_len {cs cs' : List Cl} {st st' : List Ob} (h : fzL st cs = some (cs', st')) : cs'.length = cs.length := by
  induction cs generalizing st cs' st' with
  | nil => simp only [fzL, Option.some.injEq, Prod.mk.injEq] at h; obtain ⟨rfl, _⟩ := h; rfl
  | cons c cs ih =>
    simp only [fzL] at h
    split at h
    · rename_i h1 h2
      simp only [Option.some.injEq, Prod.mk.injEq] at h
      obtain ⟨rfl, _⟩ := h
      simp [ih h2]
    · cases h

theorem fzE'_ok : ∀ (xs ys : List (List Cl)) (st st' : List Ob) (St : Nat → Nat → Prop), Core w0 St0 St β ⟨s.n, s.env, st⟩ a w → fzE' st xs = some (ys, st') →
    ∃ St', Core w0 St0 St' β ⟨s.n, s.env, st'⟩ a w ∧ (∀ b o, St b o → St' b o) ∧ (∀ l u, RefR w st β l u → RefR w st' β l u) ∧ ys.length = xs.length ∧
      (∀ (l : Nat) (ob : Ob), st[l]? = some ob → ∃ ob', st'[l]? = some ob' ∧ ob'.sz = ob.sz ∧ (ob'.live = true → ob.live = true)) ∧
      ∀ (k : Nat) (c : Cl), ys.flatten[k]? = some c → ∃ d, xs.flatten[k]? = some d ∧ ∀ u, RdB w St st β d u → RdD w St' c u
  | [], ys, st, st', St, h, hf => by
    simp only [fzE', Option.some.injEq, Prod.mk.injEq] at hf
    obtain ⟨rfl, rfl⟩ := hf
    exact ⟨St, h, fun _ _ h => h, fun _ _ h => h, rfl, fun l ob h => ⟨ob, h, rfl, id⟩, fun k c hk => by simp at hk⟩
  | x :: xs, ys, st, st', St, h, hf => by
    simp only [fzE'] at hf
    split at hf
    · rename_i y st1 hy
      split at hf
      · rename_i ys1 st2 hys
        simp only [Option.some.injEq, Prod.mk.injEq] at hf
        obtain ⟨rfl, rfl⟩ := hf
        obtain ⟨St1, q1, q2, q3, q4, q5⟩ := fzL_ok x st y st1 St h hy
        obtain ⟨St2, r1, r2, r3, r4, r5, r6⟩ := fzE'_ok xs ys1 st1 st2 St1 q1 hys
        refine ⟨St2, r1, fun b o hbo => r2 b o (q2 b o hbo), fun l u hu => r3 l u (q3 l u hu), by simp [r4], fun l ob hl => ?_, fun k c hk => ?_⟩
        · obtain ⟨o1, p1, p2, p3⟩ := fzL_get hy hl
          obtain ⟨o2, p4, p5, p6⟩ := r5 l o1 p1
          exact ⟨o2, p4, p5.trans p2, fun hl => p3 (p6 hl)⟩
        · simp only [List.flatten_cons] at hk ⊢
          rcases Nat.lt_or_ge k y.length with h' | h'
          · rw [List.getElem?_append_left h'] at hk
            obtain ⟨d, hd1, hd2⟩ := q5 k c hk
            exact ⟨d, by rw [List.getElem?_append_left (by omega)]; exact hd1, fun u hu => RdD.mono r2 (fun _ _ _ => rfl) _ _ (hd2 u hu)⟩
          · rw [List.getElem?_append_right h'] at hk
            obtain ⟨d, hd1, hd2⟩ := r6 _ c hk
            exact ⟨d, by rw [List.getElem?_append_right (by omega), ← q4]; exact hd1, fun u hu => hd2 u (RdB.mono q2 (fun _ _ _ => rfl) q3 _ _ hu)⟩
      · cases hf
    · cases hf

theorem fzE_ok (xs ys : List (List Cl)) (st' : List Ob) (h : Core w0 St0 St β s a w) (hf : fzE s.st xs = some (ys, st')) :
    ∃ St', Core w0 St0 St' β ⟨s.n, s.env, st'⟩ a w ∧ (∀ b o, St b o → St' b o) ∧ (∀ l u, RefR w s.st β l u → RefR w st' β l u) ∧ ys.length = xs.length ∧
      (∀ (l : Nat) (ob : Ob), s.st[l]? = some ob → ∃ ob', st'[l]? = some ob' ∧ ob'.sz = ob.sz ∧ (ob'.live = true → ob.live = true)) ∧
      ∀ (k : Nat) (c : Cl), ys.flatten[k]? = some c → ∃ d, xs.flatten[k]? = some d ∧ ∀ u, RdB w St s.st β d u → RdD w St' c u := by
  unfold fzE at hf
  split at hf
  · rename_i hp
    simp only [Option.some.injEq, Prod.mk.injEq] at hf
    obtain ⟨rfl, rfl⟩ := hf
    refine ⟨St, h, fun _ _ h => h, fun _ _ h => h, rfl, fun l ob h => ⟨ob, h, rfl, id⟩, fun k c hk => ⟨c, hk, fun u hu => ?_⟩⟩
    have hpc : pureC c = true := by
      obtain ⟨x, hx, hcx⟩ := List.mem_flatten.1 (List.mem_of_getElem? hk)
      exact List.all_eq_true.1 (List.all_eq_true.1 hp x hx) c hcx
    exact pureC_rd hpc (hu.toC (pureC_notOw hpc))
  · exact fzE'_ok xs ys s.st st' St h hf

def rowOk (n : Nat) (r : List Cl) : Bool := r.length == n && r.all fun c => !isOw c
def appRows (n : Nat) (ys : List (List Cl)) : Bool := ys.all (rowOk n)
/-- append: the rows go along as they are, with the objects that they refer to. -/
def appE (P : Program) (s : MS) (T : TypeId) (x y : AV) : Option (AV × List Ob) := match tyElem P T with
  | some e => match tySize P e, tyZ P e, tyBytes P e with
    | some n, some zs, some by' => if zs.length = n ∧ 0 < n ∧ by' ≤ 65536 then match y with
        | .c d => match dataC s.st d with
          | some ys => if appRows n ys = true then match x with
                | .c (.v (.slice none 0 0)) => if ys.length ≤ 2147483648 then some (.c (.ref s.st.length), s.st ++ [⟨e, n, ys, true, true⟩]) else none
                | .c (.ref l) => match obAt s.st l with
                  | some ob => if ob.ty = e ∧ ob.sz = n ∧ ob.xs.length + ys.length ≤ 2147483648 then some (.c (.ref s.st.length), killSt s.st l ++ [⟨e, n, ob.xs ++ ys, ob.wr, true⟩]) else none
                  | none => none
                | _ => none
              else none
          | none => none
        | _ => none
      else none
    | _, _, _ => none
  | none => none


theorem length_kill (st : List Ob) (l : Nat) : (killSt st l).length = st.length := by simp [killSt]

/-- append of nothing. -/
theorem run_append_none {T e : TypeId} {n : Nat} {ty : TypeId} (ht : P.underlying T = some (.slice e)) (hs : tySize P e = some n) (base : Option Addr) (len cap : Nat) (hle : len ≤ cap) (ad : Option Addr) (c : Nat) (w : World) :
    (Builtin.append_ #[T, T] ty #[.slice base len cap, .slice ad 0 c]).run P w = .ok (.slice base len cap) w := by
  cases ad with
  | none => cases base <;> simp [Builtin.append_, run_underlying ht, run_size hs, Builtin.lenOf, Builtin.firstCells, hle, storeCells]
  | some ad => cases base <;> simp [Builtin.append_, run_underlying ht, run_size hs, Builtin.lenOf, Builtin.firstCells, hle, storeCells, loadCells, loadCellsFrom]

end Go.Vm
