/- Marks: ints and texts; what a marked slice is. -/
import Derived.Test.YtepjgnlinjlehaaGreatOa
namespace Go.Proofs.YtepjgnlinjlehaaGreat
set_option linter.unusedSimpArgs false
set_option linter.unusedVariables false
set_option linter.unusedSimpArgs false
set_option linter.unusedVariables false
open Go.Vm
set_option maxHeartbeats 1000000
set_option maxRecDepth 10000

theorem cloE_map {α : Type} {f : α → List Cl} {l : List α} (h : ∀ x, cloL (f x) = true) : cloE (l.map f) = true := cloE_of fun x hx => by
  obtain ⟨y, _, rfl⟩ := List.mem_map.1 hx
  exact h y
theorem clo_noRefOb {N ty sz : Nat} {R : List (List Cl)} {wr live : Bool} (h : cloE R = true) : noRefOb N ⟨ty, sz, R, wr, live⟩ = true := by
  simp only [noRefOb, Bool.or_eq_true]
  exact .inr (List.all_eq_true.2 fun x hx => nr_noRef (cloL_nr (cloE_mem h x hx)))
theorem clo_set {R : List (List Cl)} {i : Nat} {x : List Cl} (h : cloE R = true) (hx : cloL x = true) : cloE (R.set i x) = true := cloE_of fun y hy => by
  rcases List.mem_or_eq_of_mem_set hy with h' | rfl
  · exact cloE_mem h y h'
  · exact hx
theorem set_self {R : List (List Cl)} {i : Nat} (hi : i < R.length) (x : List Cl) : (R.set i x)[i]? = some x := by simp [hi]

/-- A slice that is marked: rows of some content, the counter behind. -/
def MkS (ty sz : Nat) (k l l' : Int) (cl' : List Cl) (rs : List AV) : Prop := ∃ (R : List (List Cl)) (k' : Int), cl' = [.ow ty sz R] ∧ rs = [.c (.v (.int .i64 k'))] ∧ k ≤ k' ∧ k' + 64 * l' ≤ k + 64 * l ∧ cloE R = true
def MkP {α : Type} (f : α → List Cl) (sz : α → Int → Int) (xs : List α) (k l lf : Int) (x : Nat × List (List Cl) × Int × Int) : Prop :=
  x.1 ≤ xs.length ∧ x.2.1.length = xs.length ∧ (∀ (j : Nat) (h : j < xs.length), x.1 ≤ j → x.2.1[j]? = some (f xs[j])) ∧ cloE x.2.1 = true ∧ k ≤ x.2.2.1 ∧ x.2.2.1 + 64 * x.2.2.2 ≤ k + 64 * (l - xs.length + x.1) ∧ szL sz (xs.drop x.1) x.2.2.2 = lf ∧ x.2.2.2 ≤ l
theorem szI_val {n : Nat} {l : Int} (h : 0 ≤ szI n l) : szI n l = l - n := by
  unfold szI at h ⊢
  split at h
  · omega
  · rename_i h2; rw [if_neg h2]
theorem MkP.start {α : Type} {f : α → List Cl} {sz : α → Int → Int} {xs : List α} {k l : Int} (hf : ∀ x, cloL (f x) = true) (h0 : 0 ≤ szS sz xs l) : MkP f sz xs k l (szS sz xs l) (0, xs.map f, k, l - xs.length) := by
  obtain ⟨s1, s2, s3⟩ := sq_fit h0
  have e := szI_val s1
  refine ⟨Nat.zero_le _, by simp, fun j h _ => by simp [h], cloE_map hf, Int.le_refl _, by simp only; omega, ?_, by simp only; omega⟩
  simp only [List.drop_zero]
  rw [← e]
  exact s3.symm
theorem MkP.room {α : Type} {f : α → List Cl} {sz : α → Int → Int} {xs : List α} {k l lf : Int} {i : Nat} {R : List (List Cl)} {k1 l1 : Int} (h : MkP f sz xs k l lf (i, R, k1, l1)) (hi : i < xs.length) (h0 : 0 ≤ lf) :
    0 ≤ sz xs[i] l1 ∧ R[i]? = some (f xs[i]) ∧ i < R.length ∧ k ≤ k1 ∧ k1 + 64 * l1 ≤ k + 64 * l - 64 ∧ l1 ≤ l := by
  obtain ⟨a1, a2, a3, a4, a5, a6, a7, a8⟩ := h
  dsimp only at *
  rw [List.drop_eq_getElem_cons hi, szL] at a7
  rw [← a7] at h0
  obtain ⟨s1, s2, s3⟩ := sq_fit h0
  exact ⟨s1, a3 i hi (Nat.le_refl _), by omega, a5, by omega, a8⟩
theorem MkP.step {α : Type} {f : α → List Cl} {sz : α → Int → Int} {xs : List α} {k l lf : Int} {i : Nat} {R : List (List Cl)} {k1 l1 : Int} (h : MkP f sz xs k l lf (i, R, k1, l1)) (hi : i < xs.length) (h0 : 0 ≤ lf) {row : List Cl} {k2 : Int} (hr : cloL row = true) (hk : k1 ≤ k2) (hk2 : k2 + 64 * sz xs[i] l1 ≤ k1 + 64 * l1 + 64) (hl : sz xs[i] l1 ≤ l1) :
    MkP f sz xs k l lf (i + 1, R.set i row, k2, sz xs[i] l1) := by
  obtain ⟨a1, a2, a3, a4, a5, a6, a7, a8⟩ := h
  dsimp only at *
  rw [List.drop_eq_getElem_cons hi, szL] at a7
  have h0' := h0
  rw [← a7] at h0'
  obtain ⟨s1, s2, s3⟩ := sq_fit h0'
  refine ⟨hi, by simpa using a2, fun j hj hij => ?_, clo_set a4 hr, by simp only; omega, by simp only; omega, by simp only; rw [← s3]; exact a7, by simp only; omega⟩
  simp only at hij ⊢
  rw [List.getElem?_set_ne (by omega)]
  exact a3 j hj (by omega)
theorem MkP.done {α : Type} {f : α → List Cl} {sz : α → Int → Int} {xs : List α} {k l lf : Int} {i : Nat} {R : List (List Cl)} {k1 l1 : Int} (ty n : Nat) (h : MkP f sz xs k l lf (i, R, k1, l1)) (hi : i = xs.length) : cloE R = true ∧ MkS ty n k l lf [.ow ty n R] [.c (.v (.int .i64 k1))] := by
  obtain ⟨a1, a2, a3, a4, a5, a6, a7, a8⟩ := h
  dsimp only at *
  subst hi
  rw [List.drop_length] at a7
  simp only [szL] at a7
  exact ⟨a4, R, k1, rfl, rfl, a5, by omega, a4⟩
theorem MCtr.mono {P : Program} {f : FuncId} {g : Bool} {cl : List Cl} {args : List AV} {Q Q' : List Cl → List AV → Prop} (h : MCtr P f g cl args Q) (hQ : ∀ cl' rs, Q cl' rs → Q' cl' rs) : MCtr P f g cl args Q' :=
  ⟨h.1, h.2.1, fun w St us G vs h1 h2 h3 h4 => (h.2.2 w St us G vs h1 h2 h3 h4).mono fun e w' hb => by
    obtain ⟨cl', rs, rv, G', h0, hr⟩ := hb
    exact ⟨cl', rs, rv, G', hQ _ _ h0, hr⟩⟩

def markI (k : Int) (n : Nat) : List Int := (List.range n).map fun (j : Nat) => k + (j : Int)
/-- Ints, marked: exactly. -/
theorem markIntS_spec (xs : List Int) (k : Int) (hk : 0 ≤ k) (hb : k + xs.length ≤ 1099511627776) :
    MCtr Tryz.prog 60 false [.ow 3 1 (xs.map intC)] [.c (.v (.int .i64 k))] (fun cl' rs => cl' = [.ow 3 1 ((markI k xs.length).map intC)] ∧ rs = [.c (.v (.int .i64 (k + xs.length)))]) := by
  refine MCtr.mk (fn := Tryz.f60) Tryz.call60 Tryz.func60 rfl mixed Tryz.ntmps60 Tryz.results60 (by kernel_rfl) rfl (.inr rfl) fun us hw0 hw => ?_
  simp only [go_sem, List.getElem?_toArray, Nat.reduceBEq, Nat.reduceAdd, Nat.reduceSub, Nat.reduceMul, Nat.reduceLT, Nat.reduceLeDiff, Nat.reduceEqDiff, Nat.succ_ne_zero, reduceIte]
  refine LoopK.mk 1 [0, 1, 5] (A := Nat × List Int) (fun x => ⟨19, [(0, .pin (.c (.ref 0)) (mkV false us)), (1, .c (.v (.int .i64 (k + x.1)))), (5, .c (.v (.int .i64 x.1)))], [⟨3, 1, x.2.map intC, true, true⟩]⟩)
    (fun x => x.1 ≤ xs.length ∧ x.2.length = xs.length ∧ ∀ j : Nat, j < x.1 → x.2[j]? = some (k + (j : Int))) (fun x => xs.length - x.1) (0, xs) ⟨⟨rfl, by simp only [List.take_succ_cons, List.take_zero, List.all_cons, List.all_nil, Bool.and_true]; exact clo_noRefOb (cloE_map fun _ => rfl)⟩, by simp [trim, eget], by simp, rfl, fun j hj => by omega⟩ ?_
  rintro ⟨i, ys⟩ ⟨h1, h2, h3⟩
  dsimp only at h1 h2 h3
  simp only [go_sem, List.getElem?_toArray, Nat.reduceBEq, Nat.reduceAdd, Nat.reduceSub, Nat.reduceMul, Nat.reduceLT, Nat.reduceLeDiff, Nat.reduceEqDiff, Nat.succ_ne_zero, reduceIte, List.length_map]
  refine cndC.mk (fun h => ?_) (fun h => ?_)
  · have hi : i < ys.length := by simpa using h
    have hset : ∀ n : Int, (ys.map intC).set i [Cl.v (.int .i64 n)] = (ys.set i n).map intC := fun n => by rw [List.map_set]; rfl
    have e1 : (ys.map intC)[i]? = some [.v (.int .i64 ys[i])] := by simp [hi, intC]
    simp only [go_sem, List.getElem?_toArray, Nat.reduceBEq, Nat.reduceAdd, Nat.reduceSub, Nat.reduceMul, Nat.reduceLT, Nat.reduceLeDiff, Nat.reduceEqDiff, Nat.succ_ne_zero, reduceIte, List.length_map, e1, hi, hset, wrap_i64 (n := (k + (i : Int)) + 1) (by omega) (by omega), wrap_i64 (n := (i : Int) + 1) (by omega) (by omega)]
    refine ⟨(i + 1, ys.set i (k + i)), ⟨rfl, ?_⟩, ?_, ⟨by simp only; omega, by simp only [List.length_set]; exact h2, fun j hj => ?_⟩, by simp only; omega⟩
    · simp only [List.take_succ_cons, List.take_zero, List.all_cons, List.all_nil, Bool.and_true]; exact clo_noRefOb (cloE_map fun _ => rfl)
    · simp [trim, eget]; omega
    · simp only at hj ⊢
      rw [List.getElem?_set]
      by_cases e : i = j
      · subst e; simp [hi]
      · simp only [e, if_false]; exact h3 j (by omega)
  · have hi : i = xs.length := by simp at h; omega
    subst hi
    have : ys = markI k xs.length := by
      unfold markI
      apply List.ext_getElem?
      intro j
      rcases Nat.lt_or_ge j xs.length with hj | hj
      · rw [h3 j hj]; simp [hj]
      · rw [List.getElem?_eq_none (by omega), List.getElem?_eq_none (by simpa using hj)]
    subst this
    simp only [go_sem, List.getElem?_toArray, Nat.reduceBEq, Nat.reduceAdd, Nat.reduceSub, Nat.reduceMul, Nat.reduceLT, Nat.reduceLeDiff, Nat.reduceEqDiff, Nat.succ_ne_zero, reduceIte]
    exact ⟨[.ref 0], [.ow 3 1 ((markI k xs.length).map intC)], [.c (.v (.int .i64 (k + xs.length)))], rfl, .inr rfl, ⟨rfl, rfl, rfl, rfl, nr_int _, by simp, trivial⟩, by simp only [cloL, cloC, Bool.and_true]; exact cloE_map fun _ => rfl, rfl, rfl, rfl, rfl⟩


/-- The digits of a mark. -/
def markD : Nat → Int → ByteArray → ByteArray
  | 0, _, out => out
  | n + 1, k, out => if k > 0 then markD n (k.tdiv 10) (strOfNums [IntKind.u8.wrap (48 + k.tmod 10)] ++ out) else out
def markTx (k : Int) : ByteArray := if k ≤ 0 then ByteArray.mk #[109, 48] else ByteArray.mk #[109] ++ markD 19 k (ByteArray.mk #[])
theorem strOf1 (n : Int) : (strOfNums [n]).size = 1 := by rw [strOfNums_size]; rfl
/-- The text of a mark. -/
theorem markText_spec (k : Int) (hk : 0 ≤ k) (hb : k ≤ 4000000000000000000) : Ctr Tryz.prog 67 [.c (.v (.int .i64 k))] [.val (.c (.v (.string (markTx k))))] := by
  refine Ctr.mk (fn := Tryz.f67) Tryz.call67 Tryz.func67 rfl mixed Tryz.ntmps67 Tryz.results67 (by kernel_rfl) rfl fun hw => ?_
  by_cases h0 : k ≤ 0
  · simp only [go_sem, List.getElem?_toArray, Nat.reduceBEq, Nat.reduceAdd, Nat.reduceSub, Nat.reduceMul, Nat.reduceLT, Nat.reduceLeDiff, Nat.reduceEqDiff, Nat.succ_ne_zero, reduceIte, h0, markTx]
  · simp only [go_sem, List.getElem?_toArray, Nat.reduceBEq, Nat.reduceAdd, Nat.reduceSub, Nat.reduceMul, Nat.reduceLT, Nat.reduceLeDiff, Nat.reduceEqDiff, Nat.succ_ne_zero, reduceIte, h0, markTx]
    refine LoopK.mk 0 [0, 3] (A := Nat × Int × ByteArray) (fun x => ⟨20, [(0, .c (.v (.int .i64 x.2.1))), (3, .c (.v (.string x.2.2)))], []⟩)
      (fun x => markD x.1 x.2.1 x.2.2 = markD 19 k (ByteArray.mk #[]) ∧ 0 ≤ x.2.1 ∧ x.2.1.toNat < 10 ^ x.1 ∧ x.2.2.size + x.1 ≤ 19 ∧ x.2.1 ≤ k) (fun x => x.1) (19, k, ByteArray.mk #[]) ⟨⟨rfl, rfl⟩, by simp [trim, eget], rfl, hk, by show k.toNat < 10 ^ 19; omega, by show _ ≤ _; simp [ByteArray.size], Int.le_refl _⟩ ?_
    rintro ⟨n, j, out⟩ ⟨h1, h2, h3, h4, h5⟩
    dsimp only at h1 h2 h3 h4 h5
    simp only [go_sem, List.getElem?_toArray, Nat.reduceBEq, Nat.reduceAdd, Nat.reduceSub, Nat.reduceMul, Nat.reduceLT, Nat.reduceLeDiff, Nat.reduceEqDiff, Nat.succ_ne_zero, reduceIte]
    refine cndC.mk (fun h => ?_) (fun h => ?_)
    · have hj : 0 < j := by simpa using h
      cases n with
      | zero => simp at h3; omega
      | succ n =>
        have hm1 : 0 ≤ j.tmod 10 := Int.tmod_nonneg 10 h2
        have hm2 : j.tmod 10 < 10 := Int.tmod_lt_of_pos j (by omega)
        have hd1 : 0 ≤ j.tdiv 10 := Int.tdiv_nonneg h2 (by omega)
        have hd2 : j.tdiv 10 ≤ j := Int.tdiv_le_self _ h2
        have hd3 : (j.tdiv 10).toNat < 10 ^ n := by
          rw [Int.tdiv_eq_ediv_of_nonneg h2]
          rw [Nat.pow_succ] at h3
          omega
        have hb2 : j.toNat < 10 ^ 19 := Nat.lt_of_lt_of_le h3 (Nat.pow_le_pow_right (by omega) (by omega))
        have h10 : ((10 : Int) = 0) = False := by simp
        have hsz : (strOfNums [IntKind.u8.wrap (48 + j.tmod 10)]).size + out.size ≤ maxLen := by rw [strOf1]; simp only [maxLen]; omega
        simp only [go_sem, List.getElem?_toArray, Nat.reduceBEq, Nat.reduceAdd, Nat.reduceSub, Nat.reduceMul, Nat.reduceLT, Nat.reduceLeDiff, Nat.reduceEqDiff, Nat.succ_ne_zero, reduceIte, wrap_i64 (n := j.tmod 10) (by omega) (by omega), wrap_i64 (n := 48 + j.tmod 10) (by omega) (by omega), wrap_i64 (n := j.tdiv 10) (by omega) (by omega), hsz, h10, Option.getD_some]
        refine ⟨(n, j.tdiv 10, _), ⟨rfl, rfl⟩, rfl, ⟨?_, hd1, hd3, ?_, by simp only; omega⟩, by simp only; omega⟩
        · rw [← h1]
          show _ = if j > 0 then _ else _
          rw [if_pos hj]
        · simp only [ByteArray.size_append, strOf1]; omega
    · have hj : j = 0 := by simp at h; omega
      subst hj
      have hd : ∀ n out, markD n 0 out = out := fun n out => by cases n <;> rfl
      rw [hd] at h1
      have hsz : (#[109] : Array UInt8).size + (markD 19 k (ByteArray.mk #[])).size ≤ maxLen := by rw [← h1]; show 1 + _ ≤ 9223372036854775807; omega
      simp only [go_sem, List.getElem?_toArray, Nat.reduceBEq, Nat.reduceAdd, Nat.reduceSub, Nat.reduceMul, Nat.reduceLT, Nat.reduceLeDiff, Nat.reduceEqDiff, Nat.succ_ne_zero, reduceIte, h1, hsz]

theorem szL_id {α : Type} : ∀ (xs : List α) (l : Int), 0 ≤ l → szL (fun _ l => l) xs l = l
  | [], l, _ => rfl
  | x :: xs, l, h => by
    simp only [szL]
    rw [sq_pos (by omega)]
    exact szL_id xs l h
theorem szS_id {α : Type} (xs : List α) (l : Int) (h : 0 ≤ szI xs.length l) : szS (fun _ l => l) xs l = szI xs.length l := by
  unfold szS
  rw [sq_pos (by omega)]
  exact szL_id xs _ h
theorem szL_mono {α : Type} {f : α → Int → Int} : ∀ (xs : List α) (_ : ∀ x ∈ xs, ∀ l, 0 ≤ f x l → l ≤ 1048576 → f x l ≤ l) (l : Int), 0 ≤ szL f xs l → l ≤ 1048576 → szL f xs l ≤ l
  | [], _, l, _, _ => Int.le_refl _
  | x :: xs, hf, l, h, hl => by
    simp only [szL] at h ⊢
    obtain ⟨h1, h2, h3⟩ := sq_fit h
    have := hf x (by simp) l h1 hl
    have := szL_mono xs (fun y hy => hf y (by simp [hy])) _ h2 (by omega)
    rw [h3]; omega
theorem clo_all1 {N ty sz : Nat} {R : List (List Cl)} {wr live : Bool} (h : cloE R = true) : [(⟨ty, sz, R, wr, live⟩ : Ob)].all (noRefOb N) = true := by
  simp only [List.all_cons, List.all_nil, Bool.and_true]
  exact clo_noRefOb h
theorem markIntS_sp (xs : List Int) (k : Int) (hk : 0 ≤ k) (l : Int) (h0 : 0 ≤ szI xs.length l) (hl : l ≤ 1048576) (hb : k + 64 * l ≤ 1099511627776) :
    MCtr Tryz.prog 60 false [.ow 3 1 (xs.map intC)] [.c (.v (.int .i64 k))] (MkS 3 1 k l (szI xs.length l)) := by
  have e := szI_val h0
  refine MCtr.mono (markIntS_spec xs k hk (by omega)) fun cl' rs h => ?_
  obtain ⟨rfl, rfl⟩ := h
  exact ⟨_, _, rfl, rfl, by omega, by omega, cloE_map fun _ => rfl⟩

end Go.Proofs.YtepjgnlinjlehaaGreat
