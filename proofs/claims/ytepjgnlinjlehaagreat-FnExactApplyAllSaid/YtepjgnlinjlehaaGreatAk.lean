/- Walks: a row put in. -/
import Derived.Test.YtepjgnlinjlehaaGreatAj
namespace Go.Proofs.YtepjgnlinjlehaaGreat
set_option linter.unusedSimpArgs false
set_option linter.unusedVariables false
open Go.Vm
set_option maxHeartbeats 2000000
set_option maxRecDepth 10000

def putR (l : List DRow) (r : DRow) : List DRow := l.takeWhile (fun x => decide (x.id < r.id)) ++ [r] ++ l.dropWhile (fun x => decide (x.id < r.id))
theorem putR_at {l : List DRow} {r : DRow} {k : Nat} (hk : k ≤ l.length) (h1 : ∀ j (h : j < l.length), j < k → l[j].id < r.id) (h2 : ∀ h : k < l.length, ¬ l[k].id < r.id) : putR l r = l.take k ++ [r] ++ l.drop k := by
  have key : ∀ (l : List DRow) (k : Nat), k ≤ l.length → (∀ j (h : j < l.length), j < k → l[j].id < r.id) → (∀ h : k < l.length, ¬ l[k].id < r.id) → l.takeWhile (fun x => decide (x.id < r.id)) = l.take k ∧ l.dropWhile (fun x => decide (x.id < r.id)) = l.drop k := by
    intro l
    induction l with
    | nil => intro k hk _ _; simp at hk; subst hk; simp
    | cons x l ih =>
      intro k hk h1 h2
      cases k with
      | zero =>
        have := h2 (by simp)
        simp only [List.getElem_cons_zero] at this
        simp [List.takeWhile_cons, List.dropWhile_cons, this]
      | succ k =>
        have h0 : x.id < r.id := h1 0 (by simp) (by omega)
        obtain ⟨g1, g2⟩ := ih k (by simpa using hk) (fun j hj hjk => by have := h1 (j + 1) (by simpa using hj) (by omega); simpa using this) (fun h => by have := h2 (by simpa using h); simpa using this)
        simp [List.takeWhile_cons, List.dropWhile_cons, h0, g1, g2]
  obtain ⟨g1, g2⟩ := key l k hk h1 h2
  rw [putR, g1, g2]
theorem fit_take {l : List DRow} (h : fitS fitRow l) (k : Nat) : fitS fitRow (l.take k) := ⟨by have := h.1; simp; omega, fun x hx => h.2 x (List.mem_of_mem_take hx)⟩
theorem fit_drop {l : List DRow} (h : fitS fitRow l) (k : Nat) : fitS fitRow (l.drop k) := ⟨by have := h.1; simp; omega, fun x hx => h.2 x (List.mem_of_mem_drop hx)⟩
theorem row_all2 (l : List DRow) : ((l.map DRow.c).all fun r => r.length == 2) = true := List.all_eq_true.2 fun r hr => by
  obtain ⟨x, _, rfl⟩ := List.mem_map.1 hr
  rfl
theorem rest_take (l : List DRow) (k : Nat) : ((l.map DRow.c).drop k).take (l.length - k) = (l.drop k).map DRow.c := by
  rw [List.take_of_length_le (by simp), List.map_drop]
theorem first_take (l : List DRow) (k : Nat) : (l.map DRow.c).take k = (l.take k).map DRow.c := by rw [List.map_take]
theorem rn_mid {α : Type} {f : α → List Cl} (hf : ∀ x, (f x).all nrC = true) (sel : List (Nat × Bool)) (A B : List α) (r row' : List Cl) :
    (A.map f ++ [r] ++ B.map f).map (fun x => x.map (rnC sel)) = (A.map f ++ [row'] ++ B.map f).set A.length (r.map (rnC sel)) := by
  rw [List.map_append, rn_app hf sel A r row', rn_nrE (nrE_map hf)]
  exact (List.set_append_left _ _ (by simp)).symm
theorem set_mid {α : Type} {f : α → List Cl} (A B : List α) (x : α) : (A.map f ++ [f x] ++ B.map f).set A.length (f x) = (A ++ [x] ++ B).map f := by
  rw [List.set_append_left _ _ (by simp), set_last, ← List.map_append]
theorem in_mid {α : Type} {f : α → List Cl} (hf : ∀ x, (f x).all nrC = true) (sel : List (Nat × Bool)) (A B : List α) {r : List Cl} (hr : r.all (inC sel) = true) : ((A.map f ++ [r] ++ B.map f).all fun x => x.all (inC sel)) = true := by
  rw [List.all_append, in_app hf sel A hr, nr_inE (nrE_map hf)]; rfl
theorem iPut_spec (l : List DRow) (r : DRow) (hl : fitS fitRow l) (hr : r.l.length ≤ 1048576) : Ctr Tryz.prog 50 [.c (.sl (l.map DRow.c)), .agg r.c] [.own 113 2 ((putR l r).map DRow.o) true] := by
  refine Ctr.mkH (fn := Tryz.f50) Tryz.call50 Tryz.func50 rfl mixed Tryz.ntmps50 Tryz.results50 (by kernel_rfl) rfl fun hw => ?_
  have hlen := hl.1
  simp only [go_sem, List.getElem?_toArray, Nat.reduceBEq, Nat.reduceAdd, Nat.reduceSub, Nat.reduceMul, Nat.reduceLT, Nat.reduceLeDiff, Nat.reduceEqDiff, Nat.succ_ne_zero, reduceIte, List.length_map]
  refine LoopU.mk 1 (A := Nat) (fun k => [(5, .c (.v (.int .i64 (k))))]) (fun _ => [⟨113, 2, [[.v (.int .i64 r.id), .sl (r.l.map DVal.c)]], true, true⟩]) (fun k => k ≤ l.length ∧ ∀ j (h : j < l.length), j < k → l[j].id < r.id) (fun k => l.length - k) 0 ⟨⟨rfl, rfl⟩, rfl, Nat.zero_le _, fun j _ h => by omega⟩ ?_
  rintro k ⟨hk, hlt⟩
  by_cases hk' : k < l.length
  · have e1 : decide ((k : Int) < (l.length : Int)) = true := by simp; exact hk'
    rcases e2 : decide (l[k].id < r.id) with _ | _
    · have hno : ¬ l[k].id < r.id := by simpa using e2
      simp only [go_sem, List.getElem?_toArray, Nat.reduceBEq, Nat.reduceAdd, Nat.reduceSub, Nat.reduceMul, Nat.reduceLT, Nat.reduceLeDiff, Nat.reduceEqDiff, Nat.succ_ne_zero, reduceIte, List.length_map, e1]
      refine DrawK.mk ?_
      simp only [go_sem, List.getElem?_toArray, Nat.reduceBEq, Nat.reduceAdd, Nat.reduceSub, Nat.reduceMul, Nat.reduceLT, Nat.reduceLeDiff, Nat.reduceEqDiff, Nat.succ_ne_zero, reduceIte, List.length_map, map_at _ hk', hk', e1, e2]
      have hput := putR_at hk hlt fun _ => hno
      refine DrawK.mkE ?_
      simp only [go_sem, List.getElem?_toArray, Nat.reduceBEq, Nat.reduceAdd, Nat.reduceSub, Nat.reduceMul, Nat.reduceLT, Nat.reduceLeDiff, Nat.reduceEqDiff, Nat.succ_ne_zero, reduceIte, List.length_map, row_all2, hk, List.drop_zero, Nat.sub_zero, first_take, Nat.le_refl, Nat.zero_le, and_self]
      refine CallE.mk _ (by simpa only [go_sem] using cloneRows_spec (l.take k) (fit_take hl k)) ?_
      simp only [go_sem, List.getElem?_toArray, Nat.reduceBEq, Nat.reduceAdd, Nat.reduceSub, Nat.reduceMul, Nat.reduceLT, Nat.reduceLeDiff, Nat.reduceEqDiff, Nat.succ_ne_zero, reduceIte]
      refine CallE.mk _ (by simpa only [go_sem] using cloneRow_spec r hr) ?_
      have hol2 : (l.take k).length + 1 ≤ 2147483648 := by simp; omega
      simp only [go_sem, List.getElem?_toArray, Nat.reduceBEq, Nat.reduceAdd, Nat.reduceSub, Nat.reduceMul, Nat.reduceLT, Nat.reduceLeDiff, Nat.reduceEqDiff, Nat.succ_ne_zero, reduceIte, List.all_cons, List.all_nil, List.length_map, hol2, nr_ref2, Bool.false_eq_true, Option.getD_some]
      simp only [go_sem, List.getElem?_toArray, Nat.reduceBEq, Nat.reduceAdd, Nat.reduceSub, Nat.reduceMul, Nat.reduceLT, Nat.reduceLeDiff, Nat.reduceEqDiff, Nat.succ_ne_zero, reduceIte, List.length_map, row_all2, hk, rest_take, Nat.le_refl, and_self]
      refine CallK.mk _ (by simpa only [go_sem] using cloneRows_spec (l.drop k) (fit_drop hl k)) fun _ => ?_
      have hol3 : (l.take k).length + 1 + (l.drop k).length ≤ 2147483648 := by simp; omega
      simp only [go_sem, List.getElem?_toArray, Nat.reduceBEq, Nat.reduceAdd, Nat.reduceSub, Nat.reduceMul, Nat.reduceLT, Nat.reduceLeDiff, Nat.reduceEqDiff, Nat.succ_ne_zero, reduceIte, List.length_append, List.length_cons, List.length_nil, Nat.zero_add, List.length_map, hol3, nr_Row, Option.getD_some]
      refine EndH.mk (t := ⟨37, [(4, .c (.ref 0))], [⟨113, 2, (putR l r).map DRow.o, true, true⟩]⟩) (Head.selAbs [(6, true), (2, false)] 1 0 ⟨rfl, rfl, in_mid DRow.o_nr _ (l.take k) (l.drop k) rfl, pureE_map DVal.pure, trivial⟩ ⟨(l.take k).length, (l.take k).map DRow.o ++ [DRow.o r] ++ (l.drop k).map DRow.o, _, DRow.o r, _, ⟨Nat.lt_succ_self 0, rfl, rn_mid DRow.o_nr _ (l.take k) (l.drop k) _ _, by simp, rfl⟩,
        ⟨rfl, rfl, rfl, rfl, rfl, rfl, nr_Val _, by simp [idxL], fun l hl => by simp [idxL] at hl; omega⟩, ⟨rfl, ?tr⟩, ?eq⟩) ?post
      case tr => unfold absSt; rw [set_mid]; exact all1 (nr_noRefOb (nr_Row _))
      case eq => unfold absSt; rw [set_mid, hput]; rfl
      case post =>
        simp only [go_sem, List.getElem?_toArray, Nat.reduceBEq, Nat.reduceAdd, Nat.reduceSub, Nat.reduceMul, Nat.reduceLT, Nat.reduceLeDiff, Nat.reduceEqDiff, Nat.succ_ne_zero, reduceIte, nr_Row]
        try simp
    · have hyes : l[k].id < r.id := by simpa using e2
      simp only [go_sem, List.getElem?_toArray, Nat.reduceBEq, Nat.reduceAdd, Nat.reduceSub, Nat.reduceMul, Nat.reduceLT, Nat.reduceLeDiff, Nat.reduceEqDiff, Nat.succ_ne_zero, reduceIte, List.length_map, e1]
      refine DrawK.mk ?_
      simp only [go_sem, List.getElem?_toArray, Nat.reduceBEq, Nat.reduceAdd, Nat.reduceSub, Nat.reduceMul, Nat.reduceLT, Nat.reduceLeDiff, Nat.reduceEqDiff, Nat.succ_ne_zero, reduceIte, List.length_map, map_at _ hk', hk', e1, e2, wrap_i64 (n := (k : Int) + 1) (by omega) (by omega)]
      exact ⟨k + 1, ⟨rfl, rfl⟩, rfl, ⟨by omega, fun j hj hjk => by
        rcases Nat.lt_or_ge j k with h' | h'
        · exact hlt j hj h'
        · have : j = k := by omega
          subst this; exact hyes⟩, by omega⟩
  · have e1 : decide ((k : Int) < (l.length : Int)) = false := by simp; omega
    simp only [go_sem, List.getElem?_toArray, Nat.reduceBEq, Nat.reduceAdd, Nat.reduceSub, Nat.reduceMul, Nat.reduceLT, Nat.reduceLeDiff, Nat.reduceEqDiff, Nat.succ_ne_zero, reduceIte, List.length_map, e1]
    refine DrawK.mk ?_
    simp only [go_sem, List.getElem?_toArray, Nat.reduceBEq, Nat.reduceAdd, Nat.reduceSub, Nat.reduceMul, Nat.reduceLT, Nat.reduceLeDiff, Nat.reduceEqDiff, Nat.succ_ne_zero, reduceIte, List.length_map, e1]
    have hput := putR_at hk hlt fun _ => by omega
    refine DrawK.mkE ?_
    simp only [go_sem, List.getElem?_toArray, Nat.reduceBEq, Nat.reduceAdd, Nat.reduceSub, Nat.reduceMul, Nat.reduceLT, Nat.reduceLeDiff, Nat.reduceEqDiff, Nat.succ_ne_zero, reduceIte, List.length_map, row_all2, hk, List.drop_zero, Nat.sub_zero, first_take, Nat.le_refl, Nat.zero_le, and_self]
    refine CallE.mk _ (by simpa only [go_sem] using cloneRows_spec (l.take k) (fit_take hl k)) ?_
    simp only [go_sem, List.getElem?_toArray, Nat.reduceBEq, Nat.reduceAdd, Nat.reduceSub, Nat.reduceMul, Nat.reduceLT, Nat.reduceLeDiff, Nat.reduceEqDiff, Nat.succ_ne_zero, reduceIte]
    refine CallE.mk _ (by simpa only [go_sem] using cloneRow_spec r hr) ?_
    have hol2 : (l.take k).length + 1 ≤ 2147483648 := by simp; omega
    simp only [go_sem, List.getElem?_toArray, Nat.reduceBEq, Nat.reduceAdd, Nat.reduceSub, Nat.reduceMul, Nat.reduceLT, Nat.reduceLeDiff, Nat.reduceEqDiff, Nat.succ_ne_zero, reduceIte, List.all_cons, List.all_nil, List.length_map, hol2, nr_ref2, Bool.false_eq_true, Option.getD_some]
    simp only [go_sem, List.getElem?_toArray, Nat.reduceBEq, Nat.reduceAdd, Nat.reduceSub, Nat.reduceMul, Nat.reduceLT, Nat.reduceLeDiff, Nat.reduceEqDiff, Nat.succ_ne_zero, reduceIte, List.length_map, row_all2, hk, rest_take, Nat.le_refl, and_self]
    refine CallK.mk _ (by simpa only [go_sem] using cloneRows_spec (l.drop k) (fit_drop hl k)) fun _ => ?_
    have hol3 : (l.take k).length + 1 + (l.drop k).length ≤ 2147483648 := by simp; omega
    simp only [go_sem, List.getElem?_toArray, Nat.reduceBEq, Nat.reduceAdd, Nat.reduceSub, Nat.reduceMul, Nat.reduceLT, Nat.reduceLeDiff, Nat.reduceEqDiff, Nat.succ_ne_zero, reduceIte, List.length_append, List.length_cons, List.length_nil, Nat.zero_add, List.length_map, hol3, nr_Row, Option.getD_some]
    refine EndH.mk (t := ⟨37, [(4, .c (.ref 0))], [⟨113, 2, (putR l r).map DRow.o, true, true⟩]⟩) (Head.selAbs [(6, true), (2, false)] 1 0 ⟨rfl, rfl, in_mid DRow.o_nr _ (l.take k) (l.drop k) rfl, pureE_map DVal.pure, trivial⟩ ⟨(l.take k).length, (l.take k).map DRow.o ++ [DRow.o r] ++ (l.drop k).map DRow.o, _, DRow.o r, _, ⟨Nat.lt_succ_self 0, rfl, rn_mid DRow.o_nr _ (l.take k) (l.drop k) _ _, by simp, rfl⟩,
      ⟨rfl, rfl, rfl, rfl, rfl, rfl, nr_Val _, by simp [idxL], fun l hl => by simp [idxL] at hl; omega⟩, ⟨rfl, ?tr⟩, ?eq⟩) ?post
    case tr => unfold absSt; rw [set_mid]; exact all1 (nr_noRefOb (nr_Row _))
    case eq => unfold absSt; rw [set_mid, hput]; rfl
    case post =>
      simp only [go_sem, List.getElem?_toArray, Nat.reduceBEq, Nat.reduceAdd, Nat.reduceSub, Nat.reduceMul, Nat.reduceLT, Nat.reduceLeDiff, Nat.reduceEqDiff, Nat.succ_ne_zero, reduceIte, nr_Row]
      try simp

theorem sPut_spec (l : List DRow) (r : DRow) (hl : fitS fitRow l) (hr : r.l.length ≤ 1048576) : Ctr Tryz.prog 100 [.c (.sl (l.map DRow.c)), .agg r.c] [.own 113 2 ((putR l r).map DRow.o) true] := by
  refine Ctr.mkH (fn := Tryz.f100) Tryz.call100 Tryz.func100 rfl mixed Tryz.ntmps100 Tryz.results100 (by kernel_rfl) rfl fun hw => ?_
  have hlen := hl.1
  simp only [go_sem, List.getElem?_toArray, Nat.reduceBEq, Nat.reduceAdd, Nat.reduceSub, Nat.reduceMul, Nat.reduceLT, Nat.reduceLeDiff, Nat.reduceEqDiff, Nat.succ_ne_zero, reduceIte, List.length_map]
  refine LoopU.mk 1 (A := Nat) (fun k => [(5, .c (.v (.int .i64 (k))))]) (fun _ => [⟨113, 2, [[.v (.int .i64 r.id), .sl (r.l.map DVal.c)]], true, true⟩]) (fun k => k ≤ l.length ∧ ∀ j (h : j < l.length), j < k → l[j].id < r.id) (fun k => l.length - k) 0 ⟨⟨rfl, rfl⟩, rfl, Nat.zero_le _, fun j _ h => by omega⟩ ?_
  rintro k ⟨hk, hlt⟩
  by_cases hk' : k < l.length
  · have e1 : decide ((k : Int) < (l.length : Int)) = true := by simp; exact hk'
    rcases e2 : decide (l[k].id < r.id) with _ | _
    · have hno : ¬ l[k].id < r.id := by simpa using e2
      simp only [go_sem, List.getElem?_toArray, Nat.reduceBEq, Nat.reduceAdd, Nat.reduceSub, Nat.reduceMul, Nat.reduceLT, Nat.reduceLeDiff, Nat.reduceEqDiff, Nat.succ_ne_zero, reduceIte, List.length_map, e1]
      refine DrawK.mk ?_
      simp only [go_sem, List.getElem?_toArray, Nat.reduceBEq, Nat.reduceAdd, Nat.reduceSub, Nat.reduceMul, Nat.reduceLT, Nat.reduceLeDiff, Nat.reduceEqDiff, Nat.succ_ne_zero, reduceIte, List.length_map, map_at _ hk', hk', e1, e2]
      have hput := putR_at hk hlt fun _ => hno
      refine DrawK.mkE ?_
      simp only [go_sem, List.getElem?_toArray, Nat.reduceBEq, Nat.reduceAdd, Nat.reduceSub, Nat.reduceMul, Nat.reduceLT, Nat.reduceLeDiff, Nat.reduceEqDiff, Nat.succ_ne_zero, reduceIte, List.length_map, row_all2, hk, List.drop_zero, Nat.sub_zero, first_take, Nat.le_refl, Nat.zero_le, and_self]
      refine CallE.mk _ (by simpa only [go_sem] using l4All_spec (l.take k) (fit_take hl k)) ?_
      simp only [go_sem, List.getElem?_toArray, Nat.reduceBEq, Nat.reduceAdd, Nat.reduceSub, Nat.reduceMul, Nat.reduceLT, Nat.reduceLeDiff, Nat.reduceEqDiff, Nat.succ_ne_zero, reduceIte]
      refine CallE.mk _ (by simpa only [go_sem] using l4Copy_spec r hr) ?_
      have hol2 : (l.take k).length + 1 ≤ 2147483648 := by simp; omega
      simp only [go_sem, List.getElem?_toArray, Nat.reduceBEq, Nat.reduceAdd, Nat.reduceSub, Nat.reduceMul, Nat.reduceLT, Nat.reduceLeDiff, Nat.reduceEqDiff, Nat.succ_ne_zero, reduceIte, List.all_cons, List.all_nil, List.length_map, hol2, nr_ref2, Bool.false_eq_true, Option.getD_some]
      simp only [go_sem, List.getElem?_toArray, Nat.reduceBEq, Nat.reduceAdd, Nat.reduceSub, Nat.reduceMul, Nat.reduceLT, Nat.reduceLeDiff, Nat.reduceEqDiff, Nat.succ_ne_zero, reduceIte, List.length_map, row_all2, hk, rest_take, Nat.le_refl, and_self]
      refine CallE.mk _ (by simpa only [go_sem] using l4All_spec (l.drop k) (fit_drop hl k)) ?_
      have hol3 : (l.take k).length + 1 + (l.drop k).length ≤ 2147483648 := by simp; omega
      simp only [go_sem, List.getElem?_toArray, Nat.reduceBEq, Nat.reduceAdd, Nat.reduceSub, Nat.reduceMul, Nat.reduceLT, Nat.reduceLeDiff, Nat.reduceEqDiff, Nat.succ_ne_zero, reduceIte, List.length_append, List.length_cons, List.length_nil, Nat.zero_add, List.length_map, hol3, nr_Row, Option.getD_some]
      refine EndH.mk (t := ⟨35, [(4, .c (.ref 0))], [⟨113, 2, (putR l r).map DRow.o, true, true⟩]⟩) (Head.selAbs [(6, true), (2, false)] 1 0 ⟨rfl, rfl, in_mid DRow.o_nr _ (l.take k) (l.drop k) rfl, pureE_map DVal.pure, trivial⟩ ⟨(l.take k).length, (l.take k).map DRow.o ++ [DRow.o r] ++ (l.drop k).map DRow.o, _, DRow.o r, _, ⟨Nat.lt_succ_self 0, rfl, rn_mid DRow.o_nr _ (l.take k) (l.drop k) _ _, by simp, rfl⟩,
        ⟨rfl, rfl, rfl, rfl, rfl, rfl, nr_Val _, by simp [idxL], fun l hl => by simp [idxL] at hl; omega⟩, ⟨rfl, ?tr⟩, ?eq⟩) ?post
      case tr => unfold absSt; rw [set_mid]; exact all1 (nr_noRefOb (nr_Row _))
      case eq => unfold absSt; rw [set_mid, hput]; rfl
      case post =>
        simp only [go_sem, List.getElem?_toArray, Nat.reduceBEq, Nat.reduceAdd, Nat.reduceSub, Nat.reduceMul, Nat.reduceLT, Nat.reduceLeDiff, Nat.reduceEqDiff, Nat.succ_ne_zero, reduceIte, nr_Row]
        try simp
    · have hyes : l[k].id < r.id := by simpa using e2
      simp only [go_sem, List.getElem?_toArray, Nat.reduceBEq, Nat.reduceAdd, Nat.reduceSub, Nat.reduceMul, Nat.reduceLT, Nat.reduceLeDiff, Nat.reduceEqDiff, Nat.succ_ne_zero, reduceIte, List.length_map, e1]
      refine DrawK.mk ?_
      simp only [go_sem, List.getElem?_toArray, Nat.reduceBEq, Nat.reduceAdd, Nat.reduceSub, Nat.reduceMul, Nat.reduceLT, Nat.reduceLeDiff, Nat.reduceEqDiff, Nat.succ_ne_zero, reduceIte, List.length_map, map_at _ hk', hk', e1, e2, wrap_i64 (n := (k : Int) + 1) (by omega) (by omega)]
      exact ⟨k + 1, ⟨rfl, rfl⟩, rfl, ⟨by omega, fun j hj hjk => by
        rcases Nat.lt_or_ge j k with h' | h'
        · exact hlt j hj h'
        · have : j = k := by omega
          subst this; exact hyes⟩, by omega⟩
  · have e1 : decide ((k : Int) < (l.length : Int)) = false := by simp; omega
    simp only [go_sem, List.getElem?_toArray, Nat.reduceBEq, Nat.reduceAdd, Nat.reduceSub, Nat.reduceMul, Nat.reduceLT, Nat.reduceLeDiff, Nat.reduceEqDiff, Nat.succ_ne_zero, reduceIte, List.length_map, e1]
    refine DrawK.mk ?_
    simp only [go_sem, List.getElem?_toArray, Nat.reduceBEq, Nat.reduceAdd, Nat.reduceSub, Nat.reduceMul, Nat.reduceLT, Nat.reduceLeDiff, Nat.reduceEqDiff, Nat.succ_ne_zero, reduceIte, List.length_map, e1]
    have hput := putR_at hk hlt fun _ => by omega
    refine DrawK.mkE ?_
    simp only [go_sem, List.getElem?_toArray, Nat.reduceBEq, Nat.reduceAdd, Nat.reduceSub, Nat.reduceMul, Nat.reduceLT, Nat.reduceLeDiff, Nat.reduceEqDiff, Nat.succ_ne_zero, reduceIte, List.length_map, row_all2, hk, List.drop_zero, Nat.sub_zero, first_take, Nat.le_refl, Nat.zero_le, and_self]
    refine CallE.mk _ (by simpa only [go_sem] using l4All_spec (l.take k) (fit_take hl k)) ?_
    simp only [go_sem, List.getElem?_toArray, Nat.reduceBEq, Nat.reduceAdd, Nat.reduceSub, Nat.reduceMul, Nat.reduceLT, Nat.reduceLeDiff, Nat.reduceEqDiff, Nat.succ_ne_zero, reduceIte]
    refine CallE.mk _ (by simpa only [go_sem] using l4Copy_spec r hr) ?_
    have hol2 : (l.take k).length + 1 ≤ 2147483648 := by simp; omega
    simp only [go_sem, List.getElem?_toArray, Nat.reduceBEq, Nat.reduceAdd, Nat.reduceSub, Nat.reduceMul, Nat.reduceLT, Nat.reduceLeDiff, Nat.reduceEqDiff, Nat.succ_ne_zero, reduceIte, List.all_cons, List.all_nil, List.length_map, hol2, nr_ref2, Bool.false_eq_true, Option.getD_some]
    simp only [go_sem, List.getElem?_toArray, Nat.reduceBEq, Nat.reduceAdd, Nat.reduceSub, Nat.reduceMul, Nat.reduceLT, Nat.reduceLeDiff, Nat.reduceEqDiff, Nat.succ_ne_zero, reduceIte, List.length_map, row_all2, hk, rest_take, Nat.le_refl, and_self]
    refine CallE.mk _ (by simpa only [go_sem] using l4All_spec (l.drop k) (fit_drop hl k)) ?_
    have hol3 : (l.take k).length + 1 + (l.drop k).length ≤ 2147483648 := by simp; omega
    simp only [go_sem, List.getElem?_toArray, Nat.reduceBEq, Nat.reduceAdd, Nat.reduceSub, Nat.reduceMul, Nat.reduceLT, Nat.reduceLeDiff, Nat.reduceEqDiff, Nat.succ_ne_zero, reduceIte, List.length_append, List.length_cons, List.length_nil, Nat.zero_add, List.length_map, hol3, nr_Row, Option.getD_some]
    refine EndH.mk (t := ⟨35, [(4, .c (.ref 0))], [⟨113, 2, (putR l r).map DRow.o, true, true⟩]⟩) (Head.selAbs [(6, true), (2, false)] 1 0 ⟨rfl, rfl, in_mid DRow.o_nr _ (l.take k) (l.drop k) rfl, pureE_map DVal.pure, trivial⟩ ⟨(l.take k).length, (l.take k).map DRow.o ++ [DRow.o r] ++ (l.drop k).map DRow.o, _, DRow.o r, _, ⟨Nat.lt_succ_self 0, rfl, rn_mid DRow.o_nr _ (l.take k) (l.drop k) _ _, by simp, rfl⟩,
      ⟨rfl, rfl, rfl, rfl, rfl, rfl, nr_Val _, by simp [idxL], fun l hl => by simp [idxL] at hl; omega⟩, ⟨rfl, ?tr⟩, ?eq⟩) ?post
    case tr => unfold absSt; rw [set_mid]; exact all1 (nr_noRefOb (nr_Row _))
    case eq => unfold absSt; rw [set_mid, hput]; rfl
    case post =>
      simp only [go_sem, List.getElem?_toArray, Nat.reduceBEq, Nat.reduceAdd, Nat.reduceSub, Nat.reduceMul, Nat.reduceLT, Nat.reduceLeDiff, Nat.reduceEqDiff, Nat.succ_ne_zero, reduceIte, nr_Row]
      try simp

end Go.Proofs.YtepjgnlinjlehaaGreat
