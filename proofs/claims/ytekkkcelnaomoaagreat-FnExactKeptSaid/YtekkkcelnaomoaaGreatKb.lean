/- Walks: MarkOf, Came, cloned rows, Kept. -/
import Derived.Test.YtekkkcelnaomoaaGreatOa
namespace Go.Proofs.YtekkkcelnaomoaaGreat
set_option linter.unusedSimpArgs false
set_option linter.unusedVariables false
open Go.Vm
set_option maxHeartbeats 2000000
set_option maxRecDepth 10000

theorem rn_nrE {sel : List (Nat × Bool)} {xs : List (List Cl)} (h : nrE xs = true) : xs.map (fun x => x.map (rnC sel)) = xs := by
  conv => rhs; rw [← List.map_id xs]
  exact List.map_congr_left fun x hx => nr_rn (List.all_eq_true.1 h x hx)
theorem nr_noRefOb {N ty sz : Nat} {R : List (List Cl)} {wr live : Bool} (h : nrE R = true) : noRefOb N ⟨ty, sz, R, wr, live⟩ = true := by
  simp only [noRefOb, Bool.or_eq_true]
  refine .inr (List.all_eq_true.2 fun x hx => List.all_eq_true.2 fun c hc => ?_)
  have := List.all_eq_true.1 (List.all_eq_true.1 h x hx) c hc
  cases c <;> simp_all [nrC, noRefC]
theorem all2 {N : Nat} {a b : Ob} (ha : noRefOb N a = true) (hb : noRefOb N b = true) : [a, b].all (noRefOb N) = true := by simp [ha, hb]
theorem nr_inE {sel : List (Nat × Bool)} {xs : List (List Cl)} (h : nrE xs = true) : (xs.all fun x => x.all (inC sel)) = true := List.all_eq_true.2 fun x hx => nr_in (List.all_eq_true.1 h x hx)

theorem lIn_spec (a b c : Int) : Ctr Tryz.prog 59 [.c (.v (.int .i64 a)), .c (.v (.int .i64 b)), .c (.v (.int .i64 c))] [.val (.c (.v (.bool (decide (a ≥ b) && decide (a ≤ c)))))] := by
  refine Ctr.mk (fn := Tryz.f59) Tryz.call59 Tryz.func59 rfl mixed Tryz.ntmps59 Tryz.results59 (by kernel_rfl) rfl fun hw => ?_
  rcases h1 : decide (a ≥ b) with _ | _ <;> simp only [go_sem, List.getElem?_toArray, Nat.reduceBEq, Nat.reduceAdd, Nat.reduceSub, Nat.reduceMul, Nat.reduceLT, Nat.reduceLeDiff, Nat.reduceEqDiff, Nat.succ_ne_zero, reduceIte, h1] <;> simp only [Bool.false_and, Bool.true_and]

def came (n ts : Int) : Bool := decide (n ≥ 1) && decide (n ≤ ts)
theorem sCame_spec (n ts : Int) : Ctr Tryz.prog 23 [.c (.v (.int .i64 n)), .c (.v (.int .i64 ts))] [.val (.c (.v (.bool (came n ts))))] := by
  refine Ctr.mk (fn := Tryz.f23) Tryz.call23 Tryz.func23 rfl mixed Tryz.ntmps23 Tryz.results23 (by kernel_rfl) rfl fun hw => ?_
  simp only [go_sem, List.getElem?_toArray, Nat.reduceBEq, Nat.reduceAdd, Nat.reduceSub, Nat.reduceMul, Nat.reduceLT, Nat.reduceLeDiff, Nat.reduceEqDiff, Nat.succ_ne_zero, reduceIte]
  refine CallK.mk _ (lIn_spec n 1 ts) fun _ => ?_
  simp only [go_sem, List.getElem?_toArray, Nat.reduceBEq, Nat.reduceAdd, Nat.reduceSub, Nat.reduceMul, Nat.reduceLT, Nat.reduceLeDiff, Nat.reduceEqDiff, Nat.succ_ne_zero, reduceIte, came]
theorem iCame_spec (n ts : Int) : Ctr Tryz.prog 34 [.c (.v (.int .i64 n)), .c (.v (.int .i64 ts))] [.val (.c (.v (.bool (came n ts))))] := by
  refine Ctr.mk (fn := Tryz.f34) Tryz.call34 Tryz.func34 rfl mixed Tryz.ntmps34 Tryz.results34 (by kernel_rfl) rfl fun hw => ?_
  rcases h1 : decide (n ≥ 1) with _ | _ <;> simp only [go_sem, List.getElem?_toArray, Nat.reduceBEq, Nat.reduceAdd, Nat.reduceSub, Nat.reduceMul, Nat.reduceLT, Nat.reduceLeDiff, Nat.reduceEqDiff, Nat.succ_ne_zero, reduceIte, h1] <;> simp only [came, h1, Bool.false_and, Bool.true_and]

/-- The mark of a row. -/
def markOf (w : DWorld) (id : Int) : Int := if 0 ≤ id then (w.m[id.toNat]?).getD 0 else 0
theorem markOf_in {w : DWorld} {n : Nat} (h : n < w.m.length) : markOf w n = w.m[n] := by simp [markOf, h]
theorem markOf_out {w : DWorld} {id : Int} (h : ¬ (0 ≤ id ∧ id < w.m.length)) : markOf w id = 0 := by
  unfold markOf
  split
  · rename_i h0
    rw [List.getElem?_eq_none (by omega)]; rfl
  · rfl
theorem sMarkOf_spec (w : DWorld) (id : Int) (hm : w.m.length ≤ 1048576) : Ctr Tryz.prog 24 [.agg w.c, .c (.v (.int .i64 id))] [.val (.c (.v (.int .i64 (markOf w id))))] := by
  refine Ctr.mk (fn := Tryz.f24) Tryz.call24 Tryz.func24 rfl mixed Tryz.ntmps24 Tryz.results24 (by kernel_rfl) rfl fun hw => ?_
  simp only [go_sem, List.getElem?_toArray, Nat.reduceBEq, Nat.reduceAdd, Nat.reduceSub, Nat.reduceMul, Nat.reduceLT, Nat.reduceLeDiff, Nat.reduceEqDiff, Nat.succ_ne_zero, reduceIte, List.length_map]
  try refine DrawK.mk ?_
  try simp only [go_sem, List.getElem?_toArray, Nat.reduceBEq, Nat.reduceAdd, Nat.reduceSub, Nat.reduceMul, Nat.reduceLT, Nat.reduceLeDiff, Nat.reduceEqDiff, Nat.succ_ne_zero, reduceIte, List.length_map]
  first | refine CallF.mk _ (lIn_spec id 0 _) ?_ | refine CallK.mk _ (lIn_spec id 0 _) fun _ => ?_
  simp only [go_sem, List.getElem?_toArray, Nat.reduceBEq, Nat.reduceAdd, Nat.reduceSub, Nat.reduceMul, Nat.reduceLT, Nat.reduceLeDiff, Nat.reduceEqDiff, Nat.succ_ne_zero, reduceIte, List.length_map]
  rw [wrap_i64 (n := (w.m.length : Int) - 1) (by omega) (by omega)]
  by_cases hb : 0 ≤ id ∧ id < w.m.length
  · obtain ⟨n, rfl⟩ := Int.eq_ofNat_of_zero_le hb.1
    have hn : n < w.m.length := by omega
    have e1 : (decide ((n : Int) ≥ 0) && decide ((n : Int) ≤ (w.m.length : Int) - 1)) = true := by simp; omega
    simp only [go_sem, List.getElem?_toArray, Nat.reduceBEq, Nat.reduceAdd, Nat.reduceSub, Nat.reduceMul, Nat.reduceLT, Nat.reduceLeDiff, Nat.reduceEqDiff, Nat.succ_ne_zero, reduceIte, List.length_map, e1, map_at _ hn, hn, markOf_in hn]
  · have e1 : (decide (id ≥ 0) && decide (id ≤ (w.m.length : Int) - 1)) = false := by simp; omega
    simp only [go_sem, List.getElem?_toArray, Nat.reduceBEq, Nat.reduceAdd, Nat.reduceSub, Nat.reduceMul, Nat.reduceLT, Nat.reduceLeDiff, Nat.reduceEqDiff, Nat.succ_ne_zero, reduceIte, List.length_map, e1, markOf_out hb]
theorem iMarkOf_spec (w : DWorld) (id : Int) (hm : w.m.length ≤ 1048576) : Ctr Tryz.prog 35 [.agg w.c, .c (.v (.int .i64 id))] [.val (.c (.v (.int .i64 (markOf w id))))] := by
  refine Ctr.mk (fn := Tryz.f35) Tryz.call35 Tryz.func35 rfl mixed Tryz.ntmps35 Tryz.results35 (by kernel_rfl) rfl fun hw => ?_
  by_cases hb : 0 ≤ id ∧ id < w.m.length
  · obtain ⟨n, rfl⟩ := Int.eq_ofNat_of_zero_le hb.1
    have hn : n < w.m.length := by omega
    have e1 : decide ((n : Int) < 0) = false := by simp
    have e2 : decide ((n : Int) ≥ (w.m.length : Int)) = false := by simp; omega
    simp only [go_sem, List.getElem?_toArray, Nat.reduceBEq, Nat.reduceAdd, Nat.reduceSub, Nat.reduceMul, Nat.reduceLT, Nat.reduceLeDiff, Nat.reduceEqDiff, Nat.succ_ne_zero, reduceIte, List.length_map, e1, e2, map_at _ hn, hn, markOf_in hn]
  · rw [markOf_out hb]
    by_cases h0 : id < 0
    · have e1 : decide (id < 0) = true := by simpa using h0
      simp only [go_sem, List.getElem?_toArray, Nat.reduceBEq, Nat.reduceAdd, Nat.reduceSub, Nat.reduceMul, Nat.reduceLT, Nat.reduceLeDiff, Nat.reduceEqDiff, Nat.succ_ne_zero, reduceIte, List.length_map, e1]
    · have e1 : decide (id < 0) = false := by simpa using h0
      have e2 : decide (id ≥ (w.m.length : Int)) = true := by simp; omega
      simp only [go_sem, List.getElem?_toArray, Nat.reduceBEq, Nat.reduceAdd, Nat.reduceSub, Nat.reduceMul, Nat.reduceLT, Nat.reduceLeDiff, Nat.reduceEqDiff, Nat.succ_ne_zero, reduceIte, List.length_map, e1, e2]

theorem appRows_map {α : Type} {f : α → List Cl} {n : Nat} (h : ∀ x, rowOk n (f x) = true) (l : List α) : appRows n (l.map f) = true := List.all_eq_true.2 fun r hr => by
  obtain ⟨x, _, rfl⟩ := List.mem_map.1 hr
  exact h x
theorem val_rows (l : List DVal) : appRows 3 (l.map DVal.c) = true := appRows_map (fun _ => rfl) l
theorem cloneVals_spec (l : List DVal) (h : l.length ≤ 1048576) : Ctr Tryz.prog 66 [.c (.sl (l.map DVal.c))] [.own 131 3 (l.map DVal.c) true] := by
  refine Ctr.mk (fn := Tryz.f66) Tryz.call66 Tryz.func66 rfl mixed Tryz.ntmps66 Tryz.results66 (by kernel_rfl) rfl fun hw => ?_
  have hl : l.length ≤ 2147483648 := by omega
  simp only [go_sem, List.getElem?_toArray, Nat.reduceBEq, Nat.reduceAdd, Nat.reduceSub, Nat.reduceMul, Nat.reduceLT, Nat.reduceLeDiff, Nat.reduceEqDiff, Nat.succ_ne_zero, reduceIte, val_rows, List.length_map, hl, Option.getD_some, nr_Val]
  try simp
theorem cloneRow_spec (r : DRow) (h : r.l.length ≤ 1048576) : Ctr Tryz.prog 36 [.agg r.c] [.agg r.o] := by
  refine Ctr.mk (fn := Tryz.f36) Tryz.call36 Tryz.func36 rfl mixed Tryz.ntmps36 Tryz.results36 (by kernel_rfl) rfl fun hw => ?_
  simp only [go_sem, List.getElem?_toArray, Nat.reduceBEq, Nat.reduceAdd, Nat.reduceSub, Nat.reduceMul, Nat.reduceLT, Nat.reduceLeDiff, Nat.reduceEqDiff, Nat.succ_ne_zero, reduceIte]
  refine DrawK.mkE ?_
  simp only [go_sem, List.getElem?_toArray, Nat.reduceBEq, Nat.reduceAdd, Nat.reduceSub, Nat.reduceMul, Nat.reduceLT, Nat.reduceLeDiff, Nat.reduceEqDiff, Nat.succ_ne_zero, reduceIte]
  refine CallE.mk _ (cloneVals_spec r.l h) ?_
  simp only [go_sem, List.getElem?_toArray, Nat.reduceBEq, Nat.reduceAdd, Nat.reduceSub, Nat.reduceMul, Nat.reduceLT, Nat.reduceLeDiff, Nat.reduceEqDiff, Nat.succ_ne_zero, reduceIte, nr_Val]
  try simp [OwnL, pureC]
theorem l4Copy_spec (r : DRow) (h : r.l.length ≤ 1048576) : Ctr Tryz.prog 25 [.agg r.c] [.agg r.o] := by
  refine Ctr.mk (fn := Tryz.f25) Tryz.call25 Tryz.func25 rfl mixed Tryz.ntmps25 Tryz.results25 (by kernel_rfl) rfl fun hw => ?_
  have hl : r.l.length ≤ 2147483648 := by omega
  simp only [go_sem, List.getElem?_toArray, Nat.reduceBEq, Nat.reduceAdd, Nat.reduceSub, Nat.reduceMul, Nat.reduceLT, Nat.reduceLeDiff, Nat.reduceEqDiff, Nat.succ_ne_zero, reduceIte]
  refine DrawK.mkE ?_
  simp only [go_sem, List.getElem?_toArray, Nat.reduceBEq, Nat.reduceAdd, Nat.reduceSub, Nat.reduceMul, Nat.reduceLT, Nat.reduceLeDiff, Nat.reduceEqDiff, Nat.succ_ne_zero, reduceIte, val_rows, List.length_map, hl, Option.getD_some, nr_Val]
  try simp [OwnL, pureC]

/-- The rows that stay. -/
def keptR (w : DWorld) (ts : Int) (r : DRow) : Bool := !came (markOf w r.id) ts
def kept (w : DWorld) (l : List DRow) (ts : Int) : List DRow := l.filter (keptR w ts)
theorem kept_step {w : DWorld} {l : List DRow} {ts : Int} {k : Nat} (h : k < l.length) : kept w (l.drop k) ts = (if keptR w ts l[k] = true then [l[k]] else []) ++ kept w (l.drop (k + 1)) ts := by
  unfold kept
  rw [List.drop_eq_getElem_cons h, List.filter_cons]
  split <;> rfl
theorem iKept_spec (w : DWorld) (l : List DRow) (ts : Int) (hm : w.m.length ≤ 1048576) (hl : fitS fitRow l) :
    Ctr Tryz.prog 9 [.agg w.c, .c (.sl (l.map DRow.c)), .c (.v (.int .i64 ts))] [.own 70 2 ((kept w l ts).map DRow.o) true] := by
  refine Ctr.mk (fn := Tryz.f9) Tryz.call9 Tryz.func9 rfl mixed Tryz.ntmps9 Tryz.results9 (by kernel_rfl) rfl fun hw => ?_
  simp only [go_sem, List.getElem?_toArray, Nat.reduceBEq, Nat.reduceAdd, Nat.reduceSub, Nat.reduceMul, Nat.reduceLT, Nat.reduceLeDiff, Nat.reduceEqDiff, Nat.succ_ne_zero, reduceIte, List.length_map]
  refine LoopB.mk 2 1 [2, 3, 7, 11, 12, 13] (A := Nat × List DRow) (fun x => ⟨31, [(2, .c (.v (.int .i64 ts))), (3, .lp 0 0 0), (7, .c (.ref 1)), (11, .c (.sl (l.map DRow.c))), (12, .c (.v (.int .i64 l.length))), (13, .c (.v (.int .i64 x.1)))], [⟨48, 14, [w.c], true, true⟩, ⟨70, 2, x.2.map DRow.o, true, true⟩]⟩)
    (fun x => x.1 ≤ l.length ∧ x.2 ++ kept w (l.drop x.1) ts = kept w l ts) (fun x => l.length - x.1) (0, []) [(0, false), (1, false)] ⟨⟨rfl, rfl, rfl, rfl, trivial⟩, rfl⟩ ⟨Nat.zero_le _, rfl⟩ ?_
  rintro ⟨k, out⟩ ⟨hk, hb⟩
  dsimp only at hk hb
  have hol : out.length ≤ l.length := by
    have h1 : (kept w l ts).length ≤ l.length := List.length_filter_le _ _
    rw [← hb] at h1
    simp at h1; omega
  have hlen := hl.1
  simp only [go_sem, List.getElem?_toArray, Nat.reduceBEq, Nat.reduceAdd, Nat.reduceSub, Nat.reduceMul, Nat.reduceLT, Nat.reduceLeDiff, Nat.reduceEqDiff, Nat.succ_ne_zero, reduceIte, List.length_map]
  refine cndC.mk (fun h => ?_) (fun h => ?_)
  · have hk' : k < l.length := by simpa using h
    rw [kept_step hk'] at hb
    have hr := hl.2 _ (List.getElem_mem hk')
    rw [fitRow_eq] at hr
    have hrl := hr.1
    simp only [go_sem, List.getElem?_toArray, Nat.reduceBEq, Nat.reduceAdd, Nat.reduceSub, Nat.reduceMul, Nat.reduceLT, Nat.reduceLeDiff, Nat.reduceEqDiff, Nat.succ_ne_zero, reduceIte, List.length_map, map_at _ hk', hk', Option.getD_some]
    try refine DrawK.mk ?_
    try simp only [go_sem, List.getElem?_toArray, Nat.reduceBEq, Nat.reduceAdd, Nat.reduceSub, Nat.reduceMul, Nat.reduceLT, Nat.reduceLeDiff, Nat.reduceEqDiff, Nat.succ_ne_zero, reduceIte, List.length_map, map_at _ hk', hk']
    first | refine CallF.mk _ (by simpa only [go_sem] using iMarkOf_spec w l[k].id hm) ?_ | refine CallK.mk _ (by simpa only [go_sem] using iMarkOf_spec w l[k].id hm) fun _ => ?_
    simp only [go_sem, List.getElem?_toArray, Nat.reduceBEq, Nat.reduceAdd, Nat.reduceSub, Nat.reduceMul, Nat.reduceLT, Nat.reduceLeDiff, Nat.reduceEqDiff, Nat.succ_ne_zero, reduceIte, List.length_map, map_at _ hk', hk']
    first | refine CallF.mk _ (iCame_spec (markOf w l[k].id) ts) ?_ | refine CallK.mk _ (iCame_spec (markOf w l[k].id) ts) fun _ => ?_
    rcases hc : came (markOf w l[k].id) ts with _ | _
    · have hp : keptR w ts l[k] = true := by simp [keptR, hc]
      rw [if_pos hp] at hb
      simp only [go_sem, List.getElem?_toArray, Nat.reduceBEq, Nat.reduceAdd, Nat.reduceSub, Nat.reduceMul, Nat.reduceLT, Nat.reduceLeDiff, Nat.reduceEqDiff, Nat.succ_ne_zero, reduceIte, List.length_map, map_at _ hk', hk', hc, Option.getD_some, wrap_i64 (n := (k : Int) + 1) (by omega) (by omega)]
      refine CallK.mk _ (by simpa only [go_sem] using cloneRow_spec l[k] hrl) fun _ => ?_
      have hol2 : out.length + 1 ≤ 2147483648 := by omega
      simp only [go_sem, List.getElem?_toArray, Nat.reduceBEq, Nat.reduceAdd, Nat.reduceSub, Nat.reduceMul, Nat.reduceLT, Nat.reduceLeDiff, Nat.reduceEqDiff, Nat.succ_ne_zero, reduceIte, List.all_cons, List.all_nil, List.length_map, map_at _ hk', hk', hol2, Option.getD_some, wrap_i64 (n := (k : Int) + 1) (by omega) (by omega)]
      refine ⟨(k + 1, out ++ [l[k]]), ⟨[(0, false), (5, true), (3, false)], ⟨rfl, rfl, rfl, in_app DRow.o_nr _ out rfl, pureE_map DVal.pure, trivial⟩, .inr ⟨out.length, out.map DRow.o ++ [DRow.o l[k]], _, DRow.o l[k], _, ⟨Nat.lt_succ_self 1, rfl, rn_app DRow.o_nr _ out _ _, by simp, rfl⟩,
        ⟨rfl, rfl, rfl, rfl, rfl, rfl, nr_Val _, by simp [idxL], fun l hl => by simp [idxL] at hl; omega⟩, ⟨rfl, ?tr⟩, ?eq⟩⟩, ⟨hk', by rw [← hb, List.append_assoc]⟩, by simp only; omega⟩
      case tr => unfold absSt; rw [set_last]; exact all2 rfl (nr_noRefOb (nr_Row _))
      case eq => unfold absSt; rw [set_last]; rfl
    · have hp : keptR w ts l[k] = false := by simp [keptR, hc]
      rw [if_neg (by simp [hp]), List.nil_append] at hb
      simp only [go_sem, List.getElem?_toArray, Nat.reduceBEq, Nat.reduceAdd, Nat.reduceSub, Nat.reduceMul, Nat.reduceLT, Nat.reduceLeDiff, Nat.reduceEqDiff, Nat.succ_ne_zero, reduceIte, List.length_map, map_at _ hk', hk', hc, Option.getD_some, wrap_i64 (n := (k : Int) + 1) (by omega) (by omega)]
      refine ⟨(k + 1, out), ⟨[(0, false), (1, true)], ⟨rfl, rfl, rfl, nr_inE (nr_Row _), trivial⟩, .inl ?eq⟩, ⟨hk', hb⟩, by simp only; omega⟩
      case eq =>
        show (⟨31, _, [_, ⟨70, 2, (out.map DRow.o).map (fun x => x.map (rnC [(0, false), (1, true)])), true, true⟩]⟩ : MS) = _
        rw [rn_nrE (nr_Row out)]
        rfl
  · have hk' : k = l.length := by simp at h; omega
    subst hk'
    rw [List.drop_length] at hb
    have : out = kept w l ts := by simpa [kept] using hb
    subst this
    simp only [go_sem, List.getElem?_toArray, Nat.reduceBEq, Nat.reduceAdd, Nat.reduceSub, Nat.reduceMul, Nat.reduceLT, Nat.reduceLeDiff, Nat.reduceEqDiff, Nat.succ_ne_zero, reduceIte, nr_Row]
    simp

theorem sKept_spec (w : DWorld) (l : List DRow) (ts : Int) (hm : w.m.length ≤ 1048576) (hl : fitS fitRow l) :
    Ctr Tryz.prog 6 [.agg w.c, .c (.sl (l.map DRow.c)), .c (.v (.int .i64 ts))] [.own 70 2 ((kept w l ts).map DRow.o) true] := by
  refine Ctr.mk (fn := Tryz.f6) Tryz.call6 Tryz.func6 rfl mixed Tryz.ntmps6 Tryz.results6 (by kernel_rfl) rfl fun hw => ?_
  simp only [go_sem, List.getElem?_toArray, Nat.reduceBEq, Nat.reduceAdd, Nat.reduceSub, Nat.reduceMul, Nat.reduceLT, Nat.reduceLeDiff, Nat.reduceEqDiff, Nat.succ_ne_zero, reduceIte, List.length_map]
  refine LoopB.mk 2 1 [1, 2, 3, 7, 8] (A := Nat × List DRow) (fun x => ⟨37, [(1, .c (.sl (l.map DRow.c))), (2, .c (.v (.int .i64 ts))), (3, .lp 0 0 0), (7, .c (.ref 1)), (8, .c (.v (.int .i64 x.1)))], [⟨48, 14, [w.c], true, true⟩, ⟨70, 2, x.2.map DRow.o, true, true⟩]⟩)
    (fun x => x.1 ≤ l.length ∧ x.2 ++ kept w (l.drop x.1) ts = kept w l ts) (fun x => l.length - x.1) (0, []) [(0, false), (1, false)] ⟨⟨rfl, rfl, rfl, rfl, trivial⟩, rfl⟩ ⟨Nat.zero_le _, rfl⟩ ?_
  rintro ⟨k, out⟩ ⟨hk, hb⟩
  dsimp only at hk hb
  have hol : out.length ≤ l.length := by
    have h1 : (kept w l ts).length ≤ l.length := List.length_filter_le _ _
    rw [← hb] at h1
    simp at h1; omega
  have hlen := hl.1
  simp only [go_sem, List.getElem?_toArray, Nat.reduceBEq, Nat.reduceAdd, Nat.reduceSub, Nat.reduceMul, Nat.reduceLT, Nat.reduceLeDiff, Nat.reduceEqDiff, Nat.succ_ne_zero, reduceIte, List.length_map]
  refine cndC.mk (fun h => ?_) (fun h => ?_)
  · have hk' : k < l.length := by simpa using h
    rw [kept_step hk'] at hb
    have hr := hl.2 _ (List.getElem_mem hk')
    rw [fitRow_eq] at hr
    have hrl := hr.1
    simp only [go_sem, List.getElem?_toArray, Nat.reduceBEq, Nat.reduceAdd, Nat.reduceSub, Nat.reduceMul, Nat.reduceLT, Nat.reduceLeDiff, Nat.reduceEqDiff, Nat.succ_ne_zero, reduceIte, List.length_map, map_at _ hk', hk', Option.getD_some]
    try refine DrawK.mk ?_
    try simp only [go_sem, List.getElem?_toArray, Nat.reduceBEq, Nat.reduceAdd, Nat.reduceSub, Nat.reduceMul, Nat.reduceLT, Nat.reduceLeDiff, Nat.reduceEqDiff, Nat.succ_ne_zero, reduceIte, List.length_map, map_at _ hk', hk']
    first | refine CallF.mk _ (by simpa only [go_sem] using sMarkOf_spec w l[k].id hm) ?_ | refine CallK.mk _ (by simpa only [go_sem] using sMarkOf_spec w l[k].id hm) fun _ => ?_
    simp only [go_sem, List.getElem?_toArray, Nat.reduceBEq, Nat.reduceAdd, Nat.reduceSub, Nat.reduceMul, Nat.reduceLT, Nat.reduceLeDiff, Nat.reduceEqDiff, Nat.succ_ne_zero, reduceIte, List.length_map, map_at _ hk', hk']
    first | refine CallF.mk _ (sCame_spec (markOf w l[k].id) ts) ?_ | refine CallK.mk _ (sCame_spec (markOf w l[k].id) ts) fun _ => ?_
    rcases hc : came (markOf w l[k].id) ts with _ | _
    · have hp : keptR w ts l[k] = true := by simp [keptR, hc]
      rw [if_pos hp] at hb
      simp only [go_sem, List.getElem?_toArray, Nat.reduceBEq, Nat.reduceAdd, Nat.reduceSub, Nat.reduceMul, Nat.reduceLT, Nat.reduceLeDiff, Nat.reduceEqDiff, Nat.succ_ne_zero, reduceIte, List.length_map, map_at _ hk', hk', hc, Option.getD_some, wrap_i64 (n := (k : Int) + 1) (by omega) (by omega)]
      refine CallK.mk _ (by simpa only [go_sem] using l4Copy_spec l[k] hrl) fun _ => ?_
      have hol2 : out.length + 1 ≤ 2147483648 := by omega
      simp only [go_sem, List.getElem?_toArray, Nat.reduceBEq, Nat.reduceAdd, Nat.reduceSub, Nat.reduceMul, Nat.reduceLT, Nat.reduceLeDiff, Nat.reduceEqDiff, Nat.succ_ne_zero, reduceIte, List.all_cons, List.all_nil, List.length_map, map_at _ hk', hk', hol2, Option.getD_some, wrap_i64 (n := (k : Int) + 1) (by omega) (by omega)]
      refine ⟨(k + 1, out ++ [l[k]]), ⟨[(0, false), (5, true), (2, false)], ⟨rfl, rfl, rfl, in_app DRow.o_nr _ out rfl, pureE_map DVal.pure, trivial⟩, .inr ⟨out.length, out.map DRow.o ++ [DRow.o l[k]], _, DRow.o l[k], _, ⟨Nat.lt_succ_self 1, rfl, rn_app DRow.o_nr _ out _ _, by simp, rfl⟩,
        ⟨rfl, rfl, rfl, rfl, rfl, rfl, nr_Val _, by simp [idxL], fun l hl => by simp [idxL] at hl; omega⟩, ⟨rfl, ?tr⟩, ?eq⟩⟩, ⟨hk', by rw [← hb, List.append_assoc]⟩, by simp only; omega⟩
      case tr => unfold absSt; rw [set_last]; exact all2 rfl (nr_noRefOb (nr_Row _))
      case eq => unfold absSt; rw [set_last]; rfl
    · have hp : keptR w ts l[k] = false := by simp [keptR, hc]
      rw [if_neg (by simp [hp]), List.nil_append] at hb
      simp only [go_sem, List.getElem?_toArray, Nat.reduceBEq, Nat.reduceAdd, Nat.reduceSub, Nat.reduceMul, Nat.reduceLT, Nat.reduceLeDiff, Nat.reduceEqDiff, Nat.succ_ne_zero, reduceIte, List.length_map, map_at _ hk', hk', hc, Option.getD_some, wrap_i64 (n := (k : Int) + 1) (by omega) (by omega)]
      refine ⟨(k + 1, out), ⟨[(0, false), (1, true)], ⟨rfl, rfl, rfl, nr_inE (nr_Row _), trivial⟩, .inl ?eq⟩, ⟨hk', hb⟩, by simp only; omega⟩
      case eq =>
        show (⟨37, _, [_, ⟨70, 2, (out.map DRow.o).map (fun x => x.map (rnC [(0, false), (1, true)])), true, true⟩]⟩ : MS) = _
        rw [rn_nrE (nr_Row out)]
        rfl
  · have hk' : k = l.length := by simp at h; omega
    subst hk'
    rw [List.drop_length] at hb
    have : out = kept w l ts := by simpa [kept] using hb
    subst this
    simp only [go_sem, List.getElem?_toArray, Nat.reduceBEq, Nat.reduceAdd, Nat.reduceSub, Nat.reduceMul, Nat.reduceLT, Nat.reduceLeDiff, Nat.reduceEqDiff, Nat.succ_ne_zero, reduceIte, nr_Row]
    simp

end Go.Proofs.YtekkkcelnaomoaaGreat
