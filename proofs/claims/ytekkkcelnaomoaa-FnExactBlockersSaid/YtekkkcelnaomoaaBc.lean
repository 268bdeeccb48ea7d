/- Walks and laws of this seat, over the value machine. -/
import Derived.Test.YtekkkcelnaomoaaBs
namespace Go.Proofs.Ytekkkcelnaomoaa
set_option linter.unusedSimpArgs false
set_option linter.unusedVariables false
open Go.Vm
set_option maxHeartbeats 1000000
set_option maxRecDepth 10000

theorem markI_len (k : Int) (n : Nat) : (markI k n).length = n := by simp [markI]
theorem markI_at (k : Int) (n i : Nat) (h : i < n) : (markI k n)[i]? = some (k + (i : Int)) := by simp [markI, h]
/-- Marked ints, held. -/
theorem heldIntS_spec (k : Int) (n : Nat) (hk : 0 ≤ k) (hb : k + n ≤ 1099511627776) : Ctr Try.prog 12 [.c (.sl ((markI k n).map intC)), .c (.v (.int .i64 k))] [.val (.c (.v (.int .i64 (k + n))))] := by
  refine Ctr.mk (fn := Try.f12) Try.call12 Try.func12 rfl mixed Try.ntmps12 Try.results12 (by kernel_rfl) rfl fun hw => ?_
  simp only [go_sem, List.getElem?_toArray, Nat.reduceAdd, Nat.reduceSub, Nat.reduceMul, Nat.reduceLT, Nat.reduceLeDiff, Nat.reduceEqDiff, Nat.succ_ne_zero, reduceIte]
  refine LoopK.mk 0 [0, 1, 5] (A := Nat) (fun i => ⟨21, [(0, .c (.sl ((markI k n).map intC))), (1, .c (.v (.int .i64 (k + i)))), (5, .c (.v (.int .i64 i)))], []⟩) (fun i => i ≤ n) (fun i => n - i) 0 ⟨⟨rfl, rfl⟩, by simp [trim, eget], Nat.zero_le _⟩ ?_
  intro i hi
  simp only [go_sem, List.getElem?_toArray, Nat.reduceAdd, Nat.reduceSub, Nat.reduceMul, Nat.reduceLT, Nat.reduceLeDiff, Nat.reduceEqDiff, Nat.succ_ne_zero, reduceIte, List.length_map, markI_len]
  refine cndC.mk (fun h => ?_) (fun h => ?_)
  · have hi' : i < n := by simpa using h
    have e1 : ((markI k n).map intC)[i]? = some [.v (.int .i64 (k + i))] := by rw [List.getElem?_map, markI_at k n i hi']; rfl
    have e2 : (!(k + (i : Int) == k + (i : Int))) = false := by simp
    simp only [go_sem, List.getElem?_toArray, Nat.reduceAdd, Nat.reduceSub, Nat.reduceMul, Nat.reduceLT, Nat.reduceLeDiff, Nat.reduceEqDiff, Nat.succ_ne_zero, reduceIte, List.length_map, e1, bne_self_eq_false, wrap_i64 (n := (k + (i : Int)) + 1) (by omega) (by omega), wrap_i64 (n := (i : Int) + 1) (by omega) (by omega)]
    exact ⟨i + 1, ⟨rfl, rfl⟩, by simp [trim, eget]; omega, by omega, by omega⟩
  · have hi' : i = n := by simp at h; omega
    subst hi'
    simp only [go_sem, List.getElem?_toArray, Nat.reduceAdd, Nat.reduceSub, Nat.reduceMul, Nat.reduceLT, Nat.reduceLeDiff, Nat.reduceEqDiff, Nat.succ_ne_zero, reduceIte]

noncomputable def blkP (e p : Int) : Bool := decide (p ≥ 0) && (p != e)
noncomputable def blk (e : Int) : Nat → List Int → List Int
  | _, [] => []
  | k, p :: r => (if blkP e p = true then [(k : Int)] else []) ++ blk e (k + 1) r
theorem blk_len (e : Int) : ∀ (k : Nat) (l : List Int), (blk e k l).length ≤ l.length
  | _, [] => by simp [blk]
  | k, p :: r => by
    have := blk_len e (k + 1) r
    simp only [blk, List.length_append, List.length_cons]
    split <;> simp <;> omega
theorem blk_step {e : Int} {l : List Int} {k : Nat} (h : k < l.length) : blk e k (l.drop k) = (if blkP e l[k] = true then [(k : Int)] else []) ++ blk e (k + 1) (l.drop (k + 1)) := by
  rw [List.drop_eq_getElem_cons h]; rfl
theorem sBlockers_spec (w : DWorld) (hf : w.p.length ≤ 1048576) : Ctr Try.prog 5 [.agg w.c] [.own 3 1 ((blk w.e 0 w.p).map intC) true] := by
  refine Ctr.mk (fn := Try.f5) Try.call5 Try.func5 rfl mixed Try.ntmps5 Try.results5 (by kernel_rfl) rfl fun hw => ?_
  simp only [go_sem, List.getElem?_toArray, Nat.reduceAdd, Nat.reduceSub, Nat.reduceMul, Nat.reduceLT, Nat.reduceLeDiff, Nat.reduceEqDiff, Nat.succ_ne_zero, reduceIte, List.length_map]
  refine LoopR.mk [1, 3, 4] (A := Nat × List Int) (fun x => ⟨34, [(1, .lp 0 0 0), (3, .c (.ref 1)), (4, .c (.v (.int .i64 x.1)))], [⟨45, 14, [w.c], true, true⟩, ⟨3, 1, x.2.map intC, true, true⟩]⟩) (fun x => x.1 ≤ w.p.length ∧ x.2 ++ blk w.e x.1 (w.p.drop x.1) = blk w.e 0 w.p) (fun x => w.p.length - x.1) (0, []) [(0, false), (1, false)] ⟨⟨rfl, rfl, rfl, rfl, trivial⟩, rfl⟩ ⟨Nat.zero_le _, rfl⟩ ?_
  rintro ⟨k, out⟩ ⟨hk, hb⟩
  dsimp only at hk hb
  have hol : out.length ≤ w.p.length := by
    have h1 := blk_len w.e 0 w.p
    rw [← hb] at h1
    simp at h1; omega
  simp only [go_sem, List.getElem?_toArray, Nat.reduceAdd, Nat.reduceSub, Nat.reduceMul, Nat.reduceLT, Nat.reduceLeDiff, Nat.reduceEqDiff, Nat.succ_ne_zero, reduceIte, List.length_map]
  refine cndC.mk (fun h => ?_) (fun h => ?_)
  · have hk' : k < w.p.length := by simpa using h
    rw [blk_step hk'] at hb
    have hol2 : out.length + 1 ≤ 2147483648 := by omega
    rcases h1 : decide (w.p[k] ≥ 0) with _ | _ <;> rcases h2 : w.p[k] != w.e with _ | _ <;>
      simp only [go_sem, List.getElem?_toArray, Nat.reduceAdd, Nat.reduceSub, Nat.reduceMul, Nat.reduceLT, Nat.reduceLeDiff, Nat.reduceEqDiff, Nat.succ_ne_zero, reduceIte, List.length_map, map_at _ hk', hk', h1, h2] <;>
      try refine DrawK.mk ?_
    all_goals simp only [go_sem, List.getElem?_toArray, Nat.reduceAdd, Nat.reduceSub, Nat.reduceMul, Nat.reduceLT, Nat.reduceLeDiff, Nat.reduceEqDiff, Nat.succ_ne_zero, reduceIte, List.length_map, map_at _ hk', hk', h1, h2, hol2, Option.getD_some, wrap_i64 (n := (k : Int) + 1) (by omega) (by omega)]
    all_goals have hp : blkP w.e w.p[k] = (decide (w.p[k] ≥ 0) && (w.p[k] != w.e)) := rfl
    all_goals rw [h1, h2] at hp
    · exact ⟨(k + 1, out), ⟨[(0, false), (1, false)], ⟨rfl, rfl, rfl, pureE_map intC.pure, trivial⟩, rfl⟩, ⟨hk', by rw [← hb, hp]; rfl⟩, by simp only; omega⟩
    · exact ⟨(k + 1, out), ⟨[(0, false), (1, false)], ⟨rfl, rfl, rfl, pureE_map intC.pure, trivial⟩, rfl⟩, ⟨hk', by rw [← hb, hp]; rfl⟩, by simp only; omega⟩
    · exact ⟨(k + 1, out), ⟨[(0, false), (1, false)], ⟨rfl, rfl, rfl, pureE_map intC.pure, trivial⟩, rfl⟩, ⟨hk', by rw [← hb, hp]; rfl⟩, by simp only; omega⟩
    · have hpk : pureE [[Cl.v (.int .i64 (k : Int))]] = true := rfl
      simp only [go_sem, List.getElem?_toArray, Nat.reduceAdd, Nat.reduceSub, Nat.reduceMul, Nat.reduceLT, Nat.reduceLeDiff, Nat.reduceEqDiff, Nat.succ_ne_zero, reduceIte, List.length_map, map_at _ hk', hk', h1, h2, hol2, Option.getD_some, fzE, hpk, List.all_cons, List.all_nil, Nat.reduceBEq, Bool.and_self, wrap_i64 (n := (k : Int) + 1) (by omega) (by omega)]
      have e : out.map intC ++ [[Cl.v (.int .i64 (k : Int))]] = (out ++ [(k : Int)]).map intC := by rw [List.map_append]; rfl
      rw [e]
      exact ⟨(k + 1, out ++ [(k : Int)]), ⟨[(0, false), (3, false)], ⟨rfl, rfl, rfl, pureE_map intC.pure, trivial⟩, rfl⟩, ⟨hk', by rw [← hb, hp, List.append_assoc]; rfl⟩, by simp only; omega⟩
  · have hk' : k = w.p.length := by simp at h; omega
    subst hk'
    rw [List.drop_length] at hb
    simp only [blk, List.append_nil] at hb
    subst hb
    simp only [go_sem, List.getElem?_toArray, Nat.reduceAdd, Nat.reduceSub, Nat.reduceMul, Nat.reduceLT, Nat.reduceLeDiff, Nat.reduceEqDiff, Nat.succ_ne_zero, reduceIte, nr_int]
    simp
theorem iBlockers_spec (w : DWorld) (hf : w.p.length ≤ 1048576) : Ctr Try.prog 7 [.agg w.c] [.own 3 1 ((blk w.e 0 w.p).map intC) true] := by
  refine Ctr.mk (fn := Try.f7) Try.call7 Try.func7 rfl mixed Try.ntmps7 Try.results7 (by kernel_rfl) rfl fun hw => ?_
  simp only [go_sem, List.getElem?_toArray, Nat.reduceAdd, Nat.reduceSub, Nat.reduceMul, Nat.reduceLT, Nat.reduceLeDiff, Nat.reduceEqDiff, Nat.succ_ne_zero, reduceIte, List.length_map]
  refine LoopR.mk [1, 3, 8, 9, 10] (A := Nat × List Int) (fun x => ⟨29, [(1, .lp 0 0 0), (3, .c (.ref 1)), (8, .c (.sl (w.p.map intC))), (9, .c (.v (.int .i64 w.p.length))), (10, .c (.v (.int .i64 x.1)))], [⟨45, 14, [w.c], true, true⟩, ⟨3, 1, x.2.map intC, true, true⟩]⟩) (fun x => x.1 ≤ w.p.length ∧ x.2 ++ blk w.e x.1 (w.p.drop x.1) = blk w.e 0 w.p) (fun x => w.p.length - x.1) (0, []) [(0, false), (1, false)] ⟨⟨rfl, rfl, rfl, rfl, trivial⟩, rfl⟩ ⟨Nat.zero_le _, rfl⟩ ?_
  rintro ⟨k, out⟩ ⟨hk, hb⟩
  dsimp only at hk hb
  have hol : out.length ≤ w.p.length := by
    have h1 := blk_len w.e 0 w.p
    rw [← hb] at h1
    simp at h1; omega
  simp only [go_sem, List.getElem?_toArray, Nat.reduceAdd, Nat.reduceSub, Nat.reduceMul, Nat.reduceLT, Nat.reduceLeDiff, Nat.reduceEqDiff, Nat.succ_ne_zero, reduceIte, List.length_map]
  refine cndC.mk (fun h => ?_) (fun h => ?_)
  · have hk' : k < w.p.length := by simpa using h
    rw [blk_step hk'] at hb
    have hol2 : out.length + 1 ≤ 2147483648 := by omega
    rcases h1 : decide (w.p[k] ≥ 0) with _ | _ <;> rcases h2 : w.p[k] != w.e with _ | _ <;>
      simp only [go_sem, List.getElem?_toArray, Nat.reduceAdd, Nat.reduceSub, Nat.reduceMul, Nat.reduceLT, Nat.reduceLeDiff, Nat.reduceEqDiff, Nat.succ_ne_zero, reduceIte, List.length_map, map_at _ hk', hk', h1, h2] <;>
      try refine DrawK.mk ?_
    all_goals simp only [go_sem, List.getElem?_toArray, Nat.reduceAdd, Nat.reduceSub, Nat.reduceMul, Nat.reduceLT, Nat.reduceLeDiff, Nat.reduceEqDiff, Nat.succ_ne_zero, reduceIte, List.length_map, map_at _ hk', hk', h1, h2, hol2, Option.getD_some, wrap_i64 (n := (k : Int) + 1) (by omega) (by omega)]
    all_goals have hp : blkP w.e w.p[k] = (decide (w.p[k] ≥ 0) && (w.p[k] != w.e)) := rfl
    all_goals rw [h1, h2] at hp
    · exact ⟨(k + 1, out), ⟨[(0, false), (1, false)], ⟨rfl, rfl, rfl, pureE_map intC.pure, trivial⟩, rfl⟩, ⟨hk', by rw [← hb, hp]; rfl⟩, by simp only; omega⟩
    · exact ⟨(k + 1, out), ⟨[(0, false), (1, false)], ⟨rfl, rfl, rfl, pureE_map intC.pure, trivial⟩, rfl⟩, ⟨hk', by rw [← hb, hp]; rfl⟩, by simp only; omega⟩
    · exact ⟨(k + 1, out), ⟨[(0, false), (1, false)], ⟨rfl, rfl, rfl, pureE_map intC.pure, trivial⟩, rfl⟩, ⟨hk', by rw [← hb, hp]; rfl⟩, by simp only; omega⟩
    · have hpk : pureE [[Cl.v (.int .i64 (k : Int))]] = true := rfl
      simp only [go_sem, List.getElem?_toArray, Nat.reduceAdd, Nat.reduceSub, Nat.reduceMul, Nat.reduceLT, Nat.reduceLeDiff, Nat.reduceEqDiff, Nat.succ_ne_zero, reduceIte, List.length_map, map_at _ hk', hk', h1, h2, hol2, Option.getD_some, fzE, hpk, List.all_cons, List.all_nil, Nat.reduceBEq, Bool.and_self, wrap_i64 (n := (k : Int) + 1) (by omega) (by omega)]
      have e : out.map intC ++ [[Cl.v (.int .i64 (k : Int))]] = (out ++ [(k : Int)]).map intC := by rw [List.map_append]; rfl
      rw [e]
      exact ⟨(k + 1, out ++ [(k : Int)]), ⟨[(0, false), (3, false)], ⟨rfl, rfl, rfl, pureE_map intC.pure, trivial⟩, rfl⟩, ⟨hk', by rw [← hb, hp, List.append_assoc]; rfl⟩, by simp only; omega⟩
  · have hk' : k = w.p.length := by simp at h; omega
    subst hk'
    rw [List.drop_length] at hb
    simp only [blk, List.append_nil] at hb
    subst hb
    simp only [go_sem, List.getElem?_toArray, Nat.reduceAdd, Nat.reduceSub, Nat.reduceMul, Nat.reduceLT, Nat.reduceLeDiff, Nat.reduceEqDiff, Nat.succ_ne_zero, reduceIte, nr_int]
    simp

end Go.Proofs.Ytekkkcelnaomoaa
