/- Walks: zones of values. -/
import Derived.Test.YtepjgnlinjlehaaGreatAa
import Derived.Test.YtepjgnlinjlehaaGreatAb
namespace Go.Proofs.YtepjgnlinjlehaaGreat
set_option linter.unusedSimpArgs false
set_option linter.unusedVariables false
open Go.Vm
set_option maxHeartbeats 2000000
set_option maxRecDepth 10000

def zeroV : DVal := ⟨0, 0, ByteArray.empty⟩
def zstep (z : DVal × DVal) (v : DVal) : DVal × DVal := (if lessV v z.1 = true then v else z.1, if lessV z.2 v = true then v else z.2)
def zone : List DVal → DVal × DVal
  | [] => (zeroV, zeroV)
  | v :: vs => vs.foldl zstep (v, v)
def zoneC (z : DVal × DVal) : List Cl := z.1.c ++ z.2.c
@[go_sem] theorem zoneC_eq (z : DVal × DVal) : zoneC z = z.1.c ++ z.2.c := rfl
theorem less_self (v : DVal) : lessV v v = false := by
  have hb : ∀ l : List UInt8, Op.bytesLess l l = false := by
    intro l
    induction l with
    | nil => rfl
    | cons x l ih => simp [Op.bytesLess, ih]
  simp [lessV, hb]
theorem zstep_self (v : DVal) : zstep (v, v) v = (v, v) := by simp [zstep, less_self]
theorem zone_all {l : List DVal} (h : 0 < l.length) : l.foldl zstep (l[0], l[0]) = zone l := by
  cases l with
  | nil => simp at h
  | cons v vs => simp [zone, zstep_self]
theorem zfold_step {l : List DVal} {k : Nat} (h : k < l.length) (z : DVal × DVal) : (l.drop k).foldl zstep z = (l.drop (k + 1)).foldl zstep (zstep z l[k]) := by
  rw [List.drop_eq_getElem_cons h, List.foldl_cons]
theorem sZone_spec (l : List DVal) (ha : l.length ≤ 1048576) : Ctr Tryz.prog 154 [.c (.sl (l.map DVal.c))] [.val (.agg (zoneC (zone l)))] := by
  refine Ctr.mk (fn := Tryz.f154) Tryz.call154 Tryz.func154 rfl mixed Tryz.ntmps154 Tryz.results154 (by kernel_rfl) rfl fun hw => ?_
  simp only [go_sem, List.getElem?_toArray, Nat.reduceBEq, Nat.reduceAdd, Nat.reduceSub, Nat.reduceMul, Nat.reduceLT, Nat.reduceLeDiff, Nat.reduceEqDiff, Nat.succ_ne_zero, reduceIte, List.length_map]
  refine LoopU.mk 2 (A := Nat × (DVal × DVal)) (fun x => [(4, .c (.v (.int .i64 (x.1))))]) (fun x => [⟨173, 6, [zoneC (zeroV, zeroV)], true, true⟩, ⟨173, 6, [zoneC x.2], true, true⟩]) (fun x => x.1 ≤ l.length ∧ if x.1 = 0 then x.2 = (zeroV, zeroV) else (l.drop x.1).foldl zstep x.2 = zone l) (fun x => l.length - x.1) (0, (zeroV, zeroV)) ⟨⟨rfl, rfl⟩, rfl, Nat.zero_le _, rfl⟩ ?_
  rintro ⟨k, z⟩ ⟨hk, hf⟩
  dsimp only at hk hf
  simp only [go_sem, List.getElem?_toArray, Nat.reduceBEq, Nat.reduceAdd, Nat.reduceSub, Nat.reduceMul, Nat.reduceLT, Nat.reduceLeDiff, Nat.reduceEqDiff, Nat.succ_ne_zero, reduceIte, List.length_map]
  refine cndC.mk (fun h => ?_) (fun h => ?_)
  · have hk' : k < l.length := by simpa using h
    rcases hz : ((k : Int) == 0) with _ | _
    · have hk0 : k ≠ 0 := by simp at hz; omega
      rw [if_neg hk0, zfold_step hk'] at hf
      simp only [go_sem, List.getElem?_toArray, Nat.reduceBEq, Nat.reduceAdd, Nat.reduceSub, Nat.reduceMul, Nat.reduceLT, Nat.reduceLeDiff, Nat.reduceEqDiff, Nat.succ_ne_zero, reduceIte, List.length_map, map_at _ hk', hk', hz]
      refine DrawK.mk ?_
      simp only [go_sem, List.getElem?_toArray, Nat.reduceBEq, Nat.reduceAdd, Nat.reduceSub, Nat.reduceMul, Nat.reduceLT, Nat.reduceLeDiff, Nat.reduceEqDiff, Nat.succ_ne_zero, reduceIte, List.length_map, map_at _ hk', hk', hz]
      refine CallF.mk _ (by simpa only [go_sem] using sLessVal_spec l[k] z.1) ?_
      rcases h1 : lessV l[k] z.1 with _ | _
      all_goals
        simp only [go_sem, List.getElem?_toArray, Nat.reduceBEq, Nat.reduceAdd, Nat.reduceSub, Nat.reduceMul, Nat.reduceLT, Nat.reduceLeDiff, Nat.reduceEqDiff, Nat.succ_ne_zero, reduceIte, List.length_map, map_at _ hk', hk', hz, h1]
        refine DrawK.mk ?_
        simp only [go_sem, List.getElem?_toArray, Nat.reduceBEq, Nat.reduceAdd, Nat.reduceSub, Nat.reduceMul, Nat.reduceLT, Nat.reduceLeDiff, Nat.reduceEqDiff, Nat.succ_ne_zero, reduceIte, List.length_map, map_at _ hk', hk', hz, h1]
        refine CallF.mk _ (by simpa only [go_sem] using sLessVal_spec z.2 l[k]) ?_
        rcases h2 : lessV z.2 l[k] with _ | _
        all_goals
          simp only [go_sem, List.getElem?_toArray, Nat.reduceBEq, Nat.reduceAdd, Nat.reduceSub, Nat.reduceMul, Nat.reduceLT, Nat.reduceLeDiff, Nat.reduceEqDiff, Nat.succ_ne_zero, reduceIte, List.length_map, map_at _ hk', hk', hz, h1, h2, wrap_i64 (n := (k : Int) + 1) (by omega) (by omega)]
          refine ⟨(k + 1, zstep z l[k]), ⟨rfl, rfl⟩, ?_, ⟨by omega, by rw [if_neg (by omega)]; exact hf⟩, by simp only; omega⟩
          simp only [zstep, h1, h2, go_sem, reduceIte, Bool.false_eq_true]
          rfl
    · have hk0 : k = 0 := by simp at hz; omega
      subst hk0
      simp only [go_sem, List.getElem?_toArray, Nat.reduceBEq, Nat.reduceAdd, Nat.reduceSub, Nat.reduceMul, Nat.reduceLT, Nat.reduceLeDiff, Nat.reduceEqDiff, Nat.succ_ne_zero, reduceIte, List.length_map, map_at _ hk', hk', hz]
      try refine DrawK.mk ?_
      try simp only [go_sem, List.getElem?_toArray, Nat.reduceBEq, Nat.reduceAdd, Nat.reduceSub, Nat.reduceMul, Nat.reduceLT, Nat.reduceLeDiff, Nat.reduceEqDiff, Nat.succ_ne_zero, reduceIte, List.length_map, map_at _ hk', hk', hz]
      try refine DrawK.mk ?_
      try simp only [go_sem, List.getElem?_toArray, Nat.reduceBEq, Nat.reduceAdd, Nat.reduceSub, Nat.reduceMul, Nat.reduceLT, Nat.reduceLeDiff, Nat.reduceEqDiff, Nat.succ_ne_zero, reduceIte, List.length_map, map_at _ hk', hk', hz]
      exact ⟨(1, (l[0], l[0])), ⟨rfl, rfl⟩, rfl, ⟨by omega, by rw [if_neg (by omega)]; rw [← zone_all hk', ← zstep_self l[0], ← zfold_step hk', zstep_self]; rfl⟩, by simp only; omega⟩
  · have hk' : k = l.length := by simp at h; omega
    have hz : z = zone l := by
      split at hf
      · have : l = [] := by apply List.eq_nil_of_length_eq_zero; omega
        subst this; exact hf
      · subst hk'
        simpa using hf
    subst hz
    simp only [go_sem, List.getElem?_toArray, Nat.reduceBEq, Nat.reduceAdd, Nat.reduceSub, Nat.reduceMul, Nat.reduceLT, Nat.reduceLeDiff, Nat.reduceEqDiff, Nat.succ_ne_zero, reduceIte]
theorem iZone_spec (l : List DVal) (ha : l.length ≤ 1048576) : Ctr Tryz.prog 120 [.c (.sl (l.map DVal.c))] [.val (.agg (zoneC (zone l)))] := by
  refine Ctr.mk (fn := Tryz.f120) Tryz.call120 Tryz.func120 rfl mixed Tryz.ntmps120 Tryz.results120 (by kernel_rfl) rfl fun hw => ?_
  simp only [go_sem, List.getElem?_toArray, Nat.reduceBEq, Nat.reduceAdd, Nat.reduceSub, Nat.reduceMul, Nat.reduceLT, Nat.reduceLeDiff, Nat.reduceEqDiff, Nat.succ_ne_zero, reduceIte, List.length_map]
  refine cndC.mk (fun h => ?_) (fun h => ?_)
  · have hk' : l = [] := by simpa using h
    subst hk'
    simp only [go_sem, List.getElem?_toArray, Nat.reduceBEq, Nat.reduceAdd, Nat.reduceSub, Nat.reduceMul, Nat.reduceLT, Nat.reduceLeDiff, Nat.reduceEqDiff, Nat.succ_ne_zero, reduceIte, List.length_map]
    try simp [zone, zoneC, DVal.c_eq, zeroV]
  · have h0 : 0 < l.length := by simp at h; exact List.length_pos_iff.2 h
    simp only [go_sem, List.getElem?_toArray, Nat.reduceBEq, Nat.reduceAdd, Nat.reduceSub, Nat.reduceMul, Nat.reduceLT, Nat.reduceLeDiff, Nat.reduceEqDiff, Nat.succ_ne_zero, reduceIte, List.length_map, map_at _ h0, h0]
    refine DrawK.mkE ?_
    have h00 : ((0 : Int) == 0) = true := rfl
    simp only [go_sem, List.getElem?_toArray, Nat.reduceBEq, Nat.reduceAdd, Nat.reduceSub, Nat.reduceMul, Nat.reduceLT, Nat.reduceLeDiff, Nat.reduceEqDiff, Nat.succ_ne_zero, reduceIte, List.length_map, map_at _ h0, h0]
    refine LoopU.mk 2 (A := Nat × (DVal × DVal)) (fun x => [(19, .c (.v (.int .i64 (x.1))))]) (fun x => [⟨173, 6, [zoneC (zeroV, zeroV)], true, true⟩, ⟨173, 6, [zoneC x.2], true, true⟩]) (fun x => x.1 ≤ l.length ∧ (l.drop x.1).foldl zstep x.2 = zone l) (fun x => l.length - x.1) (0, (l[0], l[0])) ⟨⟨rfl, rfl⟩, rfl, Nat.zero_le _, zone_all h0⟩ ?_
    rintro ⟨k, z⟩ ⟨hk, hf⟩
    dsimp only at hk hf
    simp (maxSteps := 1000000) only [go_sem, List.getElem?_toArray, Nat.reduceBEq, Nat.reduceAdd, Nat.reduceSub, Nat.reduceMul, Nat.reduceLT, Nat.reduceLeDiff, Nat.reduceEqDiff, Nat.succ_ne_zero, reduceIte, List.length_map]
    refine cndC.mk (fun h => ?_) (fun h => ?_)
    · have hk' : k < l.length := by simpa using h
      rw [zfold_step hk'] at hf
      simp (maxSteps := 1000000) only [go_sem, List.getElem?_toArray, Nat.reduceBEq, Nat.reduceAdd, Nat.reduceSub, Nat.reduceMul, Nat.reduceLT, Nat.reduceLeDiff, Nat.reduceEqDiff, Nat.succ_ne_zero, reduceIte, List.length_map, map_at _ hk', hk']
      refine CallK.mk _ (by simpa only [go_sem] using iLessVal_spec l[k] z.1) fun _ => ?_
      rcases h1 : lessV l[k] z.1 with _ | _
      all_goals
        simp (maxSteps := 1000000) only [go_sem, List.getElem?_toArray, Nat.reduceBEq, Nat.reduceAdd, Nat.reduceSub, Nat.reduceMul, Nat.reduceLT, Nat.reduceLeDiff, Nat.reduceEqDiff, Nat.succ_ne_zero, reduceIte, List.length_map, map_at _ hk', hk', h1]
        refine CallK.mk _ (by simpa only [go_sem] using iLessVal_spec z.2 l[k]) fun _ => ?_
        rcases h2 : lessV z.2 l[k] with _ | _
        all_goals
          simp (maxSteps := 1000000) only [go_sem, List.getElem?_toArray, Nat.reduceBEq, Nat.reduceAdd, Nat.reduceSub, Nat.reduceMul, Nat.reduceLT, Nat.reduceLeDiff, Nat.reduceEqDiff, Nat.succ_ne_zero, reduceIte, List.length_map, map_at _ hk', hk', h1, h2, wrap_i64 (n := (k : Int) + 1) (by omega) (by omega)]
          refine ⟨(k + 1, zstep z l[k]), ⟨rfl, rfl⟩, ?_, ⟨by omega, hf⟩, by simp only; omega⟩
          simp only [zstep, h1, h2, go_sem, reduceIte, Bool.false_eq_true]
          rfl
    · have hk' : k = l.length := by simp at h; omega
      have hz : z = zone l := by
        subst hk'
        simpa using hf
      subst hz
      simp (maxSteps := 1000000) only [go_sem, List.getElem?_toArray, Nat.reduceBEq, Nat.reduceAdd, Nat.reduceSub, Nat.reduceMul, Nat.reduceLT, Nat.reduceLeDiff, Nat.reduceEqDiff, Nat.succ_ne_zero, reduceIte]

end Go.Proofs.YtepjgnlinjlehaaGreat
/- Walks: what a condition says of a row. -/
namespace Go.Proofs.YtepjgnlinjlehaaGreat
set_option linter.unusedSimpArgs false
set_option linter.unusedVariables false
open Go.Vm
set_option maxHeartbeats 2000000
set_option maxRecDepth 10000

mutual
def holds : DPred → List DVal → Bool
  | .mk kind col op v ps, l => if (kind == 1) = true then true else if (kind == 2) = true then (if h : 0 ≤ col ∧ col.toNat < l.length then holds1 op (l[col.toNat]'h.2) v else false) else if (kind == 3) = true then holdsAll ps l else if (kind == 4) = true then holdsAny ps l else if (kind == 5) = true then holdsNot ps l else false
def holdsAll : List DPred → List DVal → Bool
  | [], _ => true
  | p :: ps, l => holds p l && holdsAll ps l
def holdsAny : List DPred → List DVal → Bool
  | [], _ => false
  | p :: ps, l => holds p l || holdsAny ps l
def holdsNot : List DPred → List DVal → Bool
  | [], _ => true
  | p :: _, l => !holds p l
end
theorem holds_eq (p : DPred) (l : List DVal) : holds p l = if (p.kind == 1) = true then true else if (p.kind == 2) = true then (if h : 0 ≤ p.col ∧ p.col.toNat < l.length then holds1 p.op (l[p.col.toNat]'h.2) p.v else false) else if (p.kind == 3) = true then holdsAll p.l l else if (p.kind == 4) = true then holdsAny p.l l else if (p.kind == 5) = true then holdsNot p.l l else false := by
  cases p
  rw [holds]
  rfl
theorem holdsAll_drop (ps : List DPred) (l : List DVal) {k : Nat} (h : k < ps.length) : holdsAll (ps.drop k) l = (holds ps[k] l && holdsAll (ps.drop (k + 1)) l) := by
  rw [List.drop_eq_getElem_cons h, holdsAll]
theorem holdsNot_pos (l : List DVal) : ∀ (ps : List DPred) (h : 0 < ps.length), holdsNot ps l = !holds ps[0] l
  | _ :: _, _ => by rw [holdsNot]; rfl
theorem holdsAny_drop (ps : List DPred) (l : List DVal) {k : Nat} (h : k < ps.length) : holdsAny (ps.drop k) l = (holds ps[k] l || holdsAny (ps.drop (k + 1)) l) := by
  rw [List.drop_eq_getElem_cons h, holdsAny]

theorem sHolds_of (p : DPred) (l : List DVal) (hf : fitPred p) (hl : l.length ≤ 1048576) (hx : ∀ x ∈ p.l, Ctr Tryz.prog 179 [.agg x.c, .c (.sl (l.map DVal.c))] [.val (.c (.v (.bool (holds x l))))]) : Ctr Tryz.prog 179 [.agg p.c, .c (.sl (l.map DVal.c))] [.val (.c (.v (.bool (holds p l))))] := by
  refine Ctr.mk (fn := Tryz.f179) Tryz.call179 Tryz.func179 rfl mixed Tryz.ntmps179 Tryz.results179 (by kernel_rfl) rfl fun hw => ?_
  have hpl : p.l.length ≤ 1048576 := by rw [fitPred_eq] at hf; exact hf.2.1
  have he := holds_eq p l
  rcases h1 : p.kind == 1 with _ | _
  rotate_left
  · rw [if_pos h1] at he
    simp only [go_sem, List.getElem?_toArray, Nat.reduceBEq, Nat.reduceAdd, Nat.reduceSub, Nat.reduceMul, Nat.reduceLT, Nat.reduceLeDiff, Nat.reduceEqDiff, Nat.succ_ne_zero, reduceIte, h1, he]
  rw [if_neg (by rw [h1]; decide)] at he
  rcases h2 : p.kind == 2 with _ | _
  rotate_left
  · rw [if_pos h2] at he
    simp only [go_sem, List.getElem?_toArray, Nat.reduceBEq, Nat.reduceAdd, Nat.reduceSub, Nat.reduceMul, Nat.reduceLT, Nat.reduceLeDiff, Nat.reduceEqDiff, Nat.succ_ne_zero, reduceIte, List.length_map, h1, h2]
    by_cases hn : 0 ≤ p.col ∧ p.col.toNat < l.length
    · rw [dif_pos hn] at he
      obtain ⟨m, hm⟩ := Int.eq_ofNat_of_zero_le hn.1
      have hml : m < l.length := by have := hn.2; rw [hm] at this; simpa using this
      have hlm : l[p.col.toNat]'hn.2 = l[m] := by congr 1; rw [hm]; rfl
      rw [hlm] at he
      have e1 : inR (m : Int) 0 (IntKind.i64.wrap ((l.length : Int) - 1)) = true := by rw [wrap_i64 (by omega) (by omega)]; simp [inR]; omega
      refine DrawK.mk ?_
      simp only [go_sem, List.getElem?_toArray, Nat.reduceBEq, Nat.reduceAdd, Nat.reduceSub, Nat.reduceMul, Nat.reduceLT, Nat.reduceLeDiff, Nat.reduceEqDiff, Nat.succ_ne_zero, reduceIte, List.length_map, h1, h2, hm]
      refine CallF.mk _ (l1In_spec (m : Int) 0 _) ?_
      simp only [go_sem, List.getElem?_toArray, Nat.reduceBEq, Nat.reduceAdd, Nat.reduceSub, Nat.reduceMul, Nat.reduceLT, Nat.reduceLeDiff, Nat.reduceEqDiff, Nat.succ_ne_zero, reduceIte, List.length_map, h1, h2, hm, e1, map_at _ hml, hml]
      refine CallF.mk _ (by simpa only [go_sem] using sHolds1_spec p.op l[m] p.v) ?_
      simp only [go_sem, List.getElem?_toArray, Nat.reduceBEq, Nat.reduceAdd, Nat.reduceSub, Nat.reduceMul, Nat.reduceLT, Nat.reduceLeDiff, Nat.reduceEqDiff, Nat.succ_ne_zero, reduceIte, List.length_map, h1, h2, hm, e1, map_at _ hml, hml, he]
    · rw [dif_neg hn] at he
      rw [he]
      have e1 : inR p.col 0 (IntKind.i64.wrap ((l.length : Int) - 1)) = false := by rw [wrap_i64 (by omega) (by omega)]; simp [inR]; intro h0; have : ¬ p.col.toNat < l.length := fun hh => hn ⟨h0, hh⟩; omega
      refine DrawK.mk ?_
      simp only [go_sem, List.getElem?_toArray, Nat.reduceBEq, Nat.reduceAdd, Nat.reduceSub, Nat.reduceMul, Nat.reduceLT, Nat.reduceLeDiff, Nat.reduceEqDiff, Nat.succ_ne_zero, reduceIte, List.length_map, h1, h2]
      refine CallF.mk _ (l1In_spec p.col 0 _) ?_
      simp only [go_sem, List.getElem?_toArray, Nat.reduceBEq, Nat.reduceAdd, Nat.reduceSub, Nat.reduceMul, Nat.reduceLT, Nat.reduceLeDiff, Nat.reduceEqDiff, Nat.succ_ne_zero, reduceIte, List.length_map, h1, h2, e1]
  rw [if_neg (by rw [h2]; decide)] at he
  rcases h3 : p.kind == 3 with _ | _
  rotate_left
  · rw [if_pos h3] at he
    rw [he]
    simp only [go_sem, List.getElem?_toArray, Nat.reduceBEq, Nat.reduceAdd, Nat.reduceSub, Nat.reduceMul, Nat.reduceLT, Nat.reduceLeDiff, Nat.reduceEqDiff, Nat.succ_ne_zero, reduceIte, List.length_map, h1, h2, h3]
    refine LoopU.mk 1 (A := Nat) (fun k => [(5, .c (.v (.int .i64 (k))))]) (fun _ => [⟨50, 7, [[.v (.int .i64 p.kind), .v (.int .i64 p.col), .v (.int .i64 p.op), .v (.int .i64 p.v.ty), .v (.int .i64 p.v.n), .v (.string p.v.s), .sl (p.l.map DPred.c)]], true, true⟩]) (fun k => k ≤ p.l.length ∧ holdsAll (p.l.drop k) l = holdsAll p.l l) (fun k => p.l.length - k) 0 ⟨⟨rfl, rfl⟩, rfl, Nat.zero_le _, rfl⟩ ?_
    rintro k ⟨hk, hb⟩
    simp only [go_sem, List.getElem?_toArray, Nat.reduceBEq, Nat.reduceAdd, Nat.reduceSub, Nat.reduceMul, Nat.reduceLT, Nat.reduceLeDiff, Nat.reduceEqDiff, Nat.succ_ne_zero, reduceIte, List.length_map]
    refine cndC.mk (fun h => ?_) (fun h => ?_)
    · have hk' : k < p.l.length := by simpa using h
      rw [holdsAll_drop p.l l hk'] at hb
      simp only [go_sem, List.getElem?_toArray, Nat.reduceBEq, Nat.reduceAdd, Nat.reduceSub, Nat.reduceMul, Nat.reduceLT, Nat.reduceLeDiff, Nat.reduceEqDiff, Nat.succ_ne_zero, reduceIte, List.length_map, map_at _ hk', hk']
      try refine DrawK.mk ?_
      try simp only [go_sem, List.getElem?_toArray, Nat.reduceBEq, Nat.reduceAdd, Nat.reduceSub, Nat.reduceMul, Nat.reduceLT, Nat.reduceLeDiff, Nat.reduceEqDiff, Nat.succ_ne_zero, reduceIte, List.length_map, map_at _ hk', hk']
      first | refine CallF.mk _ (by simpa only [go_sem] using hx p.l[k] (List.getElem_mem hk')) ?_ | refine CallK.mk _ (by simpa only [go_sem] using hx p.l[k] (List.getElem_mem hk')) fun _ => ?_
      rcases hv : holds p.l[k] l with _ | _
      · simp only [go_sem, List.getElem?_toArray, Nat.reduceBEq, Nat.reduceAdd, Nat.reduceSub, Nat.reduceMul, Nat.reduceLT, Nat.reduceLeDiff, Nat.reduceEqDiff, Nat.succ_ne_zero, reduceIte, hv]
        rw [hv, Bool.false_and] at hb
        rw [← hb]
      · simp only [go_sem, List.getElem?_toArray, Nat.reduceBEq, Nat.reduceAdd, Nat.reduceSub, Nat.reduceMul, Nat.reduceLT, Nat.reduceLeDiff, Nat.reduceEqDiff, Nat.succ_ne_zero, reduceIte, hv, wrap_i64 (n := (k : Int) + 1) (by omega) (by omega)]
        rw [hv, Bool.true_and] at hb
        exact ⟨k + 1, ⟨rfl, rfl⟩, rfl, ⟨by omega, hb⟩, by omega⟩
    · have hk' : k = p.l.length := by simp at h; omega
      subst hk'
      simp only [go_sem, List.getElem?_toArray, Nat.reduceBEq, Nat.reduceAdd, Nat.reduceSub, Nat.reduceMul, Nat.reduceLT, Nat.reduceLeDiff, Nat.reduceEqDiff, Nat.succ_ne_zero, reduceIte]
      rw [← hb, List.drop_length]; rfl
  rw [if_neg (by rw [h3]; decide)] at he
  rcases h4 : p.kind == 4 with _ | _
  rotate_left
  · rw [if_pos h4] at he
    rw [he]
    simp only [go_sem, List.getElem?_toArray, Nat.reduceBEq, Nat.reduceAdd, Nat.reduceSub, Nat.reduceMul, Nat.reduceLT, Nat.reduceLeDiff, Nat.reduceEqDiff, Nat.succ_ne_zero, reduceIte, List.length_map, h1, h2, h3, h4]
    refine LoopU.mk 1 (A := Nat) (fun k => [(6, .c (.v (.int .i64 (k))))]) (fun _ => [⟨50, 7, [[.v (.int .i64 p.kind), .v (.int .i64 p.col), .v (.int .i64 p.op), .v (.int .i64 p.v.ty), .v (.int .i64 p.v.n), .v (.string p.v.s), .sl (p.l.map DPred.c)]], true, true⟩]) (fun k => k ≤ p.l.length ∧ holdsAny (p.l.drop k) l = holdsAny p.l l) (fun k => p.l.length - k) 0 ⟨⟨rfl, rfl⟩, rfl, Nat.zero_le _, rfl⟩ ?_
    rintro k ⟨hk, hb⟩
    simp only [go_sem, List.getElem?_toArray, Nat.reduceBEq, Nat.reduceAdd, Nat.reduceSub, Nat.reduceMul, Nat.reduceLT, Nat.reduceLeDiff, Nat.reduceEqDiff, Nat.succ_ne_zero, reduceIte, List.length_map]
    refine cndC.mk (fun h => ?_) (fun h => ?_)
    · have hk' : k < p.l.length := by simpa using h
      rw [holdsAny_drop p.l l hk'] at hb
      simp only [go_sem, List.getElem?_toArray, Nat.reduceBEq, Nat.reduceAdd, Nat.reduceSub, Nat.reduceMul, Nat.reduceLT, Nat.reduceLeDiff, Nat.reduceEqDiff, Nat.succ_ne_zero, reduceIte, List.length_map, map_at _ hk', hk']
      try refine DrawK.mk ?_
      try simp only [go_sem, List.getElem?_toArray, Nat.reduceBEq, Nat.reduceAdd, Nat.reduceSub, Nat.reduceMul, Nat.reduceLT, Nat.reduceLeDiff, Nat.reduceEqDiff, Nat.succ_ne_zero, reduceIte, List.length_map, map_at _ hk', hk']
      first | refine CallF.mk _ (by simpa only [go_sem] using hx p.l[k] (List.getElem_mem hk')) ?_ | refine CallK.mk _ (by simpa only [go_sem] using hx p.l[k] (List.getElem_mem hk')) fun _ => ?_
      rcases hv : holds p.l[k] l with _ | _
      · simp only [go_sem, List.getElem?_toArray, Nat.reduceBEq, Nat.reduceAdd, Nat.reduceSub, Nat.reduceMul, Nat.reduceLT, Nat.reduceLeDiff, Nat.reduceEqDiff, Nat.succ_ne_zero, reduceIte, hv, wrap_i64 (n := (k : Int) + 1) (by omega) (by omega)]
        rw [hv, Bool.false_or] at hb
        exact ⟨k + 1, ⟨rfl, rfl⟩, rfl, ⟨by omega, hb⟩, by omega⟩
      · simp only [go_sem, List.getElem?_toArray, Nat.reduceBEq, Nat.reduceAdd, Nat.reduceSub, Nat.reduceMul, Nat.reduceLT, Nat.reduceLeDiff, Nat.reduceEqDiff, Nat.succ_ne_zero, reduceIte, hv]
        rw [hv, Bool.true_or] at hb
        rw [← hb]
    · have hk' : k = p.l.length := by simp at h; omega
      subst hk'
      simp only [go_sem, List.getElem?_toArray, Nat.reduceBEq, Nat.reduceAdd, Nat.reduceSub, Nat.reduceMul, Nat.reduceLT, Nat.reduceLeDiff, Nat.reduceEqDiff, Nat.succ_ne_zero, reduceIte]
      rw [← hb, List.drop_length]; rfl
  rw [if_neg (by rw [h4]; decide)] at he
  rcases h5 : p.kind == 5 with _ | _
  rotate_left
  · rw [if_pos h5] at he
    rw [he]
    rcases h0 : ((p.l.length : Int) == 0) with _ | _
    · have hp0 : 0 < p.l.length := by simp at h0; exact List.length_pos_iff.2 h0
      simp only [go_sem, List.getElem?_toArray, Nat.reduceBEq, Nat.reduceAdd, Nat.reduceSub, Nat.reduceMul, Nat.reduceLT, Nat.reduceLeDiff, Nat.reduceEqDiff, Nat.succ_ne_zero, reduceIte, List.length_map, h1, h2, h3, h4, h5, h0, Bool.not_false, map_at _ hp0, hp0]
      try refine DrawK.mk ?_
      try simp only [go_sem, List.getElem?_toArray, Nat.reduceBEq, Nat.reduceAdd, Nat.reduceSub, Nat.reduceMul, Nat.reduceLT, Nat.reduceLeDiff, Nat.reduceEqDiff, Nat.succ_ne_zero, reduceIte, List.length_map, h1, h2, h3, h4, h5, h0, Bool.not_false, map_at _ hp0, hp0]
      first | refine CallF.mk _ (by simpa only [go_sem] using hx p.l[0] (List.getElem_mem hp0)) ?_ | refine CallK.mk _ (by simpa only [go_sem] using hx p.l[0] (List.getElem_mem hp0)) fun _ => ?_
      have := holdsNot_pos l p.l hp0
      simp only [go_sem, List.getElem?_toArray, Nat.reduceBEq, Nat.reduceAdd, Nat.reduceSub, Nat.reduceMul, Nat.reduceLT, Nat.reduceLeDiff, Nat.reduceEqDiff, Nat.succ_ne_zero, reduceIte, h0, this]
    · have hp0 : p.l = [] := by simpa using h0
      simp only [go_sem, List.getElem?_toArray, Nat.reduceBEq, Nat.reduceAdd, Nat.reduceSub, Nat.reduceMul, Nat.reduceLT, Nat.reduceLeDiff, Nat.reduceEqDiff, Nat.succ_ne_zero, reduceIte, List.length_map, h1, h2, h3, h4, h5, h0, Bool.not_true]
      rw [hp0]; rfl
  rw [if_neg (by rw [h5]; decide)] at he
  simp only [go_sem, List.getElem?_toArray, Nat.reduceBEq, Nat.reduceAdd, Nat.reduceSub, Nat.reduceMul, Nat.reduceLT, Nat.reduceLeDiff, Nat.reduceEqDiff, Nat.succ_ne_zero, reduceIte, List.length_map, h1, h2, h3, h4, h5, he]
theorem sHolds_fuel (l : List DVal) (hl : l.length ≤ 1048576) : ∀ (n : Nat) (p : DPred), SizeOf.sizeOf p ≤ n → fitPred p → Ctr Tryz.prog 179 [.agg p.c, .c (.sl (l.map DVal.c))] [.val (.c (.v (.bool (holds p l))))] := by
  intro n
  induction n with
  | zero => intro p h; cases p; simp at h
  | succ n ih =>
    intro p h hf
    refine sHolds_of p l hf hl fun x hx => ih x ?_ ?_
    · have h1 : SizeOf.sizeOf x < SizeOf.sizeOf p.l := List.sizeOf_lt_of_mem hx
      have h2 : SizeOf.sizeOf p.l < SizeOf.sizeOf p := by cases p; simp [DPred.l]; omega
      omega
    · rw [fitPred_eq] at hf; exact hf.2.2 x hx
theorem sHolds_spec (p : DPred) (l : List DVal) (hf : fitPred p) (hl : l.length ≤ 1048576) : Ctr Tryz.prog 179 [.agg p.c, .c (.sl (l.map DVal.c))] [.val (.c (.v (.bool (holds p l))))] := sHolds_fuel l hl _ p (Nat.le_refl _) hf
theorem iHolds_of (p : DPred) (l : List DVal) (hf : fitPred p) (hl : l.length ≤ 1048576) (hx : ∀ x ∈ p.l, Ctr Tryz.prog 160 [.agg x.c, .c (.sl (l.map DVal.c))] [.val (.c (.v (.bool (holds x l))))]) : Ctr Tryz.prog 160 [.agg p.c, .c (.sl (l.map DVal.c))] [.val (.c (.v (.bool (holds p l))))] := by
  refine Ctr.mk (fn := Tryz.f160) Tryz.call160 Tryz.func160 rfl mixed Tryz.ntmps160 Tryz.results160 (by kernel_rfl) rfl fun hw => ?_
  have hpl : p.l.length ≤ 1048576 := by rw [fitPred_eq] at hf; exact hf.2.1
  have he := holds_eq p l
  rcases h1 : p.kind == 1 with _ | _
  rotate_left
  · rw [if_pos h1] at he
    simp only [go_sem, List.getElem?_toArray, Nat.reduceBEq, Nat.reduceAdd, Nat.reduceSub, Nat.reduceMul, Nat.reduceLT, Nat.reduceLeDiff, Nat.reduceEqDiff, Nat.succ_ne_zero, reduceIte, h1, he]
  rw [if_neg (by rw [h1]; decide)] at he
  rcases h2 : p.kind == 2 with _ | _
  rotate_left
  · rw [if_pos h2] at he
    simp only [go_sem, List.getElem?_toArray, Nat.reduceBEq, Nat.reduceAdd, Nat.reduceSub, Nat.reduceMul, Nat.reduceLT, Nat.reduceLeDiff, Nat.reduceEqDiff, Nat.succ_ne_zero, reduceIte, List.length_map, h1, h2]
    by_cases hn : 0 ≤ p.col ∧ p.col.toNat < l.length
    · rw [dif_pos hn] at he
      obtain ⟨m, hm⟩ := Int.eq_ofNat_of_zero_le hn.1
      have hml : m < l.length := by have := hn.2; rw [hm] at this; simpa using this
      have hlm : l[p.col.toNat]'hn.2 = l[m] := by congr 1; rw [hm]; rfl
      rw [hlm] at he
      have e1 : decide ((m : Int) ≥ 0) = true := by simp
      have e2 : decide ((m : Int) < (l.length : Int)) = true := by simp; omega
      refine DrawK.mk ?_
      simp only [go_sem, List.getElem?_toArray, Nat.reduceBEq, Nat.reduceAdd, Nat.reduceSub, Nat.reduceMul, Nat.reduceLT, Nat.reduceLeDiff, Nat.reduceEqDiff, Nat.succ_ne_zero, reduceIte, List.length_map, h1, h2, hm, e1, e2, map_at _ hml, hml]
      refine CallF.mk _ (by simpa only [go_sem] using iHolds1_spec p.op l[m] p.v) ?_
      simp only [go_sem, List.getElem?_toArray, Nat.reduceBEq, Nat.reduceAdd, Nat.reduceSub, Nat.reduceMul, Nat.reduceLT, Nat.reduceLeDiff, Nat.reduceEqDiff, Nat.succ_ne_zero, reduceIte, List.length_map, h1, h2, hm, e1, e2, map_at _ hml, hml, he]
    · rw [dif_neg hn] at he
      rw [he]
      refine DrawK.mk ?_
      rcases e1 : decide (p.col ≥ 0) with _ | _
      · simp only [go_sem, List.getElem?_toArray, Nat.reduceBEq, Nat.reduceAdd, Nat.reduceSub, Nat.reduceMul, Nat.reduceLT, Nat.reduceLeDiff, Nat.reduceEqDiff, Nat.succ_ne_zero, reduceIte, List.length_map, h1, h2, e1]
      · have e2 : decide (p.col < (l.length : Int)) = false := by simp at e1 ⊢; have : ¬ p.col.toNat < l.length := fun hh => hn ⟨e1, hh⟩; omega
        simp only [go_sem, List.getElem?_toArray, Nat.reduceBEq, Nat.reduceAdd, Nat.reduceSub, Nat.reduceMul, Nat.reduceLT, Nat.reduceLeDiff, Nat.reduceEqDiff, Nat.succ_ne_zero, reduceIte, List.length_map, h1, h2, e1, e2]
  rw [if_neg (by rw [h2]; decide)] at he
  rcases h3 : p.kind == 3 with _ | _
  rotate_left
  · rw [if_pos h3] at he
    rw [he]
    simp only [go_sem, List.getElem?_toArray, Nat.reduceBEq, Nat.reduceAdd, Nat.reduceSub, Nat.reduceMul, Nat.reduceLT, Nat.reduceLeDiff, Nat.reduceEqDiff, Nat.succ_ne_zero, reduceIte, List.length_map, h1, h2, h3]
    refine LoopU.mk 1 (A := Nat) (fun k => [(42, .c (.v (.int .i64 (k))))]) (fun _ => [⟨50, 7, [[.v (.int .i64 p.kind), .v (.int .i64 p.col), .v (.int .i64 p.op), .v (.int .i64 p.v.ty), .v (.int .i64 p.v.n), .v (.string p.v.s), .sl (p.l.map DPred.c)]], true, true⟩]) (fun k => k ≤ p.l.length ∧ holdsAll (p.l.drop k) l = holdsAll p.l l) (fun k => p.l.length - k) 0 ⟨⟨rfl, rfl⟩, rfl, Nat.zero_le _, rfl⟩ ?_
    rintro k ⟨hk, hb⟩
    simp only [go_sem, List.getElem?_toArray, Nat.reduceBEq, Nat.reduceAdd, Nat.reduceSub, Nat.reduceMul, Nat.reduceLT, Nat.reduceLeDiff, Nat.reduceEqDiff, Nat.succ_ne_zero, reduceIte, List.length_map]
    refine cndC.mk (fun h => ?_) (fun h => ?_)
    · have hk' : k < p.l.length := by simpa using h
      rw [holdsAll_drop p.l l hk'] at hb
      simp only [go_sem, List.getElem?_toArray, Nat.reduceBEq, Nat.reduceAdd, Nat.reduceSub, Nat.reduceMul, Nat.reduceLT, Nat.reduceLeDiff, Nat.reduceEqDiff, Nat.succ_ne_zero, reduceIte, List.length_map, map_at _ hk', hk']
      try refine DrawK.mk ?_
      try simp only [go_sem, List.getElem?_toArray, Nat.reduceBEq, Nat.reduceAdd, Nat.reduceSub, Nat.reduceMul, Nat.reduceLT, Nat.reduceLeDiff, Nat.reduceEqDiff, Nat.succ_ne_zero, reduceIte, List.length_map, map_at _ hk', hk']
      first | refine CallF.mk _ (by simpa only [go_sem] using hx p.l[k] (List.getElem_mem hk')) ?_ | refine CallK.mk _ (by simpa only [go_sem] using hx p.l[k] (List.getElem_mem hk')) fun _ => ?_
      rcases hv : holds p.l[k] l with _ | _
      · simp only [go_sem, List.getElem?_toArray, Nat.reduceBEq, Nat.reduceAdd, Nat.reduceSub, Nat.reduceMul, Nat.reduceLT, Nat.reduceLeDiff, Nat.reduceEqDiff, Nat.succ_ne_zero, reduceIte, hv]
        rw [hv, Bool.false_and] at hb
        rw [← hb]
      · simp only [go_sem, List.getElem?_toArray, Nat.reduceBEq, Nat.reduceAdd, Nat.reduceSub, Nat.reduceMul, Nat.reduceLT, Nat.reduceLeDiff, Nat.reduceEqDiff, Nat.succ_ne_zero, reduceIte, hv, wrap_i64 (n := (k : Int) + 1) (by omega) (by omega)]
        rw [hv, Bool.true_and] at hb
        exact ⟨k + 1, ⟨rfl, rfl⟩, rfl, ⟨by omega, hb⟩, by omega⟩
    · have hk' : k = p.l.length := by simp at h; omega
      subst hk'
      simp only [go_sem, List.getElem?_toArray, Nat.reduceBEq, Nat.reduceAdd, Nat.reduceSub, Nat.reduceMul, Nat.reduceLT, Nat.reduceLeDiff, Nat.reduceEqDiff, Nat.succ_ne_zero, reduceIte]
      rw [← hb, List.drop_length]; rfl
  rw [if_neg (by rw [h3]; decide)] at he
  rcases h4 : p.kind == 4 with _ | _
  rotate_left
  · rw [if_pos h4] at he
    rw [he]
    simp only [go_sem, List.getElem?_toArray, Nat.reduceBEq, Nat.reduceAdd, Nat.reduceSub, Nat.reduceMul, Nat.reduceLT, Nat.reduceLeDiff, Nat.reduceEqDiff, Nat.succ_ne_zero, reduceIte, List.length_map, h1, h2, h3, h4]
    refine LoopU.mk 1 (A := Nat) (fun k => [(56, .c (.v (.int .i64 (k))))]) (fun _ => [⟨50, 7, [[.v (.int .i64 p.kind), .v (.int .i64 p.col), .v (.int .i64 p.op), .v (.int .i64 p.v.ty), .v (.int .i64 p.v.n), .v (.string p.v.s), .sl (p.l.map DPred.c)]], true, true⟩]) (fun k => k ≤ p.l.length ∧ holdsAny (p.l.drop k) l = holdsAny p.l l) (fun k => p.l.length - k) 0 ⟨⟨rfl, rfl⟩, rfl, Nat.zero_le _, rfl⟩ ?_
    rintro k ⟨hk, hb⟩
    simp only [go_sem, List.getElem?_toArray, Nat.reduceBEq, Nat.reduceAdd, Nat.reduceSub, Nat.reduceMul, Nat.reduceLT, Nat.reduceLeDiff, Nat.reduceEqDiff, Nat.succ_ne_zero, reduceIte, List.length_map]
    refine cndC.mk (fun h => ?_) (fun h => ?_)
    · have hk' : k < p.l.length := by simpa using h
      rw [holdsAny_drop p.l l hk'] at hb
      simp only [go_sem, List.getElem?_toArray, Nat.reduceBEq, Nat.reduceAdd, Nat.reduceSub, Nat.reduceMul, Nat.reduceLT, Nat.reduceLeDiff, Nat.reduceEqDiff, Nat.succ_ne_zero, reduceIte, List.length_map, map_at _ hk', hk']
      try refine DrawK.mk ?_
      try simp only [go_sem, List.getElem?_toArray, Nat.reduceBEq, Nat.reduceAdd, Nat.reduceSub, Nat.reduceMul, Nat.reduceLT, Nat.reduceLeDiff, Nat.reduceEqDiff, Nat.succ_ne_zero, reduceIte, List.length_map, map_at _ hk', hk']
      first | refine CallF.mk _ (by simpa only [go_sem] using hx p.l[k] (List.getElem_mem hk')) ?_ | refine CallK.mk _ (by simpa only [go_sem] using hx p.l[k] (List.getElem_mem hk')) fun _ => ?_
      rcases hv : holds p.l[k] l with _ | _
      · simp only [go_sem, List.getElem?_toArray, Nat.reduceBEq, Nat.reduceAdd, Nat.reduceSub, Nat.reduceMul, Nat.reduceLT, Nat.reduceLeDiff, Nat.reduceEqDiff, Nat.succ_ne_zero, reduceIte, hv, wrap_i64 (n := (k : Int) + 1) (by omega) (by omega)]
        rw [hv, Bool.false_or] at hb
        exact ⟨k + 1, ⟨rfl, rfl⟩, rfl, ⟨by omega, hb⟩, by omega⟩
      · simp only [go_sem, List.getElem?_toArray, Nat.reduceBEq, Nat.reduceAdd, Nat.reduceSub, Nat.reduceMul, Nat.reduceLT, Nat.reduceLeDiff, Nat.reduceEqDiff, Nat.succ_ne_zero, reduceIte, hv]
        rw [hv, Bool.true_or] at hb
        rw [← hb]
    · have hk' : k = p.l.length := by simp at h; omega
      subst hk'
      simp only [go_sem, List.getElem?_toArray, Nat.reduceBEq, Nat.reduceAdd, Nat.reduceSub, Nat.reduceMul, Nat.reduceLT, Nat.reduceLeDiff, Nat.reduceEqDiff, Nat.succ_ne_zero, reduceIte]
      rw [← hb, List.drop_length]; rfl
  rw [if_neg (by rw [h4]; decide)] at he
  rcases h5 : p.kind == 5 with _ | _
  rotate_left
  · rw [if_pos h5] at he
    rw [he]
    rcases h0 : ((p.l.length : Int) == 0) with _ | _
    · have hp0 : 0 < p.l.length := by simp at h0; exact List.length_pos_iff.2 h0
      simp only [go_sem, List.getElem?_toArray, Nat.reduceBEq, Nat.reduceAdd, Nat.reduceSub, Nat.reduceMul, Nat.reduceLT, Nat.reduceLeDiff, Nat.reduceEqDiff, Nat.succ_ne_zero, reduceIte, List.length_map, h1, h2, h3, h4, h5, h0, Bool.not_false, map_at _ hp0, hp0]
      try refine DrawK.mk ?_
      try simp only [go_sem, List.getElem?_toArray, Nat.reduceBEq, Nat.reduceAdd, Nat.reduceSub, Nat.reduceMul, Nat.reduceLT, Nat.reduceLeDiff, Nat.reduceEqDiff, Nat.succ_ne_zero, reduceIte, List.length_map, h1, h2, h3, h4, h5, h0, Bool.not_false, map_at _ hp0, hp0]
      first | refine CallF.mk _ (by simpa only [go_sem] using hx p.l[0] (List.getElem_mem hp0)) ?_ | refine CallK.mk _ (by simpa only [go_sem] using hx p.l[0] (List.getElem_mem hp0)) fun _ => ?_
      have := holdsNot_pos l p.l hp0
      simp only [go_sem, List.getElem?_toArray, Nat.reduceBEq, Nat.reduceAdd, Nat.reduceSub, Nat.reduceMul, Nat.reduceLT, Nat.reduceLeDiff, Nat.reduceEqDiff, Nat.succ_ne_zero, reduceIte, h0, this]
    · have hp0 : p.l = [] := by simpa using h0
      simp only [go_sem, List.getElem?_toArray, Nat.reduceBEq, Nat.reduceAdd, Nat.reduceSub, Nat.reduceMul, Nat.reduceLT, Nat.reduceLeDiff, Nat.reduceEqDiff, Nat.succ_ne_zero, reduceIte, List.length_map, h1, h2, h3, h4, h5, h0, Bool.not_true]
      rw [hp0]; rfl
  rw [if_neg (by rw [h5]; decide)] at he
  simp only [go_sem, List.getElem?_toArray, Nat.reduceBEq, Nat.reduceAdd, Nat.reduceSub, Nat.reduceMul, Nat.reduceLT, Nat.reduceLeDiff, Nat.reduceEqDiff, Nat.succ_ne_zero, reduceIte, List.length_map, h1, h2, h3, h4, h5, he]
theorem iHolds_fuel (l : List DVal) (hl : l.length ≤ 1048576) : ∀ (n : Nat) (p : DPred), SizeOf.sizeOf p ≤ n → fitPred p → Ctr Tryz.prog 160 [.agg p.c, .c (.sl (l.map DVal.c))] [.val (.c (.v (.bool (holds p l))))] := by
  intro n
  induction n with
  | zero => intro p h; cases p; simp at h
  | succ n ih =>
    intro p h hf
    refine iHolds_of p l hf hl fun x hx => ih x ?_ ?_
    · have h1 : SizeOf.sizeOf x < SizeOf.sizeOf p.l := List.sizeOf_lt_of_mem hx
      have h2 : SizeOf.sizeOf p.l < SizeOf.sizeOf p := by cases p; simp [DPred.l]; omega
      omega
    · rw [fitPred_eq] at hf; exact hf.2.2 x hx
theorem iHolds_spec (p : DPred) (l : List DVal) (hf : fitPred p) (hl : l.length ≤ 1048576) : Ctr Tryz.prog 160 [.agg p.c, .c (.sl (l.map DVal.c))] [.val (.c (.v (.bool (holds p l))))] := iHolds_fuel l hl _ p (Nat.le_refl _) hf

end Go.Proofs.YtepjgnlinjlehaaGreat
