/- The laws' arguments as memory of their own: by program (gen_data.py). -/
import Derived.Test.YtepjgnlinjlehaaGreatFa
namespace Go.Proofs.YtepjgnlinjlehaaGreat
set_option linter.unusedSimpArgs false
set_option linter.unusedVariables false
open Go.Vm

set_option maxHeartbeats 1000000
set_option maxRecDepth 10000

@[go_sem] theorem nr_int (l : List Int) : nrE (l.map intC) = true := nrE_of_pure (pureE_map intC.pure)
theorem er_int (l : List Int) : erE (l.map intC) = l.map intC := erE_of_pure (pureE_map intC.pure)
@[go_sem] theorem nr_byte (l : List Int) : nrE (l.map byteC) = true := nrE_of_pure (pureE_map byteC.pure)
theorem er_byte (l : List Int) : erE (l.map byteC) = l.map byteC := erE_of_pure (pureE_map byteC.pure)
@[go_sem] theorem nr_Val (l : List DVal) : nrE (l.map DVal.c) = true := nrE_of_pure (pureE_map DVal.pure)
theorem er_Val (l : List DVal) : erE (l.map DVal.c) = l.map DVal.c := erE_of_pure (pureE_map DVal.pure)
theorem erc_Val (d : DVal) : erL d.c = d.c := erL_of_pure (DVal.pure d)
def DRow.o (d : DRow) : List Cl := [.v (.int .i64 d.id)] ++ ([.ow 47 3 (d.l.map DVal.c)])
@[go_sem] theorem DRow.o_eq (d : DRow) : d.o = [.v (.int .i64 d.id)] ++ ([.ow 47 3 (d.l.map DVal.c)]) := rfl
theorem DRow.o_nr (d : DRow) : d.o.all nrC = true := by
  rw [DRow.o_eq]
  simp [List.all_append, nrC]
@[go_sem] theorem nr_Row (l : List DRow) : nrE (l.map DRow.o) = true := nrE_map DRow.o_nr
theorem DRow.o_er (d : DRow) : erL d.o = d.c := by
  rw [DRow.o_eq, DRow.c_eq]
  simp [erL_app, erL, er, er_Val]
theorem erE_Row (l : List DRow) : erE (l.map DRow.o) = l.map DRow.c := erE_mapC DRow.o_er l
def DTable.o (d : DTable) : List Cl := [.ow 3 1 (d.cols.map intC)] ++ ([.ow 113 2 (d.l.map DRow.o)])
@[go_sem] theorem DTable.o_eq (d : DTable) : d.o = [.ow 3 1 (d.cols.map intC)] ++ ([.ow 113 2 (d.l.map DRow.o)]) := rfl
theorem DTable.o_nr (d : DTable) : d.o.all nrC = true := by
  rw [DTable.o_eq]
  simp [List.all_append, nrC]
@[go_sem] theorem nr_Table (l : List DTable) : nrE (l.map DTable.o) = true := nrE_map DTable.o_nr
theorem DTable.o_er (d : DTable) : erL d.o = d.c := by
  rw [DTable.o_eq, DTable.c_eq]
  simp [erL_app, erL, er, erE_Row, er_int]
theorem erE_Table (l : List DTable) : erE (l.map DTable.o) = l.map DTable.c := erE_mapC DTable.o_er l
mutual
def DPred.o : DPred → List Cl
  | .mk kind col op v l => [.v (.int .i64 kind)] ++ ([.v (.int .i64 col)] ++ ([.v (.int .i64 op)] ++ (v.c ++ ([.ow 50 7 (DPred.oL l)]))))
def DPred.oL : List DPred → List (List Cl)
  | [] => []
  | x :: xs => DPred.o x :: DPred.oL xs
end
theorem DPred.oL_eq : ∀ l : List DPred, DPred.oL l = l.map DPred.o
  | [] => rfl
  | x :: xs => by simp [DPred.oL, DPred.oL_eq xs]
@[go_sem] theorem DPred.o_eq (d : DPred) : d.o = [.v (.int .i64 d.kind)] ++ ([.v (.int .i64 d.col)] ++ ([.v (.int .i64 d.op)] ++ (d.v.c ++ ([.ow 50 7 (d.l.map DPred.o)])))) := by
  cases d
  simp only [DPred.o, DPred.oL_eq]
  rfl
theorem DPred.o_nr (d : DPred) : d.o.all nrC = true := by
  rw [DPred.o_eq]
  simp [List.all_append, nrC, DVal.c_eq]
@[go_sem] theorem nr_Pred (l : List DPred) : nrE (l.map DPred.o) = true := nrE_map DPred.o_nr
theorem DPred.o_er_fuel : ∀ (n : Nat) (d : DPred), SizeOf.sizeOf d ≤ n → erL d.o = d.c
  | 0, d, h => by cases d; simp at h
  | n + 1, d, h => by
    have hm : erE (d.l.map DPred.o) = d.l.map DPred.c := by
      rw [erE_map]
      refine List.map_congr_left fun x hx => DPred.o_er_fuel n x ?_
      have h1 : SizeOf.sizeOf x < SizeOf.sizeOf d.l := List.sizeOf_lt_of_mem hx
      have h2 : SizeOf.sizeOf d.l < SizeOf.sizeOf d := by cases d; simp [DPred.l]; omega
      omega
    rw [DPred.o_eq, DPred.c_eq]
    simp [erL_app, erL, er, hm, erc_Val]
theorem DPred.o_er (d : DPred) : erL d.o = d.c := DPred.o_er_fuel _ d (Nat.le_refl _)
theorem erE_Pred (l : List DPred) : erE (l.map DPred.o) = l.map DPred.c := erE_mapC DPred.o_er l
def DQuery.o (d : DQuery) : List Cl := [.v (.int .i64 d.kind)] ++ (d.p.o ++ ([.v (.int .i64 d.col)] ++ ([.ow 3 1 (d.out.map intC)])))
@[go_sem] theorem DQuery.o_eq (d : DQuery) : d.o = [.v (.int .i64 d.kind)] ++ (d.p.o ++ ([.v (.int .i64 d.col)] ++ ([.ow 3 1 (d.out.map intC)]))) := rfl
theorem DQuery.o_nr (d : DQuery) : d.o.all nrC = true := by
  rw [DQuery.o_eq]
  simp [List.all_append, nrC, DPred.o_nr]
@[go_sem] theorem nr_Query (l : List DQuery) : nrE (l.map DQuery.o) = true := nrE_map DQuery.o_nr
theorem DQuery.o_er (d : DQuery) : erL d.o = d.c := by
  rw [DQuery.o_eq, DQuery.c_eq]
  simp [erL_app, erL, er, DPred.o_er, er_int]
theorem erE_Query (l : List DQuery) : erE (l.map DQuery.o) = l.map DQuery.c := erE_mapC DQuery.o_er l
def DResult.o (d : DResult) : List Cl := [.ow 113 2 (d.rows.map DRow.o)] ++ ([.v (.int .i64 d.n)] ++ ([.v (.bool d.has)] ++ (d.v.c)))
@[go_sem] theorem DResult.o_eq (d : DResult) : d.o = [.ow 113 2 (d.rows.map DRow.o)] ++ ([.v (.int .i64 d.n)] ++ ([.v (.bool d.has)] ++ (d.v.c))) := rfl
theorem DResult.o_nr (d : DResult) : d.o.all nrC = true := by
  rw [DResult.o_eq]
  simp [List.all_append, nrC, DVal.c_eq]
@[go_sem] theorem nr_Result (l : List DResult) : nrE (l.map DResult.o) = true := nrE_map DResult.o_nr
theorem DResult.o_er (d : DResult) : erL d.o = d.c := by
  rw [DResult.o_eq, DResult.c_eq]
  simp [erL_app, erL, er, erE_Row, erc_Val]
theorem erE_Result (l : List DResult) : erE (l.map DResult.o) = l.map DResult.c := erE_mapC DResult.o_er l
def DDeed.o (d : DDeed) : List Cl := [.v (.int .i64 d.op)] ++ ([.v (.int .i64 d.task)] ++ ([.ow 47 3 (d.r.map DVal.c)] ++ ([.v (.int .i64 d.id)] ++ (d.q.o ++ (d.res.o ++ ([.v (.int .i64 d.code)] ++ ([.v (.int .i64 d.stamp)] ++ ([.v (.int .i64 d.inv)] ++ ([.v (.int .i64 d.lin)] ++ ([.v (.int .i64 d.ret)]))))))))))
@[go_sem] theorem DDeed.o_eq (d : DDeed) : d.o = [.v (.int .i64 d.op)] ++ ([.v (.int .i64 d.task)] ++ ([.ow 47 3 (d.r.map DVal.c)] ++ ([.v (.int .i64 d.id)] ++ (d.q.o ++ (d.res.o ++ ([.v (.int .i64 d.code)] ++ ([.v (.int .i64 d.stamp)] ++ ([.v (.int .i64 d.inv)] ++ ([.v (.int .i64 d.lin)] ++ ([.v (.int .i64 d.ret)])))))))))) := rfl
theorem DDeed.o_nr (d : DDeed) : d.o.all nrC = true := by
  rw [DDeed.o_eq]
  simp [List.all_append, nrC, DQuery.o_nr, DResult.o_nr]
@[go_sem] theorem nr_Deed (l : List DDeed) : nrE (l.map DDeed.o) = true := nrE_map DDeed.o_nr
theorem DDeed.o_er (d : DDeed) : erL d.o = d.c := by
  rw [DDeed.o_eq, DDeed.c_eq]
  simp [erL_app, erL, er, DQuery.o_er, DResult.o_er, er_Val]
theorem erE_Deed (l : List DDeed) : erE (l.map DDeed.o) = l.map DDeed.c := erE_mapC DDeed.o_er l
theorem toRow_ow (d : DRow) (hf : fitRow d) : Ctr Tryz.prog 105 [.agg d.c] [.agg d.o] := by
  rw [fitRow_eq] at hf
  have f0 := hf
  refine Ctr.mk (fn := Tryz.f105) Tryz.call105 Tryz.func105 rfl mixed Tryz.ntmps105 Tryz.results105 (by kernel_rfl) rfl fun _ => ?_
  simp only [go_sem, Nat.reduceAdd, Nat.reduceSub, Nat.reduceMul, Nat.reduceLT, Nat.reduceLeDiff, Nat.reduceEqDiff, Nat.succ_ne_zero, reduceIte]
  refine CallK.mk _ (by simpa only [go_sem] using toValS_own d.l f0.1 fun x hx => toVal_spec x (f0.2 x hx)) fun _ => ?_
  simp only [go_sem, Nat.reduceAdd, Nat.reduceSub, Nat.reduceMul, Nat.reduceLT, Nat.reduceLeDiff, Nat.reduceEqDiff, Nat.succ_ne_zero, reduceIte]
  try simp [OwnL, obAt, pureC, nrE, DRow.o_eq]
theorem toRowS_ow (xs : List DRow) (hf : xs.length ≤ 1048576) (hx : ∀ x ∈ xs, Ctr Tryz.prog 105 [.agg x.c] [.agg x.o]) : Ctr Tryz.prog 41 [.c (.sl (xs.map DRow.c))] [.own 113 2 (xs.map DRow.o) true] := by
  refine Ctr.mk (fn := Tryz.f41) Tryz.call41 Tryz.func41 rfl mixed Tryz.ntmps41 Tryz.results41 (by kernel_rfl) rfl fun _ => ?_
  have hc : (0 : Int) ≤ xs.length ∧ (xs.length : Int) ≤ xs.length ∧ (xs.length : Int) ≤ 2147483648 := by omega
  simp only [go_sem, Nat.reduceAdd, Nat.reduceSub, Nat.reduceMul, Nat.reduceLT, Nat.reduceLeDiff, Nat.reduceEqDiff, Nat.succ_ne_zero, reduceIte, List.length_map, hc, List.length_replicate]
  have hg := fun k => @trim1_growO _ DRow.o DRow.o_nr [.v (.int .i64 0), .v (.slice none 0 0)] rfl xs k 113 2 true true
  refine LoopA.mk 1 0 [0, 3, 4] (A := Nat) (fun k => ⟨23, [(0, .c (.sl (xs.map DRow.c))), (3, .c (.ref 0)), (4, .c (.v (.int .i64 k)))], [⟨113, 2, grow (xs.map DRow.o) [.v (.int .i64 0), .v (.slice none 0 0)] k, true, true⟩]⟩) (fun k => k ≤ xs.length) (fun k => xs.length - k) 0 ⟨⟨rfl, by have := hg 0; simp only [grow_zero, List.length_map] at this; exact this⟩, by simp only [grow_zero, List.length_map]; rfl, Nat.zero_le _⟩ ?_
  intro k hk
  simp only [go_sem, Nat.reduceAdd, Nat.reduceSub, Nat.reduceMul, Nat.reduceLT, Nat.reduceLeDiff, Nat.reduceEqDiff, Nat.succ_ne_zero, reduceIte, List.length_map]
  refine cndC.mk (fun h => ?_) (fun h => ?_)
  · have hk' : k < xs.length := by simpa using h
    have hset := @grow_setm _ DRow.o xs [.v (.int .i64 0), .v (.slice none 0 0)] k hk'
    simp only [go_sem, Nat.reduceAdd, Nat.reduceSub, Nat.reduceMul, Nat.reduceLT, Nat.reduceLeDiff, Nat.reduceEqDiff, Nat.succ_ne_zero, reduceIte, map_at _ hk', grow_lenm hk, grow_atm hk', hk', wrap_i64 (n := (k : Int) + 1) (by omega) (by omega)]
    refine CallK.mk _ (by simpa only [go_sem] using hx xs[k] (List.getElem_mem hk')) fun _ => ?_
    simp only [go_sem, Nat.reduceAdd, Nat.reduceSub, Nat.reduceMul, Nat.reduceLT, Nat.reduceLeDiff, Nat.reduceEqDiff, Nat.succ_ne_zero, reduceIte, map_at _ hk', grow_lenm hk, grow_atm hk', hk', wrap_i64 (n := (k : Int) + 1) (by omega) (by omega)]
    refine ⟨k + 1, .inr ⟨k, grow (xs.map DRow.o) [.v (.int .i64 0), .v (.slice none 0 0)] k, _, DRow.o xs[k], _, ⟨Nat.zero_lt_one, rfl, rfl, by rw [grow_lenm hk]; exact hk', rfl⟩, ?_, ⟨rfl, ?_⟩, ?_⟩, by omega, by first | omega | (simp only; omega)⟩
    · simp [DRow.o_eq, OwnL, obAt, pureC, nr_Val]
    · rw [absSt, hset]; exact hg _
    · rw [absSt, hset]; rfl
  · have hk' : k = xs.length := by simp at h; omega
    subst hk'
    rw [grow_allm]
    simp only [go_sem, Nat.reduceAdd, Nat.reduceSub, Nat.reduceMul, Nat.reduceLT, Nat.reduceLeDiff, Nat.reduceEqDiff, Nat.succ_ne_zero, reduceIte]
    try simp [nr_Row]
theorem toRowS_ows (xs : List DRow) (hf : fitS fitRow xs) : Ctr Tryz.prog 41 [.c (.sl (xs.map DRow.c))] [.own 113 2 (xs.map DRow.o) true] := toRowS_ow xs hf.1 fun x hx => toRow_ow x (hf.2 x hx)
theorem toTable_ow (d : DTable) (hf : fitTable d) : Ctr Tryz.prog 9 [.agg d.c] [.agg d.o] := by
  rw [fitTable_eq] at hf
  obtain ⟨f0, f1⟩ := hf
  refine Ctr.mk (fn := Tryz.f9) Tryz.call9 Tryz.func9 rfl mixed Tryz.ntmps9 Tryz.results9 (by kernel_rfl) rfl fun _ => ?_
  simp only [go_sem, Nat.reduceAdd, Nat.reduceSub, Nat.reduceMul, Nat.reduceLT, Nat.reduceLeDiff, Nat.reduceEqDiff, Nat.succ_ne_zero, reduceIte]
  refine CallK.mk _ (by simpa only [go_sem] using toIntS_own d.cols f0) fun _ => ?_
  simp only [go_sem, Nat.reduceAdd, Nat.reduceSub, Nat.reduceMul, Nat.reduceLT, Nat.reduceLeDiff, Nat.reduceEqDiff, Nat.succ_ne_zero, reduceIte]
  refine CallK.mk _ (by simpa only [go_sem] using toRowS_ows d.l f1) fun _ => ?_
  simp only [go_sem, Nat.reduceAdd, Nat.reduceSub, Nat.reduceMul, Nat.reduceLT, Nat.reduceLeDiff, Nat.reduceEqDiff, Nat.succ_ne_zero, reduceIte]
  try simp [OwnL, obAt, pureC, nrE, DTable.o_eq]
theorem toPredS_ow (xs : List DPred) (hf : xs.length ≤ 1048576) (hx : ∀ x ∈ xs, Ctr Tryz.prog 107 [.agg x.c] [.agg x.o]) : Ctr Tryz.prog 155 [.c (.sl (xs.map DPred.c))] [.own 50 7 (xs.map DPred.o) true] := by
  refine Ctr.mk (fn := Tryz.f155) Tryz.call155 Tryz.func155 rfl mixed Tryz.ntmps155 Tryz.results155 (by kernel_rfl) rfl fun _ => ?_
  have hc : (0 : Int) ≤ xs.length ∧ (xs.length : Int) ≤ xs.length ∧ (xs.length : Int) ≤ 2147483648 := by omega
  simp only [go_sem, Nat.reduceAdd, Nat.reduceSub, Nat.reduceMul, Nat.reduceLT, Nat.reduceLeDiff, Nat.reduceEqDiff, Nat.succ_ne_zero, reduceIte, List.length_map, hc, List.length_replicate]
  have hg := fun k => @trim1_growO _ DPred.o DPred.o_nr [.v (.int .i64 0), .v (.int .i64 0), .v (.int .i64 0), .v (.int .i64 0), .v (.int .i64 0), .v (.string ByteArray.empty), .v (.slice none 0 0)] rfl xs k 50 7 true true
  refine LoopA.mk 1 0 [0, 3, 4] (A := Nat) (fun k => ⟨23, [(0, .c (.sl (xs.map DPred.c))), (3, .c (.ref 0)), (4, .c (.v (.int .i64 k)))], [⟨50, 7, grow (xs.map DPred.o) [.v (.int .i64 0), .v (.int .i64 0), .v (.int .i64 0), .v (.int .i64 0), .v (.int .i64 0), .v (.string ByteArray.empty), .v (.slice none 0 0)] k, true, true⟩]⟩) (fun k => k ≤ xs.length) (fun k => xs.length - k) 0 ⟨⟨rfl, by have := hg 0; simp only [grow_zero, List.length_map] at this; exact this⟩, by simp only [grow_zero, List.length_map]; rfl, Nat.zero_le _⟩ ?_
  intro k hk
  simp only [go_sem, Nat.reduceAdd, Nat.reduceSub, Nat.reduceMul, Nat.reduceLT, Nat.reduceLeDiff, Nat.reduceEqDiff, Nat.succ_ne_zero, reduceIte, List.length_map]
  refine cndC.mk (fun h => ?_) (fun h => ?_)
  · have hk' : k < xs.length := by simpa using h
    have hset := @grow_setm _ DPred.o xs [.v (.int .i64 0), .v (.int .i64 0), .v (.int .i64 0), .v (.int .i64 0), .v (.int .i64 0), .v (.string ByteArray.empty), .v (.slice none 0 0)] k hk'
    simp only [go_sem, Nat.reduceAdd, Nat.reduceSub, Nat.reduceMul, Nat.reduceLT, Nat.reduceLeDiff, Nat.reduceEqDiff, Nat.succ_ne_zero, reduceIte, map_at _ hk', grow_lenm hk, grow_atm hk', hk', wrap_i64 (n := (k : Int) + 1) (by omega) (by omega)]
    refine CallK.mk _ (by simpa only [go_sem] using hx xs[k] (List.getElem_mem hk')) fun _ => ?_
    simp only [go_sem, Nat.reduceAdd, Nat.reduceSub, Nat.reduceMul, Nat.reduceLT, Nat.reduceLeDiff, Nat.reduceEqDiff, Nat.succ_ne_zero, reduceIte, map_at _ hk', grow_lenm hk, grow_atm hk', hk', wrap_i64 (n := (k : Int) + 1) (by omega) (by omega)]
    refine ⟨k + 1, .inr ⟨k, grow (xs.map DPred.o) [.v (.int .i64 0), .v (.int .i64 0), .v (.int .i64 0), .v (.int .i64 0), .v (.int .i64 0), .v (.string ByteArray.empty), .v (.slice none 0 0)] k, _, DPred.o xs[k], _, ⟨Nat.zero_lt_one, rfl, rfl, by rw [grow_lenm hk]; exact hk', rfl⟩, ?_, ⟨rfl, ?_⟩, ?_⟩, by omega, by first | omega | (simp only; omega)⟩
    · simp [DPred.o_eq, OwnL, obAt, pureC, DVal.c_eq, nr_Pred]
    · rw [absSt, hset]; exact hg _
    · rw [absSt, hset]; rfl
  · have hk' : k = xs.length := by simp at h; omega
    subst hk'
    rw [grow_allm]
    simp only [go_sem, Nat.reduceAdd, Nat.reduceSub, Nat.reduceMul, Nat.reduceLT, Nat.reduceLeDiff, Nat.reduceEqDiff, Nat.succ_ne_zero, reduceIte]
    try simp [nr_Pred]
theorem toPred_ow_of (d : DPred) (hf : fitPred d) (hx : ∀ x ∈ d.l, Ctr Tryz.prog 107 [.agg x.c] [.agg x.o]) : Ctr Tryz.prog 107 [.agg d.c] [.agg d.o] := by
  rw [fitPred_eq] at hf
  obtain ⟨f0, f1⟩ := hf
  refine Ctr.mk (fn := Tryz.f107) Tryz.call107 Tryz.func107 rfl mixed Tryz.ntmps107 Tryz.results107 (by kernel_rfl) rfl fun _ => ?_
  simp only [go_sem, Nat.reduceAdd, Nat.reduceSub, Nat.reduceMul, Nat.reduceLT, Nat.reduceLeDiff, Nat.reduceEqDiff, Nat.succ_ne_zero, reduceIte]
  refine CallK.mk _ (by simpa only [go_sem] using toVal_spec d.v f0) fun _ => ?_
  simp only [go_sem, Nat.reduceAdd, Nat.reduceSub, Nat.reduceMul, Nat.reduceLT, Nat.reduceLeDiff, Nat.reduceEqDiff, Nat.succ_ne_zero, reduceIte]
  refine CallK.mk _ (by simpa only [go_sem] using toPredS_ow d.l f1.1 hx) fun _ => ?_
  simp only [go_sem, Nat.reduceAdd, Nat.reduceSub, Nat.reduceMul, Nat.reduceLT, Nat.reduceLeDiff, Nat.reduceEqDiff, Nat.succ_ne_zero, reduceIte]
  try simp [OwnL, obAt, pureC, nrE, DPred.o_eq]
theorem toPred_ow_fuel : ∀ (n : Nat) (d : DPred), SizeOf.sizeOf d ≤ n → fitPred d → Ctr Tryz.prog 107 [.agg d.c] [.agg d.o]
  | 0, d, h, _ => by cases d; simp at h
  | n + 1, d, h, hf => toPred_ow_of d hf fun x hx => toPred_ow_fuel n x (by
    have h1 : SizeOf.sizeOf x < SizeOf.sizeOf d.l := List.sizeOf_lt_of_mem hx
    have h2 : SizeOf.sizeOf d.l < SizeOf.sizeOf d := by cases d; simp [DPred.l]; omega
    omega) (by rw [fitPred_eq] at hf; exact (hf.2).2 x hx)
theorem toPred_ow (d : DPred) (hf : fitPred d) : Ctr Tryz.prog 107 [.agg d.c] [.agg d.o] := toPred_ow_fuel _ d (Nat.le_refl _) hf
theorem toPredS_ows (xs : List DPred) (hf : fitS fitPred xs) : Ctr Tryz.prog 155 [.c (.sl (xs.map DPred.c))] [.own 50 7 (xs.map DPred.o) true] := toPredS_ow xs hf.1 fun x hx => toPred_ow x (hf.2 x hx)
theorem toQuery_ow (d : DQuery) (hf : fitQuery d) : Ctr Tryz.prog 43 [.agg d.c] [.agg d.o] := by
  rw [fitQuery_eq] at hf
  obtain ⟨f0, f1⟩ := hf
  refine Ctr.mk (fn := Tryz.f43) Tryz.call43 Tryz.func43 rfl mixed Tryz.ntmps43 Tryz.results43 (by kernel_rfl) rfl fun _ => ?_
  simp only [go_sem, Nat.reduceAdd, Nat.reduceSub, Nat.reduceMul, Nat.reduceLT, Nat.reduceLeDiff, Nat.reduceEqDiff, Nat.succ_ne_zero, reduceIte]
  refine CallK.mk _ (by simpa only [go_sem] using toPred_ow d.p f0) fun _ => ?_
  simp only [go_sem, Nat.reduceAdd, Nat.reduceSub, Nat.reduceMul, Nat.reduceLT, Nat.reduceLeDiff, Nat.reduceEqDiff, Nat.succ_ne_zero, reduceIte]
  refine CallK.mk _ (by simpa only [go_sem] using toIntS_own d.out f1) fun _ => ?_
  simp only [go_sem, Nat.reduceAdd, Nat.reduceSub, Nat.reduceMul, Nat.reduceLT, Nat.reduceLeDiff, Nat.reduceEqDiff, Nat.succ_ne_zero, reduceIte]
  try simp [OwnL, obAt, pureC, nrE, DQuery.o_eq]
theorem toResult_ow (d : DResult) (hf : fitResult d) : Ctr Tryz.prog 44 [.agg d.c] [.agg d.o] := by
  rw [fitResult_eq] at hf
  obtain ⟨f0, f1⟩ := hf
  refine Ctr.mk (fn := Tryz.f44) Tryz.call44 Tryz.func44 rfl mixed Tryz.ntmps44 Tryz.results44 (by kernel_rfl) rfl fun _ => ?_
  simp only [go_sem, Nat.reduceAdd, Nat.reduceSub, Nat.reduceMul, Nat.reduceLT, Nat.reduceLeDiff, Nat.reduceEqDiff, Nat.succ_ne_zero, reduceIte]
  refine CallK.mk _ (by simpa only [go_sem] using toRowS_ows d.rows f0) fun _ => ?_
  simp only [go_sem, Nat.reduceAdd, Nat.reduceSub, Nat.reduceMul, Nat.reduceLT, Nat.reduceLeDiff, Nat.reduceEqDiff, Nat.succ_ne_zero, reduceIte]
  refine CallK.mk _ (by simpa only [go_sem] using toVal_spec d.v f1) fun _ => ?_
  simp only [go_sem, Nat.reduceAdd, Nat.reduceSub, Nat.reduceMul, Nat.reduceLT, Nat.reduceLeDiff, Nat.reduceEqDiff, Nat.succ_ne_zero, reduceIte]
  try simp [OwnL, obAt, pureC, nrE, DResult.o_eq]
theorem toDeed_ow (d : DDeed) (hf : fitDeed d) : Ctr Tryz.prog 10 [.agg d.c] [.agg d.o] := by
  rw [fitDeed_eq] at hf
  obtain ⟨f0, f1, f2⟩ := hf
  refine Ctr.mk (fn := Tryz.f10) Tryz.call10 Tryz.func10 rfl mixed Tryz.ntmps10 Tryz.results10 (by kernel_rfl) rfl fun _ => ?_
  simp only [go_sem, Nat.reduceAdd, Nat.reduceSub, Nat.reduceMul, Nat.reduceLT, Nat.reduceLeDiff, Nat.reduceEqDiff, Nat.succ_ne_zero, reduceIte]
  refine CallK.mk _ (by simpa only [go_sem] using toValS_own d.r f0.1 fun x hx => toVal_spec x (f0.2 x hx)) fun _ => ?_
  simp only [go_sem, Nat.reduceAdd, Nat.reduceSub, Nat.reduceMul, Nat.reduceLT, Nat.reduceLeDiff, Nat.reduceEqDiff, Nat.succ_ne_zero, reduceIte]
  refine CallK.mk _ (by simpa only [go_sem] using toQuery_ow d.q f1) fun _ => ?_
  simp only [go_sem, Nat.reduceAdd, Nat.reduceSub, Nat.reduceMul, Nat.reduceLT, Nat.reduceLeDiff, Nat.reduceEqDiff, Nat.succ_ne_zero, reduceIte]
  refine CallK.mk _ (by simpa only [go_sem] using toResult_ow d.res f2) fun _ => ?_
  simp only [go_sem, Nat.reduceAdd, Nat.reduceSub, Nat.reduceMul, Nat.reduceLT, Nat.reduceLeDiff, Nat.reduceEqDiff, Nat.succ_ne_zero, reduceIte]
  try simp [OwnL, obAt, pureC, nrE, DDeed.o_eq]
theorem toDeedS_ow (xs : List DDeed) (hf : xs.length ≤ 1048576) (hx : ∀ x ∈ xs, Ctr Tryz.prog 10 [.agg x.c] [.agg x.o]) : Ctr Tryz.prog 19 [.c (.sl (xs.map DDeed.c))] [.own 56 25 (xs.map DDeed.o) true] := by
  refine Ctr.mk (fn := Tryz.f19) Tryz.call19 Tryz.func19 rfl mixed Tryz.ntmps19 Tryz.results19 (by kernel_rfl) rfl fun _ => ?_
  have hc : (0 : Int) ≤ xs.length ∧ (xs.length : Int) ≤ xs.length ∧ (xs.length : Int) ≤ 2147483648 := by omega
  simp only [go_sem, Nat.reduceAdd, Nat.reduceSub, Nat.reduceMul, Nat.reduceLT, Nat.reduceLeDiff, Nat.reduceEqDiff, Nat.succ_ne_zero, reduceIte, List.length_map, hc, List.length_replicate]
  have hg := fun k => @trim1_growO _ DDeed.o DDeed.o_nr [.v (.int .i64 0), .v (.int .i64 0), .v (.slice none 0 0), .v (.int .i64 0), .v (.int .i64 0), .v (.int .i64 0), .v (.int .i64 0), .v (.int .i64 0), .v (.int .i64 0), .v (.int .i64 0), .v (.string ByteArray.empty), .v (.slice none 0 0), .v (.int .i64 0), .v (.slice none 0 0), .v (.slice none 0 0), .v (.int .i64 0), .v (.bool false), .v (.int .i64 0), .v (.int .i64 0), .v (.string ByteArray.empty), .v (.int .i64 0), .v (.int .i64 0), .v (.int .i64 0), .v (.int .i64 0), .v (.int .i64 0)] rfl xs k 56 25 true true
  refine LoopA.mk 1 0 [0, 3, 4] (A := Nat) (fun k => ⟨23, [(0, .c (.sl (xs.map DDeed.c))), (3, .c (.ref 0)), (4, .c (.v (.int .i64 k)))], [⟨56, 25, grow (xs.map DDeed.o) [.v (.int .i64 0), .v (.int .i64 0), .v (.slice none 0 0), .v (.int .i64 0), .v (.int .i64 0), .v (.int .i64 0), .v (.int .i64 0), .v (.int .i64 0), .v (.int .i64 0), .v (.int .i64 0), .v (.string ByteArray.empty), .v (.slice none 0 0), .v (.int .i64 0), .v (.slice none 0 0), .v (.slice none 0 0), .v (.int .i64 0), .v (.bool false), .v (.int .i64 0), .v (.int .i64 0), .v (.string ByteArray.empty), .v (.int .i64 0), .v (.int .i64 0), .v (.int .i64 0), .v (.int .i64 0), .v (.int .i64 0)] k, true, true⟩]⟩) (fun k => k ≤ xs.length) (fun k => xs.length - k) 0 ⟨⟨rfl, by have := hg 0; simp only [grow_zero, List.length_map] at this; exact this⟩, by simp only [grow_zero, List.length_map]; rfl, Nat.zero_le _⟩ ?_
  intro k hk
  simp only [go_sem, Nat.reduceAdd, Nat.reduceSub, Nat.reduceMul, Nat.reduceLT, Nat.reduceLeDiff, Nat.reduceEqDiff, Nat.succ_ne_zero, reduceIte, List.length_map]
  refine cndC.mk (fun h => ?_) (fun h => ?_)
  · have hk' : k < xs.length := by simpa using h
    have hset := @grow_setm _ DDeed.o xs [.v (.int .i64 0), .v (.int .i64 0), .v (.slice none 0 0), .v (.int .i64 0), .v (.int .i64 0), .v (.int .i64 0), .v (.int .i64 0), .v (.int .i64 0), .v (.int .i64 0), .v (.int .i64 0), .v (.string ByteArray.empty), .v (.slice none 0 0), .v (.int .i64 0), .v (.slice none 0 0), .v (.slice none 0 0), .v (.int .i64 0), .v (.bool false), .v (.int .i64 0), .v (.int .i64 0), .v (.string ByteArray.empty), .v (.int .i64 0), .v (.int .i64 0), .v (.int .i64 0), .v (.int .i64 0), .v (.int .i64 0)] k hk'
    simp only [go_sem, Nat.reduceAdd, Nat.reduceSub, Nat.reduceMul, Nat.reduceLT, Nat.reduceLeDiff, Nat.reduceEqDiff, Nat.succ_ne_zero, reduceIte, map_at _ hk', grow_lenm hk, grow_atm hk', hk', wrap_i64 (n := (k : Int) + 1) (by omega) (by omega)]
    refine CallK.mk _ (by simpa only [go_sem] using hx xs[k] (List.getElem_mem hk')) fun _ => ?_
    simp only [go_sem, Nat.reduceAdd, Nat.reduceSub, Nat.reduceMul, Nat.reduceLT, Nat.reduceLeDiff, Nat.reduceEqDiff, Nat.succ_ne_zero, reduceIte, map_at _ hk', grow_lenm hk, grow_atm hk', hk', wrap_i64 (n := (k : Int) + 1) (by omega) (by omega)]
    refine ⟨k + 1, .inr ⟨k, grow (xs.map DDeed.o) [.v (.int .i64 0), .v (.int .i64 0), .v (.slice none 0 0), .v (.int .i64 0), .v (.int .i64 0), .v (.int .i64 0), .v (.int .i64 0), .v (.int .i64 0), .v (.int .i64 0), .v (.int .i64 0), .v (.string ByteArray.empty), .v (.slice none 0 0), .v (.int .i64 0), .v (.slice none 0 0), .v (.slice none 0 0), .v (.int .i64 0), .v (.bool false), .v (.int .i64 0), .v (.int .i64 0), .v (.string ByteArray.empty), .v (.int .i64 0), .v (.int .i64 0), .v (.int .i64 0), .v (.int .i64 0), .v (.int .i64 0)] k, _, DDeed.o xs[k], _, ⟨Nat.zero_lt_one, rfl, rfl, by rw [grow_lenm hk]; exact hk', rfl⟩, ?_, ⟨rfl, ?_⟩, ?_⟩, by omega, by first | omega | (simp only; omega)⟩
    · simp [DDeed.o_eq, OwnL, obAt, pureC, DPred.o_eq, DPred.c_eq, DQuery.o_eq, DQuery.c_eq, DResult.o_eq, DResult.c_eq, DVal.c_eq, nr_Pred, nr_Row, nr_Val, nr_int]
    · rw [absSt, hset]; exact hg _
    · rw [absSt, hset]; rfl
  · have hk' : k = xs.length := by simp at h; omega
    subst hk'
    rw [grow_allm]
    simp only [go_sem, Nat.reduceAdd, Nat.reduceSub, Nat.reduceMul, Nat.reduceLT, Nat.reduceLeDiff, Nat.reduceEqDiff, Nat.succ_ne_zero, reduceIte]
    try simp [nr_Deed]
theorem toDeedS_ows (xs : List DDeed) (hf : fitS fitDeed xs) : Ctr Tryz.prog 19 [.c (.sl (xs.map DDeed.c))] [.own 56 25 (xs.map DDeed.o) true] := toDeedS_ow xs hf.1 fun x hx => toDeed_ow x (hf.2 x hx)

end Go.Proofs.YtepjgnlinjlehaaGreat
