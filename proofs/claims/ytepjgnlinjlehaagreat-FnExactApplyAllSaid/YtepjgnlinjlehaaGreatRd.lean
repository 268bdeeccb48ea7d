/- What the laws' arguments read: by program (gen_data.py). -/
import Derived.Test.YtepjgnlinjlehaaGreatDa
import Derived.Test.YtepjgnlinjlehaaGreatTy
import Derived.Test.YtepjgnlinjlehaaGreatVmX
namespace Go.Proofs.YtepjgnlinjlehaaGreat
set_option linter.unusedSimpArgs false
set_option linter.unusedVariables false
open Go.Vm

set_option maxRecDepth 100000
variable {H : Type} {enc : TypeId × Value → H} {w : World} {sp : Nat → Bool} {held : Bool}
theorem cells3 : Tryz.prog.cellsOf 3 = 1 := by kernel_rfl
theorem rd_int : ∀ (fuel : Nat) (cs : List Value) (y : DataW H × List MemPlace), DataW.trod enc Tryz.prog w 0 sp held fuel 3 cs = some y → ∃ x : Int, RdCs w cs [.v (.int .i64 x)] := fun _ _ _ h => td_int Tryz.underlying3 h
theorem cells9 : Tryz.prog.cellsOf 9 = 1 := by kernel_rfl
theorem rd_string : ∀ (fuel : Nat) (cs : List Value) (y : DataW H × List MemPlace), DataW.trod enc Tryz.prog w 0 sp held fuel 9 cs = some y → ∃ x : ByteArray, RdCs w cs [.v (.string x)] := fun _ _ _ h => td_string Tryz.underlying9 h
theorem cells4 : Tryz.prog.cellsOf 4 = 1 := by kernel_rfl
theorem rd_bool : ∀ (fuel : Nat) (cs : List Value) (y : DataW H × List MemPlace), DataW.trod enc Tryz.prog w 0 sp held fuel 4 cs = some y → ∃ x : Bool, RdCs w cs [.v (.bool x)] := fun _ _ _ h => td_bool Tryz.underlying4 h
theorem cells22 : Tryz.prog.cellsOf 22 = 1 := by kernel_rfl
theorem rd_intS : ∀ (fuel : Nat) (cs : List Value) (y : DataW H × List MemPlace), DataW.trod enc Tryz.prog w 0 sp held fuel 22 cs = some y → ∃ xs : List Int, RdCs w cs [.sl (xs.map intC)] := fun fuel _ _ h => td_slice2 Tryz.underlying22 cells3 (fun _ => rfl) (by omega) (fun fuel' _ => rd_int fuel') h
theorem cells28 : Tryz.prog.cellsOf 28 = 3 := by kernel_rfl
theorem DVal.len (d : DVal) : d.c.length = 3 := by rw [DVal.c_eq]; simp []
theorem rd_Val : ∀ (fuel : Nat) (cs : List Value) (y : DataW H × List MemPlace), DataW.trod enc Tryz.prog w 0 sp held fuel 28 cs = some y → ∃ x : DVal, RdCs w cs x.c := by
    intro fuel cs y h
    obtain ⟨fu, hfu, hl, hF⟩ := td_struct2 Tryz.underlying28 cells28 h
    obtain ⟨_, h0⟩ := hF 0 _ rfl
    obtain ⟨x0, r0⟩ := rd_int _ _ _ h0
    simp only [cells3] at r0
    obtain ⟨_, h1⟩ := hF 1 _ rfl
    obtain ⟨x1, r1⟩ := rd_int _ _ _ h1
    simp only [cells3] at r1
    obtain ⟨_, h2⟩ := hF 2 _ rfl
    obtain ⟨x2, r2⟩ := rd_string _ _ _ h2
    simp only [cells9] at r2
    refine ⟨⟨x0, x1, x2⟩, ?_⟩
    rw [DVal.c_eq]
    exact RdCs.glue (o := 0) (n := 1) r0 rfl (RdCs.glue (o := 1) (n := 1) r1 rfl (RdCs.last (o := 2) (n := 1) r2 hl))
theorem cells26 : Tryz.prog.cellsOf 26 = 1 := by kernel_rfl
theorem rd_ValS : ∀ (fuel : Nat) (cs : List Value) (y : DataW H × List MemPlace), DataW.trod enc Tryz.prog w 0 sp held fuel 26 cs = some y → ∃ xs : List DVal, RdCs w cs [.sl (xs.map DVal.c)] := fun fuel _ _ h => td_slice2 Tryz.underlying26 cells28 (fun x => DVal.len x) (by omega) (fun fuel' _ => rd_Val fuel') h
theorem cells156 : Tryz.prog.cellsOf 156 = 2 := by kernel_rfl
theorem DRow.len (d : DRow) : d.c.length = 2 := by rw [DRow.c_eq]; simp []
theorem rd_Row : ∀ (fuel : Nat) (cs : List Value) (y : DataW H × List MemPlace), DataW.trod enc Tryz.prog w 0 sp held fuel 156 cs = some y → ∃ x : DRow, RdCs w cs x.c := by
    intro fuel cs y h
    obtain ⟨fu, hfu, hl, hF⟩ := td_struct2 Tryz.underlying156 cells156 h
    obtain ⟨_, h0⟩ := hF 0 _ rfl
    obtain ⟨x0, r0⟩ := rd_int _ _ _ h0
    simp only [cells3] at r0
    obtain ⟨_, h1⟩ := hF 1 _ rfl
    obtain ⟨x1, r1⟩ := rd_ValS _ _ _ h1
    simp only [cells26] at r1
    refine ⟨⟨x0, x1⟩, ?_⟩
    rw [DRow.c_eq]
    exact RdCs.glue (o := 0) (n := 1) r0 rfl (RdCs.last (o := 1) (n := 1) r1 hl)
theorem cells23 : Tryz.prog.cellsOf 23 = 1 := by kernel_rfl
theorem rd_RowS : ∀ (fuel : Nat) (cs : List Value) (y : DataW H × List MemPlace), DataW.trod enc Tryz.prog w 0 sp held fuel 23 cs = some y → ∃ xs : List DRow, RdCs w cs [.sl (xs.map DRow.c)] := fun fuel _ _ h => td_slice2 Tryz.underlying23 cells156 (fun x => DRow.len x) (by omega) (fun fuel' _ => rd_Row fuel') h
theorem cells25 : Tryz.prog.cellsOf 25 = 2 := by kernel_rfl
theorem DTable.len (d : DTable) : d.c.length = 2 := by rw [DTable.c_eq]; simp []
theorem rd_Table : ∀ (fuel : Nat) (cs : List Value) (y : DataW H × List MemPlace), DataW.trod enc Tryz.prog w 0 sp held fuel 25 cs = some y → ∃ x : DTable, RdCs w cs x.c := by
    intro fuel cs y h
    obtain ⟨fu, hfu, hl, hF⟩ := td_struct2 Tryz.underlying25 cells25 h
    obtain ⟨_, h0⟩ := hF 0 _ rfl
    obtain ⟨x0, r0⟩ := rd_intS _ _ _ h0
    simp only [cells22] at r0
    obtain ⟨_, h1⟩ := hF 1 _ rfl
    obtain ⟨x1, r1⟩ := rd_RowS _ _ _ h1
    simp only [cells23] at r1
    refine ⟨⟨x0, x1⟩, ?_⟩
    rw [DTable.c_eq]
    exact RdCs.glue (o := 0) (n := 1) r0 rfl (RdCs.last (o := 1) (n := 1) r1 hl)
theorem cells31 : Tryz.prog.cellsOf 31 = 7 := by kernel_rfl
theorem DPred.len (d : DPred) : d.c.length = 7 := by rw [DPred.c_eq]; simp [DVal.len]
theorem cells29 : Tryz.prog.cellsOf 29 = 1 := by kernel_rfl
theorem rd_Pred : ∀ (fuel : Nat) (cs : List Value) (y : DataW H × List MemPlace), DataW.trod enc Tryz.prog w 0 sp held fuel 31 cs = some y → ∃ x : DPred, RdCs w cs x.c := by
  intro fuel
  induction fuel using Nat.strongRecOn with
  | ind fuel ih =>
    intro cs y h
    obtain ⟨fu, hfu, hl, hF⟩ := td_struct2 Tryz.underlying31 cells31 h
    obtain ⟨_, h0⟩ := hF 0 _ rfl
    obtain ⟨x0, r0⟩ := rd_int _ _ _ h0
    simp only [cells3] at r0
    obtain ⟨_, h1⟩ := hF 1 _ rfl
    obtain ⟨x1, r1⟩ := rd_int _ _ _ h1
    simp only [cells3] at r1
    obtain ⟨_, h2⟩ := hF 2 _ rfl
    obtain ⟨x2, r2⟩ := rd_int _ _ _ h2
    simp only [cells3] at r2
    obtain ⟨_, h3⟩ := hF 3 _ rfl
    obtain ⟨x3, r3⟩ := rd_Val _ _ _ h3
    simp only [cells28] at r3
    obtain ⟨_, h4⟩ := hF 4 _ rfl
    obtain ⟨x4, r4⟩ := td_slice2 (f := DPred.c) Tryz.underlying29 cells31 (fun x => DPred.len x) (by omega) (fun fuel' hlt cs y h => ih fuel' (by omega) cs y h) h4
    simp only [cells29] at r4
    refine ⟨.mk x0 x1 x2 x3 x4, ?_⟩
    rw [DPred.c_eq]
    exact RdCs.glue (o := 0) (n := 1) r0 rfl (RdCs.glue (o := 1) (n := 1) r1 rfl (RdCs.glue (o := 2) (n := 1) r2 rfl (RdCs.glue (o := 3) (n := 3) r3 rfl (RdCs.last (o := 6) (n := 1) r4 hl))))
theorem rd_PredS : ∀ (fuel : Nat) (cs : List Value) (y : DataW H × List MemPlace), DataW.trod enc Tryz.prog w 0 sp held fuel 29 cs = some y → ∃ xs : List DPred, RdCs w cs [.sl (xs.map DPred.c)] := fun fuel _ _ h => td_slice2 Tryz.underlying29 cells31 (fun x => DPred.len x) (by omega) (fun fuel' _ => rd_Pred fuel') h
theorem cells33 : Tryz.prog.cellsOf 33 = 10 := by kernel_rfl
theorem DQuery.len (d : DQuery) : d.c.length = 10 := by rw [DQuery.c_eq]; simp [DPred.len]
theorem rd_Query : ∀ (fuel : Nat) (cs : List Value) (y : DataW H × List MemPlace), DataW.trod enc Tryz.prog w 0 sp held fuel 33 cs = some y → ∃ x : DQuery, RdCs w cs x.c := by
    intro fuel cs y h
    obtain ⟨fu, hfu, hl, hF⟩ := td_struct2 Tryz.underlying33 cells33 h
    obtain ⟨_, h0⟩ := hF 0 _ rfl
    obtain ⟨x0, r0⟩ := rd_int _ _ _ h0
    simp only [cells3] at r0
    obtain ⟨_, h1⟩ := hF 1 _ rfl
    obtain ⟨x1, r1⟩ := rd_Pred _ _ _ h1
    simp only [cells31] at r1
    obtain ⟨_, h2⟩ := hF 2 _ rfl
    obtain ⟨x2, r2⟩ := rd_int _ _ _ h2
    simp only [cells3] at r2
    obtain ⟨_, h3⟩ := hF 3 _ rfl
    obtain ⟨x3, r3⟩ := rd_intS _ _ _ h3
    simp only [cells22] at r3
    refine ⟨⟨x0, x1, x2, x3⟩, ?_⟩
    rw [DQuery.c_eq]
    exact RdCs.glue (o := 0) (n := 1) r0 rfl (RdCs.glue (o := 1) (n := 7) r1 rfl (RdCs.glue (o := 8) (n := 1) r2 rfl (RdCs.last (o := 9) (n := 1) r3 hl)))
theorem cells35 : Tryz.prog.cellsOf 35 = 6 := by kernel_rfl
theorem DResult.len (d : DResult) : d.c.length = 6 := by rw [DResult.c_eq]; simp [DVal.len]
theorem rd_Result : ∀ (fuel : Nat) (cs : List Value) (y : DataW H × List MemPlace), DataW.trod enc Tryz.prog w 0 sp held fuel 35 cs = some y → ∃ x : DResult, RdCs w cs x.c := by
    intro fuel cs y h
    obtain ⟨fu, hfu, hl, hF⟩ := td_struct2 Tryz.underlying35 cells35 h
    obtain ⟨_, h0⟩ := hF 0 _ rfl
    obtain ⟨x0, r0⟩ := rd_RowS _ _ _ h0
    simp only [cells23] at r0
    obtain ⟨_, h1⟩ := hF 1 _ rfl
    obtain ⟨x1, r1⟩ := rd_int _ _ _ h1
    simp only [cells3] at r1
    obtain ⟨_, h2⟩ := hF 2 _ rfl
    obtain ⟨x2, r2⟩ := rd_bool _ _ _ h2
    simp only [cells4] at r2
    obtain ⟨_, h3⟩ := hF 3 _ rfl
    obtain ⟨x3, r3⟩ := rd_Val _ _ _ h3
    simp only [cells28] at r3
    refine ⟨⟨x0, x1, x2, x3⟩, ?_⟩
    rw [DResult.c_eq]
    exact RdCs.glue (o := 0) (n := 1) r0 rfl (RdCs.glue (o := 1) (n := 1) r1 rfl (RdCs.glue (o := 2) (n := 1) r2 rfl (RdCs.last (o := 3) (n := 3) r3 hl)))
theorem cells37 : Tryz.prog.cellsOf 37 = 25 := by kernel_rfl
theorem DDeed.len (d : DDeed) : d.c.length = 25 := by rw [DDeed.c_eq]; simp [DQuery.len, DResult.len]
theorem rd_Deed : ∀ (fuel : Nat) (cs : List Value) (y : DataW H × List MemPlace), DataW.trod enc Tryz.prog w 0 sp held fuel 37 cs = some y → ∃ x : DDeed, RdCs w cs x.c := by
    intro fuel cs y h
    obtain ⟨fu, hfu, hl, hF⟩ := td_struct2 Tryz.underlying37 cells37 h
    obtain ⟨_, h0⟩ := hF 0 _ rfl
    obtain ⟨x0, r0⟩ := rd_int _ _ _ h0
    simp only [cells3] at r0
    obtain ⟨_, h1⟩ := hF 1 _ rfl
    obtain ⟨x1, r1⟩ := rd_int _ _ _ h1
    simp only [cells3] at r1
    obtain ⟨_, h2⟩ := hF 2 _ rfl
    obtain ⟨x2, r2⟩ := rd_ValS _ _ _ h2
    simp only [cells26] at r2
    obtain ⟨_, h3⟩ := hF 3 _ rfl
    obtain ⟨x3, r3⟩ := rd_int _ _ _ h3
    simp only [cells3] at r3
    obtain ⟨_, h4⟩ := hF 4 _ rfl
    obtain ⟨x4, r4⟩ := rd_Query _ _ _ h4
    simp only [cells33] at r4
    obtain ⟨_, h5⟩ := hF 5 _ rfl
    obtain ⟨x5, r5⟩ := rd_Result _ _ _ h5
    simp only [cells35] at r5
    obtain ⟨_, h6⟩ := hF 6 _ rfl
    obtain ⟨x6, r6⟩ := rd_int _ _ _ h6
    simp only [cells3] at r6
    obtain ⟨_, h7⟩ := hF 7 _ rfl
    obtain ⟨x7, r7⟩ := rd_int _ _ _ h7
    simp only [cells3] at r7
    obtain ⟨_, h8⟩ := hF 8 _ rfl
    obtain ⟨x8, r8⟩ := rd_int _ _ _ h8
    simp only [cells3] at r8
    obtain ⟨_, h9⟩ := hF 9 _ rfl
    obtain ⟨x9, r9⟩ := rd_int _ _ _ h9
    simp only [cells3] at r9
    obtain ⟨_, h10⟩ := hF 10 _ rfl
    obtain ⟨x10, r10⟩ := rd_int _ _ _ h10
    simp only [cells3] at r10
    refine ⟨⟨x0, x1, x2, x3, x4, x5, x6, x7, x8, x9, x10⟩, ?_⟩
    rw [DDeed.c_eq]
    exact RdCs.glue (o := 0) (n := 1) r0 rfl (RdCs.glue (o := 1) (n := 1) r1 rfl (RdCs.glue (o := 2) (n := 1) r2 rfl (RdCs.glue (o := 3) (n := 1) r3 rfl (RdCs.glue (o := 4) (n := 10) r4 rfl (RdCs.glue (o := 14) (n := 6) r5 rfl (RdCs.glue (o := 20) (n := 1) r6 rfl (RdCs.glue (o := 21) (n := 1) r7 rfl (RdCs.glue (o := 22) (n := 1) r8 rfl (RdCs.glue (o := 23) (n := 1) r9 rfl (RdCs.last (o := 24) (n := 1) r10 hl))))))))))
theorem cells63 : Tryz.prog.cellsOf 63 = 1 := by kernel_rfl
theorem rd_DeedS : ∀ (fuel : Nat) (cs : List Value) (y : DataW H × List MemPlace), DataW.trod enc Tryz.prog w 0 sp held fuel 63 cs = some y → ∃ xs : List DDeed, RdCs w cs [.sl (xs.map DDeed.c)] := fun fuel _ _ h => td_slice2 Tryz.underlying63 cells37 (fun x => DDeed.len x) (by omega) (fun fuel' _ => rd_Deed fuel') h

end Go.Proofs.YtepjgnlinjlehaaGreat
