/- What the laws' arguments read: by program (gen_data.py). -/
import Derived.Test.YtlnaidkchbklcaaDa
import Derived.Test.YtlnaidkchbklcaaTy
import Derived.Test.YtlnaidkchbklcaaVmX
namespace Go.Proofs.Ytlnaidkchbklcaa
set_option linter.unusedSimpArgs false
set_option linter.unusedVariables false
open Go.Vm

set_option maxRecDepth 100000
variable {H : Type} {enc : TypeId × Value → H} {w : World} {sp : Nat → Bool} {held : Bool}
theorem cells3 : Try.prog.cellsOf 3 = 1 := by kernel_rfl
theorem rd_int : ∀ (fuel : Nat) (cs : List Value) (y : DataW H × List MemPlace), DataW.trod enc Try.prog w 0 sp held fuel 3 cs = some y → ∃ x : Int, RdCs w cs [.v (.int .i64 x)] := fun _ _ _ h => td_int Try.underlying3 h
theorem cells9 : Try.prog.cellsOf 9 = 1 := by kernel_rfl
theorem rd_string : ∀ (fuel : Nat) (cs : List Value) (y : DataW H × List MemPlace), DataW.trod enc Try.prog w 0 sp held fuel 9 cs = some y → ∃ x : ByteArray, RdCs w cs [.v (.string x)] := fun _ _ _ h => td_string Try.underlying9 h
theorem cells4 : Try.prog.cellsOf 4 = 1 := by kernel_rfl
theorem rd_bool : ∀ (fuel : Nat) (cs : List Value) (y : DataW H × List MemPlace), DataW.trod enc Try.prog w 0 sp held fuel 4 cs = some y → ∃ x : Bool, RdCs w cs [.v (.bool x)] := fun _ _ _ h => td_bool Try.underlying4 h
theorem cells22 : Try.prog.cellsOf 22 = 1 := by kernel_rfl
theorem rd_intS : ∀ (fuel : Nat) (cs : List Value) (y : DataW H × List MemPlace), DataW.trod enc Try.prog w 0 sp held fuel 22 cs = some y → ∃ xs : List Int, RdCs w cs [.sl (xs.map intC)] := fun fuel _ _ h => td_slice2 Try.underlying22 cells3 (fun _ => rfl) (by omega) (fun fuel' _ => rd_int fuel') h
theorem cells55 : Try.prog.cellsOf 55 = 3 := by kernel_rfl
theorem DVal.len (d : DVal) : d.c.length = 3 := by rw [DVal.c_eq]; simp []
theorem rd_Val : ∀ (fuel : Nat) (cs : List Value) (y : DataW H × List MemPlace), DataW.trod enc Try.prog w 0 sp held fuel 55 cs = some y → ∃ x : DVal, RdCs w cs x.c := by
    intro fuel cs y h
    obtain ⟨fu, hfu, hl, hF⟩ := td_struct2 Try.underlying55 cells55 h
    obtain ⟨_, h0⟩ := hF 0 _ rfl
    obtain ⟨x0, r0⟩ := rd_int _ _ _ h0
    simp only [cells3] at r0
    obtain ⟨_, h1⟩ := hF 1 _ rfl
    obtain ⟨x1, r1⟩ := rd_int _ _ _ h1
    simp only [cells3] at r1
    obtain ⟨_, h2⟩ := hF 2 _ rfl
    obtain ⟨x2, r2⟩ := rd_string _ _ _ h2
    simp only [cells9] at r2
    refine ⟨⟨x0, x1, x2⟩, ?_⟩
    rw [DVal.c_eq]
    exact RdCs.glue (o := 0) (n := 1) r0 rfl (RdCs.glue (o := 1) (n := 1) r1 rfl (RdCs.last (o := 2) (n := 1) r2 hl))
theorem cells53 : Try.prog.cellsOf 53 = 1 := by kernel_rfl
theorem rd_ValS : ∀ (fuel : Nat) (cs : List Value) (y : DataW H × List MemPlace), DataW.trod enc Try.prog w 0 sp held fuel 53 cs = some y → ∃ xs : List DVal, RdCs w cs [.sl (xs.map DVal.c)] := fun fuel _ _ h => td_slice2 Try.underlying53 cells55 (fun x => DVal.len x) (by omega) (fun fuel' _ => rd_Val fuel') h
theorem cells79 : Try.prog.cellsOf 79 = 2 := by kernel_rfl
theorem DRow.len (d : DRow) : d.c.length = 2 := by rw [DRow.c_eq]; simp []
theorem rd_Row : ∀ (fuel : Nat) (cs : List Value) (y : DataW H × List MemPlace), DataW.trod enc Try.prog w 0 sp held fuel 79 cs = some y → ∃ x : DRow, RdCs w cs x.c := by
    intro fuel cs y h
    obtain ⟨fu, hfu, hl, hF⟩ := td_struct2 Try.underlying79 cells79 h
    obtain ⟨_, h0⟩ := hF 0 _ rfl
    obtain ⟨x0, r0⟩ := rd_int _ _ _ h0
    simp only [cells3] at r0
    obtain ⟨_, h1⟩ := hF 1 _ rfl
    obtain ⟨x1, r1⟩ := rd_ValS _ _ _ h1
    simp only [cells53] at r1
    refine ⟨⟨x0, x1⟩, ?_⟩
    rw [DRow.c_eq]
    exact RdCs.glue (o := 0) (n := 1) r0 rfl (RdCs.last (o := 1) (n := 1) r1 hl)
theorem cells23 : Try.prog.cellsOf 23 = 1 := by kernel_rfl
theorem rd_RowS : ∀ (fuel : Nat) (cs : List Value) (y : DataW H × List MemPlace), DataW.trod enc Try.prog w 0 sp held fuel 23 cs = some y → ∃ xs : List DRow, RdCs w cs [.sl (xs.map DRow.c)] := fun fuel _ _ h => td_slice2 Try.underlying23 cells79 (fun x => DRow.len x) (by omega) (fun fuel' _ => rd_Row fuel') h
theorem cells58 : Try.prog.cellsOf 58 = 7 := by kernel_rfl
theorem DPred.len (d : DPred) : d.c.length = 7 := by rw [DPred.c_eq]; simp [DVal.len]
theorem cells56 : Try.prog.cellsOf 56 = 1 := by kernel_rfl
theorem rd_Pred : ∀ (fuel : Nat) (cs : List Value) (y : DataW H × List MemPlace), DataW.trod enc Try.prog w 0 sp held fuel 58 cs = some y → ∃ x : DPred, RdCs w cs x.c := by
  intro fuel
  induction fuel using Nat.strongRecOn with
  | ind fuel ih =>
    intro cs y h
    obtain ⟨fu, hfu, hl, hF⟩ := td_struct2 Try.underlying58 cells58 h
    obtain ⟨_, h0⟩ := hF 0 _ rfl
    obtain ⟨x0, r0⟩ := rd_int _ _ _ h0
    simp only [cells3] at r0
    obtain ⟨_, h1⟩ := hF 1 _ rfl
    obtain ⟨x1, r1⟩ := rd_int _ _ _ h1
    simp only [cells3] at r1
    obtain ⟨_, h2⟩ := hF 2 _ rfl
    obtain ⟨x2, r2⟩ := rd_int _ _ _ h2
    simp only [cells3] at r2
    obtain ⟨_, h3⟩ := hF 3 _ rfl
    obtain ⟨x3, r3⟩ := rd_Val _ _ _ h3
    simp only [cells55] at r3
    obtain ⟨_, h4⟩ := hF 4 _ rfl
    obtain ⟨x4, r4⟩ := td_slice2 (f := DPred.c) Try.underlying56 cells58 (fun x => DPred.len x) (by omega) (fun fuel' hlt cs y h => ih fuel' (by omega) cs y h) h4
    simp only [cells56] at r4
    refine ⟨.mk x0 x1 x2 x3 x4, ?_⟩
    rw [DPred.c_eq]
    exact RdCs.glue (o := 0) (n := 1) r0 rfl (RdCs.glue (o := 1) (n := 1) r1 rfl (RdCs.glue (o := 2) (n := 1) r2 rfl (RdCs.glue (o := 3) (n := 3) r3 rfl (RdCs.last (o := 6) (n := 1) r4 hl))))
theorem rd_PredS : ∀ (fuel : Nat) (cs : List Value) (y : DataW H × List MemPlace), DataW.trod enc Try.prog w 0 sp held fuel 56 cs = some y → ∃ xs : List DPred, RdCs w cs [.sl (xs.map DPred.c)] := fun fuel _ _ h => td_slice2 Try.underlying56 cells58 (fun x => DPred.len x) (by omega) (fun fuel' _ => rd_Pred fuel') h
theorem cells60 : Try.prog.cellsOf 60 = 10 := by kernel_rfl
theorem DQuery.len (d : DQuery) : d.c.length = 10 := by rw [DQuery.c_eq]; simp [DPred.len]
theorem rd_Query : ∀ (fuel : Nat) (cs : List Value) (y : DataW H × List MemPlace), DataW.trod enc Try.prog w 0 sp held fuel 60 cs = some y → ∃ x : DQuery, RdCs w cs x.c := by
    intro fuel cs y h
    obtain ⟨fu, hfu, hl, hF⟩ := td_struct2 Try.underlying60 cells60 h
    obtain ⟨_, h0⟩ := hF 0 _ rfl
    obtain ⟨x0, r0⟩ := rd_int _ _ _ h0
    simp only [cells3] at r0
    obtain ⟨_, h1⟩ := hF 1 _ rfl
    obtain ⟨x1, r1⟩ := rd_Pred _ _ _ h1
    simp only [cells58] at r1
    obtain ⟨_, h2⟩ := hF 2 _ rfl
    obtain ⟨x2, r2⟩ := rd_int _ _ _ h2
    simp only [cells3] at r2
    obtain ⟨_, h3⟩ := hF 3 _ rfl
    obtain ⟨x3, r3⟩ := rd_intS _ _ _ h3
    simp only [cells22] at r3
    refine ⟨⟨x0, x1, x2, x3⟩, ?_⟩
    rw [DQuery.c_eq]
    exact RdCs.glue (o := 0) (n := 1) r0 rfl (RdCs.glue (o := 1) (n := 7) r1 rfl (RdCs.glue (o := 8) (n := 1) r2 rfl (RdCs.last (o := 9) (n := 1) r3 hl)))
theorem cells62 : Try.prog.cellsOf 62 = 6 := by kernel_rfl
theorem DResult.len (d : DResult) : d.c.length = 6 := by rw [DResult.c_eq]; simp [DVal.len]
theorem rd_Result : ∀ (fuel : Nat) (cs : List Value) (y : DataW H × List MemPlace), DataW.trod enc Try.prog w 0 sp held fuel 62 cs = some y → ∃ x : DResult, RdCs w cs x.c := by
    intro fuel cs y h
    obtain ⟨fu, hfu, hl, hF⟩ := td_struct2 Try.underlying62 cells62 h
    obtain ⟨_, h0⟩ := hF 0 _ rfl
    obtain ⟨x0, r0⟩ := rd_RowS _ _ _ h0
    simp only [cells23] at r0
    obtain ⟨_, h1⟩ := hF 1 _ rfl
    obtain ⟨x1, r1⟩ := rd_int _ _ _ h1
    simp only [cells3] at r1
    obtain ⟨_, h2⟩ := hF 2 _ rfl
    obtain ⟨x2, r2⟩ := rd_bool _ _ _ h2
    simp only [cells4] at r2
    obtain ⟨_, h3⟩ := hF 3 _ rfl
    obtain ⟨x3, r3⟩ := rd_Val _ _ _ h3
    simp only [cells55] at r3
    refine ⟨⟨x0, x1, x2, x3⟩, ?_⟩
    rw [DResult.c_eq]
    exact RdCs.glue (o := 0) (n := 1) r0 rfl (RdCs.glue (o := 1) (n := 1) r1 rfl (RdCs.glue (o := 2) (n := 1) r2 rfl (RdCs.last (o := 3) (n := 3) r3 hl)))
theorem cells64 : Try.prog.cellsOf 64 = 25 := by kernel_rfl
theorem DDeed.len (d : DDeed) : d.c.length = 25 := by rw [DDeed.c_eq]; simp [DQuery.len, DResult.len]
theorem rd_Deed : ∀ (fuel : Nat) (cs : List Value) (y : DataW H × List MemPlace), DataW.trod enc Try.prog w 0 sp held fuel 64 cs = some y → ∃ x : DDeed, RdCs w cs x.c := by
    intro fuel cs y h
    obtain ⟨fu, hfu, hl, hF⟩ := td_struct2 Try.underlying64 cells64 h
    obtain ⟨_, h0⟩ := hF 0 _ rfl
    obtain ⟨x0, r0⟩ := rd_int _ _ _ h0
    simp only [cells3] at r0
    obtain ⟨_, h1⟩ := hF 1 _ rfl
    obtain ⟨x1, r1⟩ := rd_int _ _ _ h1
    simp only [cells3] at r1
    obtain ⟨_, h2⟩ := hF 2 _ rfl
    obtain ⟨x2, r2⟩ := rd_ValS _ _ _ h2
    simp only [cells53] at r2
    obtain ⟨_, h3⟩ := hF 3 _ rfl
    obtain ⟨x3, r3⟩ := rd_int _ _ _ h3
    simp only [cells3] at r3
    obtain ⟨_, h4⟩ := hF 4 _ rfl
    obtain ⟨x4, r4⟩ := rd_Query _ _ _ h4
    simp only [cells60] at r4
    obtain ⟨_, h5⟩ := hF 5 _ rfl
    obtain ⟨x5, r5⟩ := rd_Result _ _ _ h5
    simp only [cells62] at r5
    obtain ⟨_, h6⟩ := hF 6 _ rfl
    obtain ⟨x6, r6⟩ := rd_int _ _ _ h6
    simp only [cells3] at r6
    obtain ⟨_, h7⟩ := hF 7 _ rfl
    obtain ⟨x7, r7⟩ := rd_int _ _ _ h7
    simp only [cells3] at r7
    obtain ⟨_, h8⟩ := hF 8 _ rfl
    obtain ⟨x8, r8⟩ := rd_int _ _ _ h8
    simp only [cells3] at r8
    obtain ⟨_, h9⟩ := hF 9 _ rfl
    obtain ⟨x9, r9⟩ := rd_int _ _ _ h9
    simp only [cells3] at r9
    obtain ⟨_, h10⟩ := hF 10 _ rfl
    obtain ⟨x10, r10⟩ := rd_int _ _ _ h10
    simp only [cells3] at r10
    refine ⟨⟨x0, x1, x2, x3, x4, x5, x6, x7, x8, x9, x10⟩, ?_⟩
    rw [DDeed.c_eq]
    exact RdCs.glue (o := 0) (n := 1) r0 rfl (RdCs.glue (o := 1) (n := 1) r1 rfl (RdCs.glue (o := 2) (n := 1) r2 rfl (RdCs.glue (o := 3) (n := 1) r3 rfl (RdCs.glue (o := 4) (n := 10) r4 rfl (RdCs.glue (o := 14) (n := 6) r5 rfl (RdCs.glue (o := 20) (n := 1) r6 rfl (RdCs.glue (o := 21) (n := 1) r7 rfl (RdCs.glue (o := 22) (n := 1) r8 rfl (RdCs.glue (o := 23) (n := 1) r9 rfl (RdCs.last (o := 24) (n := 1) r10 hl))))))))))
theorem cells34 : Try.prog.cellsOf 34 = 1 := by kernel_rfl
theorem rd_DeedS : ∀ (fuel : Nat) (cs : List Value) (y : DataW H × List MemPlace), DataW.trod enc Try.prog w 0 sp held fuel 34 cs = some y → ∃ xs : List DDeed, RdCs w cs [.sl (xs.map DDeed.c)] := fun fuel _ _ h => td_slice2 Try.underlying34 cells64 (fun x => DDeed.len x) (by omega) (fun fuel' _ => rd_Deed fuel') h
theorem cells25 : Try.prog.cellsOf 25 = 2 := by kernel_rfl
theorem DTable.len (d : DTable) : d.c.length = 2 := by rw [DTable.c_eq]; simp []
theorem rd_Table : ∀ (fuel : Nat) (cs : List Value) (y : DataW H × List MemPlace), DataW.trod enc Try.prog w 0 sp held fuel 25 cs = some y → ∃ x : DTable, RdCs w cs x.c := by
    intro fuel cs y h
    obtain ⟨fu, hfu, hl, hF⟩ := td_struct2 Try.underlying25 cells25 h
    obtain ⟨_, h0⟩ := hF 0 _ rfl
    obtain ⟨x0, r0⟩ := rd_intS _ _ _ h0
    simp only [cells22] at r0
    obtain ⟨_, h1⟩ := hF 1 _ rfl
    obtain ⟨x1, r1⟩ := rd_RowS _ _ _ h1
    simp only [cells23] at r1
    refine ⟨⟨x0, x1⟩, ?_⟩
    rw [DTable.c_eq]
    exact RdCs.glue (o := 0) (n := 1) r0 rfl (RdCs.last (o := 1) (n := 1) r1 hl)

end Go.Proofs.Ytlnaidkchbklcaa
