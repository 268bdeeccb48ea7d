/- What the laws' arguments read: by program (gen_data.py). -/
import Derived.Test.YthoeeoddgkjkkaaGreatDa
import Derived.Test.YthoeeoddgkjkkaaGreatTy
import Derived.Test.YthoeeoddgkjkkaaGreatVmX
namespace Go.Proofs.YthoeeoddgkjkkaaGreat
set_option linter.unusedSimpArgs false
set_option linter.unusedVariables false
open Go.Vm
set_option maxRecDepth 100000
variable {H:Type} {enc:TypeId×Value→H} {w:World} {sp:Nat→Bool} {held:Bool}
theorem cells3:Tryz.prog.cellsOf 3=1:=by kernel_rfl
theorem A7:∀ (fuel:Nat) (cs:List Value) (y:DataW H×List MemPlace),DataW.trod enc Tryz.prog w 0 sp held fuel 3 cs=some y→∃ x:Int,RdCs w cs [.v (.int .i64 x)]:=fun _ _ _ h=>mP Tryz.underlying3 h
theorem cells9:Tryz.prog.cellsOf 9=1:=by kernel_rfl
theorem jE:∀ (fuel:Nat) (cs:List Value) (y:DataW H×List MemPlace),DataW.trod enc Tryz.prog w 0 sp held fuel 9 cs=some y→∃ x:ByteArray,RdCs w cs [.v (.string x)]:=fun _ _ _ h=>jZ Tryz.underlying9 h
theorem cells4:Tryz.prog.cellsOf 4=1:=by kernel_rfl
theorem ed:∀ (fuel:Nat) (cs:List Value) (y:DataW H×List MemPlace),DataW.trod enc Tryz.prog w 0 sp held fuel 4 cs=some y→∃ x:Bool,RdCs w cs [.v (.bool x)]:=fun _ _ _ h=>pY Tryz.underlying4 h
theorem cells5:Tryz.prog.cellsOf 5=1:=by kernel_rfl
theorem nZ:∀ (fuel:Nat) (cs:List Value) (y:DataW H×List MemPlace),DataW.trod enc Tryz.prog w 0 sp held fuel 5 cs=some y→∃ x:Int,RdCs w cs [.v (.int .u8 x)]:=fun _ _ _ h=>mP Tryz.underlying5 h
theorem cells22:Tryz.prog.cellsOf 22=1:=by kernel_rfl
theorem SK:∀ (fuel:Nat) (cs:List Value) (y:DataW H×List MemPlace),DataW.trod enc Tryz.prog w 0 sp held fuel 22 cs=some y→∃ xs:List Int,RdCs w cs [.sl (xs.map intC)]:=fun fuel _ _ h=>Ed Tryz.underlying22 cells3 (fun _=>rfl) (by omega) (fun fuel' _=>A7 fuel') h
theorem ng:Tryz.prog.cellsOf 99=1:=by kernel_rfl
theorem kN:∀ (fuel:Nat) (cs:List Value) (y:DataW H×List MemPlace),DataW.trod enc Tryz.prog w 0 sp held fuel 99 cs=some y→∃ xs:List Int,RdCs w cs [.sl (xs.map byteC)]:=fun fuel _ _ h=>Ed Tryz.underlying99 cells5 (fun _=>rfl) (by omega) (fun fuel' _=>nZ fuel') h
theorem SL:Tryz.prog.cellsOf 65=3:=by kernel_rfl
theorem DVal.len (d:DVal):d.c.length=3:=by rw[DVal.c_eq]; simp[]
theorem bT:∀ (fuel:Nat) (cs:List Value) (y:DataW H×List MemPlace),DataW.trod enc Tryz.prog w 0 sp held fuel 65 cs=some y→∃ x:DVal,RdCs w cs x.c:=by
  intro fuel cs y h
  obtain⟨fu,hfu,hl,hF⟩:=CW Tryz.underlying65 SL h
  obtain⟨_,h0⟩:=hF 0 _ rfl
  obtain⟨x0,r0⟩:=A7 _ _ _ h0
  simp only[cells3] at r0
  obtain⟨_,h1⟩:=hF 1 _ rfl
  obtain⟨x1,r1⟩:=A7 _ _ _ h1
  simp only[cells3] at r1
  obtain⟨_,h2⟩:=hF 2 _ rfl
  obtain⟨x2,r2⟩:=jE _ _ _ h2
  simp only[cells9] at r2
  refine⟨⟨x0,x1,x2⟩, ?_⟩
  rw[DVal.c_eq]
  exact RdCs.glue (o:=0) (n:=1) r0 rfl (RdCs.glue (o:=1) (n:=1) r1 rfl (RdCs.last (o:=2) (n:=1) r2 hl))
theorem Oz:Tryz.prog.cellsOf 150=1:=by kernel_rfl
theorem SN:∀ (fuel:Nat) (cs:List Value) (y:DataW H×List MemPlace),DataW.trod enc Tryz.prog w 0 sp held fuel 150 cs=some y→∃ xs:List DVal,RdCs w cs [.sl (xs.map DVal.c)]:=fun fuel _ _ h=>Ed Tryz.underlying150 SL (fun x=>DVal.len x) (by omega) (fun fuel' _=>bT fuel') h
theorem Yz:Tryz.prog.cellsOf 228=2:=by kernel_rfl
theorem DRow.len (d:DRow):d.c.length=2:=by rw[DRow.c_eq]; simp[]
theorem sV:∀ (fuel:Nat) (cs:List Value) (y:DataW H×List MemPlace),DataW.trod enc Tryz.prog w 0 sp held fuel 228 cs=some y→∃ x:DRow,RdCs w cs x.c:=by
  intro fuel cs y h
  obtain⟨fu,hfu,hl,hF⟩:=CW Tryz.underlying228 Yz h
  obtain⟨_,h0⟩:=hF 0 _ rfl
  obtain⟨x0,r0⟩:=A7 _ _ _ h0
  simp only[cells3] at r0
  obtain⟨_,h1⟩:=hF 1 _ rfl
  obtain⟨x1,r1⟩:=SN _ _ _ h1
  simp only[Oz] at r1
  refine⟨⟨x0,x1⟩, ?_⟩
  rw[DRow.c_eq]
  exact RdCs.glue (o:=0) (n:=1) r0 rfl (RdCs.last (o:=1) (n:=1) r1 hl)
theorem Y0:Tryz.prog.cellsOf 151=1:=by kernel_rfl
theorem eu:∀ (fuel:Nat) (cs:List Value) (y:DataW H×List MemPlace),DataW.trod enc Tryz.prog w 0 sp held fuel 151 cs=some y→∃ xs:List DRow,RdCs w cs [.sl (xs.map DRow.c)]:=fun fuel _ _ h=>Ed Tryz.underlying151 Yz (fun x=>DRow.len x) (by omega) (fun fuel' _=>sV fuel') h
theorem cells68:Tryz.prog.cellsOf 68=7:=by kernel_rfl
theorem DPred.len (d:DPred):d.c.length=7:=by rw[DPred.c_eq]; simp[DVal.len]
theorem ni:Tryz.prog.cellsOf 66=1:=by kernel_rfl
theorem ny:∀ (fuel:Nat) (cs:List Value) (y:DataW H×List MemPlace),DataW.trod enc Tryz.prog w 0 sp held fuel 68 cs=some y→∃ x:DPred,RdCs w cs x.c:=by
 intro fuel
 induction fuel using Nat.strongRecOn with
 | ind fuel ih =>
  intro cs y h
  obtain⟨fu,hfu,hl,hF⟩:=CW Tryz.underlying68 cells68 h
  obtain⟨_,h0⟩:=hF 0 _ rfl
  obtain⟨x0,r0⟩:=A7 _ _ _ h0
  simp only[cells3] at r0
  obtain⟨_,h1⟩:=hF 1 _ rfl
  obtain⟨x1,r1⟩:=A7 _ _ _ h1
  simp only[cells3] at r1
  obtain⟨_,h2⟩:=hF 2 _ rfl
  obtain⟨x2,r2⟩:=A7 _ _ _ h2
  simp only[cells3] at r2
  obtain⟨_,h3⟩:=hF 3 _ rfl
  obtain⟨x3,r3⟩:=bT _ _ _ h3
  simp only[SL] at r3
  obtain⟨_,h4⟩:=hF 4 _ rfl
  obtain⟨x4,r4⟩:=Ed (f:=DPred.c) Tryz.underlying66 cells68 (fun x=>DPred.len x) (by omega) (fun fuel' hlt cs y h=>ih fuel' (by omega) cs y h) h4
  simp only[ni] at r4
  refine⟨.mk x0 x1 x2 x3 x4, ?_⟩
  rw[DPred.c_eq]
  exact RdCs.glue (o:=0) (n:=1) r0 rfl (RdCs.glue (o:=1) (n:=1) r1 rfl (RdCs.glue (o:=2) (n:=1) r2 rfl (RdCs.glue (o:=3) (n:=3) r3 rfl (RdCs.last (o:=6) (n:=1) r4 hl))))
theorem W9:Tryz.prog.cellsOf 70=10:=by kernel_rfl
theorem DQuery.len (d:DQuery):d.c.length=10:=by rw[DQuery.c_eq]; simp[DPred.len]
theorem TR:∀ (fuel:Nat) (cs:List Value) (y:DataW H×List MemPlace),DataW.trod enc Tryz.prog w 0 sp held fuel 70 cs=some y→∃ x:DQuery,RdCs w cs x.c:=by
  intro fuel cs y h
  obtain⟨fu,hfu,hl,hF⟩:=CW Tryz.underlying70 W9 h
  obtain⟨_,h0⟩:=hF 0 _ rfl
  obtain⟨x0,r0⟩:=A7 _ _ _ h0
  simp only[cells3] at r0
  obtain⟨_,h1⟩:=hF 1 _ rfl
  obtain⟨x1,r1⟩:=ny _ _ _ h1
  simp only[cells68] at r1
  obtain⟨_,h2⟩:=hF 2 _ rfl
  obtain⟨x2,r2⟩:=A7 _ _ _ h2
  simp only[cells3] at r2
  obtain⟨_,h3⟩:=hF 3 _ rfl
  obtain⟨x3,r3⟩:=SK _ _ _ h3
  simp only[cells22] at r3
  refine⟨⟨x0,x1,x2,x3⟩, ?_⟩
  rw[DQuery.c_eq]
  exact RdCs.glue (o:=0) (n:=1) r0 rfl (RdCs.glue (o:=1) (n:=7) r1 rfl (RdCs.glue (o:=8) (n:=1) r2 rfl (RdCs.last (o:=9) (n:=1) r3 hl)))
theorem Y1:Tryz.prog.cellsOf 156=6:=by kernel_rfl
theorem DResult.len (d:DResult):d.c.length=6:=by rw[DResult.c_eq]; simp[DVal.len]
theorem jF:∀ (fuel:Nat) (cs:List Value) (y:DataW H×List MemPlace),DataW.trod enc Tryz.prog w 0 sp held fuel 156 cs=some y→∃ x:DResult,RdCs w cs x.c:=by
  intro fuel cs y h
  obtain⟨fu,hfu,hl,hF⟩:=CW Tryz.underlying156 Y1 h
  obtain⟨_,h0⟩:=hF 0 _ rfl
  obtain⟨x0,r0⟩:=eu _ _ _ h0
  simp only[Y0] at r0
  obtain⟨_,h1⟩:=hF 1 _ rfl
  obtain⟨x1,r1⟩:=A7 _ _ _ h1
  simp only[cells3] at r1
  obtain⟨_,h2⟩:=hF 2 _ rfl
  obtain⟨x2,r2⟩:=ed _ _ _ h2
  simp only[cells4] at r2
  obtain⟨_,h3⟩:=hF 3 _ rfl
  obtain⟨x3,r3⟩:=bT _ _ _ h3
  simp only[SL] at r3
  refine⟨⟨x0,x1,x2,x3⟩, ?_⟩
  rw[DResult.c_eq]
  exact RdCs.glue (o:=0) (n:=1) r0 rfl (RdCs.glue (o:=1) (n:=1) r1 rfl (RdCs.glue (o:=2) (n:=1) r2 rfl (RdCs.last (o:=3) (n:=3) r3 hl)))
theorem Y2:Tryz.prog.cellsOf 243=2:=by kernel_rfl
theorem DSlot.len (d:DSlot):d.c.length=2:=by rw[DSlot.c_eq]; simp[]
theorem nz:∀ (fuel:Nat) (cs:List Value) (y:DataW H×List MemPlace),DataW.trod enc Tryz.prog w 0 sp held fuel 243 cs=some y→∃ x:DSlot,RdCs w cs x.c:=by
  intro fuel cs y h
  obtain⟨fu,hfu,hl,hF⟩:=CW Tryz.underlying243 Y2 h
  obtain⟨_,h0⟩:=hF 0 _ rfl
  obtain⟨x0,r0⟩:=A7 _ _ _ h0
  simp only[cells3] at r0
  obtain⟨_,h1⟩:=hF 1 _ rfl
  obtain⟨x1,r1⟩:=SN _ _ _ h1
  simp only[Oz] at r1
  refine⟨⟨x0,x1⟩, ?_⟩
  rw[DSlot.c_eq]
  exact RdCs.glue (o:=0) (n:=1) r0 rfl (RdCs.last (o:=1) (n:=1) r1 hl)
theorem kP:Tryz.prog.cellsOf 144=1:=by kernel_rfl
theorem kQ:∀ (fuel:Nat) (cs:List Value) (y:DataW H×List MemPlace),DataW.trod enc Tryz.prog w 0 sp held fuel 144 cs=some y→∃ xs:List DSlot,RdCs w cs [.sl (xs.map DSlot.c)]:=fun fuel _ _ h=>Ed Tryz.underlying144 Y2 (fun x=>DSlot.len x) (by omega) (fun fuel' _=>nz fuel') h
theorem Y3:Tryz.prog.cellsOf 146=2:=by kernel_rfl
theorem DChunk.len (d:DChunk):d.c.length=2:=by rw[DChunk.c_eq]; simp[]
theorem kR:∀ (fuel:Nat) (cs:List Value) (y:DataW H×List MemPlace),DataW.trod enc Tryz.prog w 0 sp held fuel 146 cs=some y→∃ x:DChunk,RdCs w cs x.c:=by
  intro fuel cs y h
  obtain⟨fu,hfu,hl,hF⟩:=CW Tryz.underlying146 Y3 h
  obtain⟨_,h0⟩:=hF 0 _ rfl
  obtain⟨x0,r0⟩:=A7 _ _ _ h0
  simp only[cells3] at r0
  obtain⟨_,h1⟩:=hF 1 _ rfl
  obtain⟨x1,r1⟩:=kQ _ _ _ h1
  simp only[kP] at r1
  refine⟨⟨x0,x1⟩, ?_⟩
  rw[DChunk.c_eq]
  exact RdCs.glue (o:=0) (n:=1) r0 rfl (RdCs.last (o:=1) (n:=1) r1 hl)
theorem Y4:Tryz.prog.cellsOf 148=5:=by kernel_rfl
theorem DBuf.len (d:DBuf):d.c.length=5:=by rw[DBuf.c_eq]; simp[DChunk.len]
theorem sW:∀ (fuel:Nat) (cs:List Value) (y:DataW H×List MemPlace),DataW.trod enc Tryz.prog w 0 sp held fuel 148 cs=some y→∃ x:DBuf,RdCs w cs x.c:=by
  intro fuel cs y h
  obtain⟨fu,hfu,hl,hF⟩:=CW Tryz.underlying148 Y4 h
  obtain⟨_,h0⟩:=hF 0 _ rfl
  obtain⟨x0,r0⟩:=A7 _ _ _ h0
  simp only[cells3] at r0
  obtain⟨_,h1⟩:=hF 1 _ rfl
  obtain⟨x1,r1⟩:=A7 _ _ _ h1
  simp only[cells3] at r1
  obtain⟨_,h2⟩:=hF 2 _ rfl
  obtain⟨x2,r2⟩:=kR _ _ _ h2
  simp only[Y3] at r2
  obtain⟨_,h3⟩:=hF 3 _ rfl
  obtain⟨x3,r3⟩:=kN _ _ _ h3
  simp only[ng] at r3
  refine⟨⟨x0,x1,x2,x3⟩, ?_⟩
  rw[DBuf.c_eq]
  exact RdCs.glue (o:=0) (n:=1) r0 rfl (RdCs.glue (o:=1) (n:=1) r1 rfl (RdCs.glue (o:=2) (n:=2) r2 rfl (RdCs.last (o:=4) (n:=1) r3 hl)))
theorem cells28:Tryz.prog.cellsOf 28=1:=by kernel_rfl
theorem n_:∀ (fuel:Nat) (cs:List Value) (y:DataW H×List MemPlace),DataW.trod enc Tryz.prog w 0 sp held fuel 28 cs=some y→∃ xs:List DBuf,RdCs w cs [.sl (xs.map DBuf.c)]:=fun fuel _ _ h=>Ed Tryz.underlying28 Y4 (fun x=>DBuf.len x) (by omega) (fun fuel' _=>sW fuel') h
theorem Y5:Tryz.prog.cellsOf 170=3:=by kernel_rfl
theorem DDead.len (d:DDead):d.c.length=3:=by rw[DDead.c_eq]; simp[]
theorem oC:∀ (fuel:Nat) (cs:List Value) (y:DataW H×List MemPlace),DataW.trod enc Tryz.prog w 0 sp held fuel 170 cs=some y→∃ x:DDead,RdCs w cs x.c:=by
  intro fuel cs y h
  obtain⟨fu,hfu,hl,hF⟩:=CW Tryz.underlying170 Y5 h
  obtain⟨_,h0⟩:=hF 0 _ rfl
  obtain⟨x0,r0⟩:=A7 _ _ _ h0
  simp only[cells3] at r0
  obtain⟨_,h1⟩:=hF 1 _ rfl
  obtain⟨x1,r1⟩:=A7 _ _ _ h1
  simp only[cells3] at r1
  obtain⟨_,h2⟩:=hF 2 _ rfl
  obtain⟨x2,r2⟩:=A7 _ _ _ h2
  simp only[cells3] at r2
  refine⟨⟨x0,x1,x2⟩, ?_⟩
  rw[DDead.c_eq]
  exact RdCs.glue (o:=0) (n:=1) r0 rfl (RdCs.glue (o:=1) (n:=1) r1 rfl (RdCs.last (o:=2) (n:=1) r2 hl))
theorem cells29:Tryz.prog.cellsOf 29=1:=by kernel_rfl
theorem kS:∀ (fuel:Nat) (cs:List Value) (y:DataW H×List MemPlace),DataW.trod enc Tryz.prog w 0 sp held fuel 29 cs=some y→∃ xs:List DDead,RdCs w cs [.sl (xs.map DDead.c)]:=fun fuel _ _ h=>Ed Tryz.underlying29 Y5 (fun x=>DDead.len x) (by omega) (fun fuel' _=>oC fuel') h
theorem cells53:Tryz.prog.cellsOf 53=5:=by kernel_rfl
theorem DRef.len (d:DRef):d.c.length=5:=by rw[DRef.c_eq]; simp[]
theorem sZ:∀ (fuel:Nat) (cs:List Value) (y:DataW H×List MemPlace),DataW.trod enc Tryz.prog w 0 sp held fuel 53 cs=some y→∃ x:DRef,RdCs w cs x.c:=by
  intro fuel cs y h
  obtain⟨fu,hfu,hl,hF⟩:=CW Tryz.underlying53 cells53 h
  obtain⟨_,h0⟩:=hF 0 _ rfl
  obtain⟨x0,r0⟩:=A7 _ _ _ h0
  simp only[cells3] at r0
  obtain⟨_,h1⟩:=hF 1 _ rfl
  obtain⟨x1,r1⟩:=A7 _ _ _ h1
  simp only[cells3] at r1
  obtain⟨_,h2⟩:=hF 2 _ rfl
  obtain⟨x2,r2⟩:=A7 _ _ _ h2
  simp only[cells3] at r2
  obtain⟨_,h3⟩:=hF 3 _ rfl
  obtain⟨x3,r3⟩:=A7 _ _ _ h3
  simp only[cells3] at r3
  obtain⟨_,h4⟩:=hF 4 _ rfl
  obtain⟨x4,r4⟩:=A7 _ _ _ h4
  simp only[cells3] at r4
  refine⟨⟨x0,x1,x2,x3,x4⟩, ?_⟩
  rw[DRef.c_eq]
  exact RdCs.glue (o:=0) (n:=1) r0 rfl (RdCs.glue (o:=1) (n:=1) r1 rfl (RdCs.glue (o:=2) (n:=1) r2 rfl (RdCs.glue (o:=3) (n:=1) r3 rfl (RdCs.last (o:=4) (n:=1) r4 hl))))
theorem cells25:Tryz.prog.cellsOf 25=1:=by kernel_rfl
theorem fA:∀ (fuel:Nat) (cs:List Value) (y:DataW H×List MemPlace),DataW.trod enc Tryz.prog w 0 sp held fuel 25 cs=some y→∃ xs:List DRef,RdCs w cs [.sl (xs.map DRef.c)]:=fun fuel _ _ h=>Ed Tryz.underlying25 cells53 (fun x=>DRef.len x) (by omega) (fun fuel' _=>sZ fuel') h
theorem cells27:Tryz.prog.cellsOf 27=2:=by kernel_rfl
theorem DDir.len (d:DDir):d.c.length=2:=by rw[DDir.c_eq]; simp[]
theorem su:∀ (fuel:Nat) (cs:List Value) (y:DataW H×List MemPlace),DataW.trod enc Tryz.prog w 0 sp held fuel 27 cs=some y→∃ x:DDir,RdCs w cs x.c:=by
  intro fuel cs y h
  obtain⟨fu,hfu,hl,hF⟩:=CW Tryz.underlying27 cells27 h
  obtain⟨_,h0⟩:=hF 0 _ rfl
  obtain⟨x0,r0⟩:=A7 _ _ _ h0
  simp only[cells3] at r0
  obtain⟨_,h1⟩:=hF 1 _ rfl
  obtain⟨x1,r1⟩:=fA _ _ _ h1
  simp only[cells25] at r1
  refine⟨⟨x0,x1⟩, ?_⟩
  rw[DDir.c_eq]
  exact RdCs.glue (o:=0) (n:=1) r0 rfl (RdCs.last (o:=1) (n:=1) r1 hl)
theorem Y6:Tryz.prog.cellsOf 153=25:=by kernel_rfl
theorem DTask.len (d:DTask):d.c.length=25:=by rw[DTask.c_eq]; simp[DQuery.len]
theorem oD:∀ (fuel:Nat) (cs:List Value) (y:DataW H×List MemPlace),DataW.trod enc Tryz.prog w 0 sp held fuel 153 cs=some y→∃ x:DTask,RdCs w cs x.c:=by
  intro fuel cs y h
  obtain⟨fu,hfu,hl,hF⟩:=CW Tryz.underlying153 Y6 h
  obtain⟨_,h0⟩:=hF 0 _ rfl
  obtain⟨x0,r0⟩:=A7 _ _ _ h0
  simp only[cells3] at r0
  obtain⟨_,h1⟩:=hF 1 _ rfl
  obtain⟨x1,r1⟩:=A7 _ _ _ h1
  simp only[cells3] at r1
  obtain⟨_,h2⟩:=hF 2 _ rfl
  obtain⟨x2,r2⟩:=A7 _ _ _ h2
  simp only[cells3] at r2
  obtain⟨_,h3⟩:=hF 3 _ rfl
  obtain⟨x3,r3⟩:=SN _ _ _ h3
  simp only[Oz] at r3
  obtain⟨_,h4⟩:=hF 4 _ rfl
  obtain⟨x4,r4⟩:=A7 _ _ _ h4
  simp only[cells3] at r4
  obtain⟨_,h5⟩:=hF 5 _ rfl
  obtain⟨x5,r5⟩:=TR _ _ _ h5
  simp only[W9] at r5
  obtain⟨_,h6⟩:=hF 6 _ rfl
  obtain⟨x6,r6⟩:=A7 _ _ _ h6
  simp only[cells3] at r6
  obtain⟨_,h7⟩:=hF 7 _ rfl
  obtain⟨x7,r7⟩:=A7 _ _ _ h7
  simp only[cells3] at r7
  obtain⟨_,h8⟩:=hF 8 _ rfl
  obtain⟨x8,r8⟩:=fA _ _ _ h8
  simp only[cells25] at r8
  obtain⟨_,h9⟩:=hF 9 _ rfl
  obtain⟨x9,r9⟩:=A7 _ _ _ h9
  simp only[cells3] at r9
  obtain⟨_,h10⟩:=hF 10 _ rfl
  obtain⟨x10,r10⟩:=A7 _ _ _ h10
  simp only[cells3] at r10
  obtain⟨_,h11⟩:=hF 11 _ rfl
  obtain⟨x11,r11⟩:=A7 _ _ _ h11
  simp only[cells3] at r11
  obtain⟨_,h12⟩:=hF 12 _ rfl
  obtain⟨x12,r12⟩:=A7 _ _ _ h12
  simp only[cells3] at r12
  obtain⟨_,h13⟩:=hF 13 _ rfl
  obtain⟨x13,r13⟩:=A7 _ _ _ h13
  simp only[cells3] at r13
  obtain⟨_,h14⟩:=hF 14 _ rfl
  obtain⟨x14,r14⟩:=ed _ _ _ h14
  simp only[cells4] at r14
  obtain⟨_,h15⟩:=hF 15 _ rfl
  obtain⟨x15,r15⟩:=eu _ _ _ h15
  simp only[Y0] at r15
  refine⟨⟨x0,x1,x2,x3,x4,x5,x6,x7,x8,x9,x10,x11,x12,x13,x14,x15⟩, ?_⟩
  rw[DTask.c_eq]
  exact RdCs.glue (o:=0) (n:=1) r0 rfl (RdCs.glue (o:=1) (n:=1) r1 rfl (RdCs.glue (o:=2) (n:=1) r2 rfl (RdCs.glue (o:=3) (n:=1) r3 rfl (RdCs.glue (o:=4) (n:=1) r4 rfl (RdCs.glue (o:=5) (n:=10) r5 rfl (RdCs.glue (o:=15) (n:=1) r6 rfl (RdCs.glue (o:=16) (n:=1) r7 rfl (RdCs.glue (o:=17) (n:=1) r8 rfl (RdCs.glue (o:=18) (n:=1) r9 rfl (RdCs.glue (o:=19) (n:=1) r10 rfl (RdCs.glue (o:=20) (n:=1) r11 rfl (RdCs.glue (o:=21) (n:=1) r12 rfl (RdCs.glue (o:=22) (n:=1) r13 rfl (RdCs.glue (o:=23) (n:=1) r14 rfl (RdCs.last (o:=24) (n:=1) r15 hl)))))))))))))))
theorem cells30:Tryz.prog.cellsOf 30=1:=by kernel_rfl
theorem kT:∀ (fuel:Nat) (cs:List Value) (y:DataW H×List MemPlace),DataW.trod enc Tryz.prog w 0 sp held fuel 30 cs=some y→∃ xs:List DTask,RdCs w cs [.sl (xs.map DTask.c)]:=fun fuel _ _ h=>Ed Tryz.underlying30 Y6 (fun x=>DTask.len x) (by omega) (fun fuel' _=>oD fuel') h
theorem Y7:Tryz.prog.cellsOf 158=25:=by kernel_rfl
theorem DDeed.len (d:DDeed):d.c.length=25:=by rw[DDeed.c_eq]; simp[DQuery.len,DResult.len]
theorem oG:∀ (fuel:Nat) (cs:List Value) (y:DataW H×List MemPlace),DataW.trod enc Tryz.prog w 0 sp held fuel 158 cs=some y→∃ x:DDeed,RdCs w cs x.c:=by
  intro fuel cs y h
  obtain⟨fu,hfu,hl,hF⟩:=CW Tryz.underlying158 Y7 h
  obtain⟨_,h0⟩:=hF 0 _ rfl
  obtain⟨x0,r0⟩:=A7 _ _ _ h0
  simp only[cells3] at r0
  obtain⟨_,h1⟩:=hF 1 _ rfl
  obtain⟨x1,r1⟩:=A7 _ _ _ h1
  simp only[cells3] at r1
  obtain⟨_,h2⟩:=hF 2 _ rfl
  obtain⟨x2,r2⟩:=SN _ _ _ h2
  simp only[Oz] at r2
  obtain⟨_,h3⟩:=hF 3 _ rfl
  obtain⟨x3,r3⟩:=A7 _ _ _ h3
  simp only[cells3] at r3
  obtain⟨_,h4⟩:=hF 4 _ rfl
  obtain⟨x4,r4⟩:=TR _ _ _ h4
  simp only[W9] at r4
  obtain⟨_,h5⟩:=hF 5 _ rfl
  obtain⟨x5,r5⟩:=jF _ _ _ h5
  simp only[Y1] at r5
  obtain⟨_,h6⟩:=hF 6 _ rfl
  obtain⟨x6,r6⟩:=A7 _ _ _ h6
  simp only[cells3] at r6
  obtain⟨_,h7⟩:=hF 7 _ rfl
  obtain⟨x7,r7⟩:=A7 _ _ _ h7
  simp only[cells3] at r7
  obtain⟨_,h8⟩:=hF 8 _ rfl
  obtain⟨x8,r8⟩:=A7 _ _ _ h8
  simp only[cells3] at r8
  obtain⟨_,h9⟩:=hF 9 _ rfl
  obtain⟨x9,r9⟩:=A7 _ _ _ h9
  simp only[cells3] at r9
  obtain⟨_,h10⟩:=hF 10 _ rfl
  obtain⟨x10,r10⟩:=A7 _ _ _ h10
  simp only[cells3] at r10
  refine⟨⟨x0,x1,x2,x3,x4,x5,x6,x7,x8,x9,x10⟩, ?_⟩
  rw[DDeed.c_eq]
  exact RdCs.glue (o:=0) (n:=1) r0 rfl (RdCs.glue (o:=1) (n:=1) r1 rfl (RdCs.glue (o:=2) (n:=1) r2 rfl (RdCs.glue (o:=3) (n:=1) r3 rfl (RdCs.glue (o:=4) (n:=10) r4 rfl (RdCs.glue (o:=14) (n:=6) r5 rfl (RdCs.glue (o:=20) (n:=1) r6 rfl (RdCs.glue (o:=21) (n:=1) r7 rfl (RdCs.glue (o:=22) (n:=1) r8 rfl (RdCs.glue (o:=23) (n:=1) r9 rfl (RdCs.last (o:=24) (n:=1) r10 hl))))))))))
theorem cells31:Tryz.prog.cellsOf 31=1:=by kernel_rfl
theorem kU:∀ (fuel:Nat) (cs:List Value) (y:DataW H×List MemPlace),DataW.trod enc Tryz.prog w 0 sp held fuel 31 cs=some y→∃ xs:List DDeed,RdCs w cs [.sl (xs.map DDeed.c)]:=fun fuel _ _ h=>Ed Tryz.underlying31 Y7 (fun x=>DDeed.len x) (by omega) (fun fuel' _=>oG fuel') h
theorem cells24:Tryz.prog.cellsOf 24=3:=by kernel_rfl
theorem DConf.len (d:DConf):d.c.length=3:=by rw[DConf.c_eq]; simp[]
theorem oH:∀ (fuel:Nat) (cs:List Value) (y:DataW H×List MemPlace),DataW.trod enc Tryz.prog w 0 sp held fuel 24 cs=some y→∃ x:DConf,RdCs w cs x.c:=by
  intro fuel cs y h
  obtain⟨fu,hfu,hl,hF⟩:=CW Tryz.underlying24 cells24 h
  obtain⟨_,h0⟩:=hF 0 _ rfl
  obtain⟨x0,r0⟩:=SK _ _ _ h0
  simp only[cells22] at r0
  obtain⟨_,h1⟩:=hF 1 _ rfl
  obtain⟨x1,r1⟩:=A7 _ _ _ h1
  simp only[cells3] at r1
  obtain⟨_,h2⟩:=hF 2 _ rfl
  obtain⟨x2,r2⟩:=A7 _ _ _ h2
  simp only[cells3] at r2
  refine⟨⟨x0,x1,x2⟩, ?_⟩
  rw[DConf.c_eq]
  exact RdCs.glue (o:=0) (n:=1) r0 rfl (RdCs.glue (o:=1) (n:=1) r1 rfl (RdCs.last (o:=2) (n:=1) r2 hl))
theorem cells33:Tryz.prog.cellsOf 33=14:=by kernel_rfl
theorem DWorld.len (d:DWorld):d.c.length=14:=by rw[DWorld.c_eq]; simp[DConf.len,DDir.len]
theorem kV:∀ (fuel:Nat) (cs:List Value) (y:DataW H×List MemPlace),DataW.trod enc Tryz.prog w 0 sp held fuel 33 cs=some y→∃ x:DWorld,RdCs w cs x.c:=by
  intro fuel cs y h
  obtain⟨fu,hfu,hl,hF⟩:=CW Tryz.underlying33 cells33 h
  obtain⟨_,h0⟩:=hF 0 _ rfl
  obtain⟨x0,r0⟩:=oH _ _ _ h0
  simp only[cells24] at r0
  obtain⟨_,h1⟩:=hF 1 _ rfl
  obtain⟨x1,r1⟩:=A7 _ _ _ h1
  simp only[cells3] at r1
  obtain⟨_,h2⟩:=hF 2 _ rfl
  obtain⟨x2,r2⟩:=A7 _ _ _ h2
  simp only[cells3] at r2
  obtain⟨_,h3⟩:=hF 3 _ rfl
  obtain⟨x3,r3⟩:=A7 _ _ _ h3
  simp only[cells3] at r3
  obtain⟨_,h4⟩:=hF 4 _ rfl
  obtain⟨x4,r4⟩:=su _ _ _ h4
  simp only[cells27] at r4
  obtain⟨_,h5⟩:=hF 5 _ rfl
  obtain⟨x5,r5⟩:=n_ _ _ _ h5
  simp only[cells28] at r5
  obtain⟨_,h6⟩:=hF 6 _ rfl
  obtain⟨x6,r6⟩:=SK _ _ _ h6
  simp only[cells22] at r6
  obtain⟨_,h7⟩:=hF 7 _ rfl
  obtain⟨x7,r7⟩:=kS _ _ _ h7
  simp only[cells29] at r7
  obtain⟨_,h8⟩:=hF 8 _ rfl
  obtain⟨x8,r8⟩:=SK _ _ _ h8
  simp only[cells22] at r8
  obtain⟨_,h9⟩:=hF 9 _ rfl
  obtain⟨x9,r9⟩:=kT _ _ _ h9
  simp only[cells30] at r9
  obtain⟨_,h10⟩:=hF 10 _ rfl
  obtain⟨x10,r10⟩:=kU _ _ _ h10
  simp only[cells31] at r10
  refine⟨⟨x0,x1,x2,x3,x4,x5,x6,x7,x8,x9,x10⟩, ?_⟩
  rw[DWorld.c_eq]
  exact RdCs.glue (o:=0) (n:=3) r0 rfl (RdCs.glue (o:=3) (n:=1) r1 rfl (RdCs.glue (o:=4) (n:=1) r2 rfl (RdCs.glue (o:=5) (n:=1) r3 rfl (RdCs.glue (o:=6) (n:=2) r4 rfl (RdCs.glue (o:=8) (n:=1) r5 rfl (RdCs.glue (o:=9) (n:=1) r6 rfl (RdCs.glue (o:=10) (n:=1) r7 rfl (RdCs.glue (o:=11) (n:=1) r8 rfl (RdCs.glue (o:=12) (n:=1) r9 rfl (RdCs.last (o:=13) (n:=1) r10 hl))))))))))
end Go.Proofs.YthoeeoddgkjkkaaGreat
