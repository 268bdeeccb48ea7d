/- A part. -/
import Derived.Test.YtnchiiikacemmaaGreatDa
import Derived.Test.YtnchiiikacemmaaGreatTy
import Derived.Test.YtnchiiikacemmaaGreatVmX
set_option linter.unusedSimpArgs false
set_option linter.unusedVariables false
set_option maxRecDepth 100000
open Go.Proofs.Tryz
namespace Go.Proofs.YtnchiiikacemmaaGreat
open Go.Vm
variable {H:Type} {enc:TypeId×Value→H} {w:World} {sp:Nat→Bool} {held:Bool}
theorem cells3:prog.cellsOf 3=1:=by kernel_rfl
theorem BO:∀ (fuel:Nat) (cs:List Value) (y:DataW H×List MemPlace),DataW.trod enc prog w 0 sp held fuel 3 cs=some y→∃ x:Int,RdCs w cs [.v (.int .i64 x)]:=fun _ _ _ h=>ABq underlying3 h
theorem cells9:prog.cellsOf 9=1:=by kernel_rfl
theorem yz:∀ (fuel:Nat) (cs:List Value) (y:DataW H×List MemPlace),DataW.trod enc prog w 0 sp held fuel 9 cs=some y→∃ x:ByteArray,RdCs w cs [.v (.string x)]:=fun _ _ _ h=>zn underlying9 h
theorem cells4:prog.cellsOf 4=1:=by kernel_rfl
theorem wQ:∀ (fuel:Nat) (cs:List Value) (y:DataW H×List MemPlace),DataW.trod enc prog w 0 sp held fuel 4 cs=some y→∃ x:Bool,RdCs w cs [.v (.bool x)]:=fun _ _ _ h=>ADR underlying4 h
theorem cells5:prog.cellsOf 5=1:=by kernel_rfl
theorem ACX:∀ (fuel:Nat) (cs:List Value) (y:DataW H×List MemPlace),DataW.trod enc prog w 0 sp held fuel 5 cs=some y→∃ x:Int,RdCs w cs [.v (.int .u8 x)]:=fun _ _ _ h=>ABq underlying5 h
theorem cells22:prog.cellsOf 22=1:=by kernel_rfl
theorem XG:∀ (fuel:Nat) (cs:List Value) (y:DataW H×List MemPlace),DataW.trod enc prog w 0 sp held fuel 22 cs=some y→∃ xs:List Int,RdCs w cs [.sl (xs.map intC)]:=fun fuel _ _ h=>Fe underlying22 cells3 (fun _=>rfl) (by omega) (fun fuel' _=>BO fuel') h
theorem ACY:prog.cellsOf 87=1:=by kernel_rfl
theorem AAu:∀ (fuel:Nat) (cs:List Value) (y:DataW H×List MemPlace),DataW.trod enc prog w 0 sp held fuel 87 cs=some y→∃ xs:List Int,RdCs w cs [.sl (xs.map byteC)]:=fun fuel _ _ h=>Fe underlying87 cells5 (fun _=>rfl) (by omega) (fun fuel' _=>ACX fuel') h
theorem XH:prog.cellsOf 93=3:=by kernel_rfl
theorem DVal.len (d:DVal):d.c.length=3:=by rw[DVal.c_eq]; simp
theorem tZ:∀ (fuel:Nat) (cs:List Value) (y:DataW H×List MemPlace),DataW.trod enc prog w 0 sp held fuel 93 cs=some y→∃ x:DVal,RdCs w cs x.c:=by
  intro fuel cs y h
  obtain⟨fu,hfu,hl,hF⟩:=DV underlying93 XH h
  obtain⟨_,h0⟩:=hF 0 _ rfl
  obtain⟨x0,r0⟩:=BO _ _ _ h0
  simp only[cells3] at r0
  obtain⟨_,h1⟩:=hF 1 _ rfl
  obtain⟨x1,r1⟩:=BO _ _ _ h1
  simp only[cells3] at r1
  obtain⟨_,h2⟩:=hF 2 _ rfl
  obtain⟨x2,r2⟩:=yz _ _ _ h2
  simp only[cells9] at r2
  refine⟨⟨x0,x1,x2⟩, ?_⟩
  rw[DVal.c_eq]
  exact RdCs.glue (o:=0) (n:=1) r0 rfl (RdCs.glue (o:=1) (n:=1) r1 rfl (RdCs.last (o:=2) (n:=1) r2 hl))
theorem XI:prog.cellsOf 91=1:=by kernel_rfl
theorem XJ:∀ (fuel:Nat) (cs:List Value) (y:DataW H×List MemPlace),DataW.trod enc prog w 0 sp held fuel 91 cs=some y→∃ xs:List DVal,RdCs w cs [.sl (xs.map DVal.c)]:=fun fuel _ _ h=>Fe underlying91 XH (fun x=>DVal.len x) (by omega) (fun fuel' _=>tZ fuel') h
theorem nR:prog.cellsOf 212=2:=by kernel_rfl
theorem DRow.len (d:DRow):d.c.length=2:=by rw[DRow.c_eq]; simp
theorem AER:∀ (fuel:Nat) (cs:List Value) (y:DataW H×List MemPlace),DataW.trod enc prog w 0 sp held fuel 212 cs=some y→∃ x:DRow,RdCs w cs x.c:=by
  intro fuel cs y h
  obtain⟨fu,hfu,hl,hF⟩:=DV underlying212 nR h
  obtain⟨_,h0⟩:=hF 0 _ rfl
  obtain⟨x0,r0⟩:=BO _ _ _ h0
  simp only[cells3] at r0
  obtain⟨_,h1⟩:=hF 1 _ rfl
  obtain⟨x1,r1⟩:=XJ _ _ _ h1
  simp only[XI] at r1
  refine⟨⟨x0,x1⟩, ?_⟩
  rw[DRow.c_eq]
  exact RdCs.glue (o:=0) (n:=1) r0 rfl (RdCs.last (o:=1) (n:=1) r1 hl)
theorem wR:prog.cellsOf 99=1:=by kernel_rfl
theorem wS:∀ (fuel:Nat) (cs:List Value) (y:DataW H×List MemPlace),DataW.trod enc prog w 0 sp held fuel 99 cs=some y→∃ xs:List DRow,RdCs w cs [.sl (xs.map DRow.c)]:=fun fuel _ _ h=>Fe underlying99 nR (fun x=>DRow.len x) (by omega) (fun fuel' _=>AER fuel') h
theorem iZ:prog.cellsOf 96=7:=by kernel_rfl
theorem DPred.len (d:DPred):d.c.length=7:=by rw[DPred.c_eq]; simp[DVal.len]
theorem ACZ:prog.cellsOf 94=1:=by kernel_rfl
theorem ACa:∀ (fuel:Nat) (cs:List Value) (y:DataW H×List MemPlace),DataW.trod enc prog w 0 sp held fuel 96 cs=some y→∃ x:DPred,RdCs w cs x.c:=by
 intro fuel
 induction fuel using Nat.strongRecOn with
 | ind fuel ih =>
  intro cs y h
  obtain⟨fu,hfu,hl,hF⟩:=DV underlying96 iZ h
  obtain⟨_,h0⟩:=hF 0 _ rfl
  obtain⟨x0,r0⟩:=BO _ _ _ h0
  simp only[cells3] at r0
  obtain⟨_,h1⟩:=hF 1 _ rfl
  obtain⟨x1,r1⟩:=BO _ _ _ h1
  simp only[cells3] at r1
  obtain⟨_,h2⟩:=hF 2 _ rfl
  obtain⟨x2,r2⟩:=BO _ _ _ h2
  simp only[cells3] at r2
  obtain⟨_,h3⟩:=hF 3 _ rfl
  obtain⟨x3,r3⟩:=tZ _ _ _ h3
  simp only[XH] at r3
  obtain⟨_,h4⟩:=hF 4 _ rfl
  obtain⟨x4,r4⟩:=Fe (f:=DPred.c) underlying94 iZ (fun x=>DPred.len x) (by omega) (fun fuel' hlt cs y h=>ih fuel' (by omega) cs y h) h4
  simp only[ACZ] at r4
  refine⟨.mk x0 x1 x2 x3 x4, ?_⟩
  rw[DPred.c_eq]
  exact RdCs.glue (o:=0) (n:=1) r0 rfl (RdCs.glue (o:=1) (n:=1) r1 rfl (RdCs.glue (o:=2) (n:=1) r2 rfl (RdCs.glue (o:=3) (n:=3) r3 rfl (RdCs.last (o:=6) (n:=1) r4 hl))))
theorem ig:prog.cellsOf 98=10:=by kernel_rfl
theorem DQuery.len (d:DQuery):d.c.length=10:=by rw[DQuery.c_eq]; simp[DPred.len]
theorem nS:∀ (fuel:Nat) (cs:List Value) (y:DataW H×List MemPlace),DataW.trod enc prog w 0 sp held fuel 98 cs=some y→∃ x:DQuery,RdCs w cs x.c:=by
  intro fuel cs y h
  obtain⟨fu,hfu,hl,hF⟩:=DV underlying98 ig h
  obtain⟨_,h0⟩:=hF 0 _ rfl
  obtain⟨x0,r0⟩:=BO _ _ _ h0
  simp only[cells3] at r0
  obtain⟨_,h1⟩:=hF 1 _ rfl
  obtain⟨x1,r1⟩:=ACa _ _ _ h1
  simp only[iZ] at r1
  obtain⟨_,h2⟩:=hF 2 _ rfl
  obtain⟨x2,r2⟩:=BO _ _ _ h2
  simp only[cells3] at r2
  obtain⟨_,h3⟩:=hF 3 _ rfl
  obtain⟨x3,r3⟩:=XG _ _ _ h3
  simp only[cells22] at r3
  refine⟨⟨x0,x1,x2,x3⟩, ?_⟩
  rw[DQuery.c_eq]
  exact RdCs.glue (o:=0) (n:=1) r0 rfl (RdCs.glue (o:=1) (n:=7) r1 rfl (RdCs.glue (o:=8) (n:=1) r2 rfl (RdCs.last (o:=9) (n:=1) r3 hl)))
theorem nT:prog.cellsOf 104=6:=by kernel_rfl
theorem DResult.len (d:DResult):d.c.length=6:=by rw[DResult.c_eq]; simp[DVal.len]
theorem y7:∀ (fuel:Nat) (cs:List Value) (y:DataW H×List MemPlace),DataW.trod enc prog w 0 sp held fuel 104 cs=some y→∃ x:DResult,RdCs w cs x.c:=by
  intro fuel cs y h
  obtain⟨fu,hfu,hl,hF⟩:=DV underlying104 nT h
  obtain⟨_,h0⟩:=hF 0 _ rfl
  obtain⟨x0,r0⟩:=wS _ _ _ h0
  simp only[wR] at r0
  obtain⟨_,h1⟩:=hF 1 _ rfl
  obtain⟨x1,r1⟩:=BO _ _ _ h1
  simp only[cells3] at r1
  obtain⟨_,h2⟩:=hF 2 _ rfl
  obtain⟨x2,r2⟩:=wQ _ _ _ h2
  simp only[cells4] at r2
  obtain⟨_,h3⟩:=hF 3 _ rfl
  obtain⟨x3,r3⟩:=tZ _ _ _ h3
  simp only[XH] at r3
  refine⟨⟨x0,x1,x2,x3⟩, ?_⟩
  rw[DResult.c_eq]
  exact RdCs.glue (o:=0) (n:=1) r0 rfl (RdCs.glue (o:=1) (n:=1) r1 rfl (RdCs.glue (o:=2) (n:=1) r2 rfl (RdCs.last (o:=3) (n:=3) r3 hl)))
theorem nU:prog.cellsOf 235=2:=by kernel_rfl
theorem DSlot.len (d:DSlot):d.c.length=2:=by rw[DSlot.c_eq]; simp
theorem ACb:∀ (fuel:Nat) (cs:List Value) (y:DataW H×List MemPlace),DataW.trod enc prog w 0 sp held fuel 235 cs=some y→∃ x:DSlot,RdCs w cs x.c:=by
  intro fuel cs y h
  obtain⟨fu,hfu,hl,hF⟩:=DV underlying235 nU h
  obtain⟨_,h0⟩:=hF 0 _ rfl
  obtain⟨x0,r0⟩:=BO _ _ _ h0
  simp only[cells3] at r0
  obtain⟨_,h1⟩:=hF 1 _ rfl
  obtain⟨x1,r1⟩:=XJ _ _ _ h1
  simp only[XI] at r1
  refine⟨⟨x0,x1⟩, ?_⟩
  rw[DSlot.c_eq]
  exact RdCs.glue (o:=0) (n:=1) r0 rfl (RdCs.last (o:=1) (n:=1) r1 hl)
theorem ACc:prog.cellsOf 84=1:=by kernel_rfl
theorem AAv:∀ (fuel:Nat) (cs:List Value) (y:DataW H×List MemPlace),DataW.trod enc prog w 0 sp held fuel 84 cs=some y→∃ xs:List DSlot,RdCs w cs [.sl (xs.map DSlot.c)]:=fun fuel _ _ h=>Fe underlying84 nU (fun x=>DSlot.len x) (by omega) (fun fuel' _=>ACb fuel') h
theorem cells86:prog.cellsOf 86=2:=by kernel_rfl
theorem DChunk.len (d:DChunk):d.c.length=2:=by rw[DChunk.c_eq]; simp
theorem AAw:∀ (fuel:Nat) (cs:List Value) (y:DataW H×List MemPlace),DataW.trod enc prog w 0 sp held fuel 86 cs=some y→∃ x:DChunk,RdCs w cs x.c:=by
  intro fuel cs y h
  obtain⟨fu,hfu,hl,hF⟩:=DV underlying86 cells86 h
  obtain⟨_,h0⟩:=hF 0 _ rfl
  obtain⟨x0,r0⟩:=BO _ _ _ h0
  simp only[cells3] at r0
  obtain⟨_,h1⟩:=hF 1 _ rfl
  obtain⟨x1,r1⟩:=AAv _ _ _ h1
  simp only[ACc] at r1
  refine⟨⟨x0,x1⟩, ?_⟩
  rw[DChunk.c_eq]
  exact RdCs.glue (o:=0) (n:=1) r0 rfl (RdCs.last (o:=1) (n:=1) r1 hl)
theorem wU:prog.cellsOf 89=5:=by kernel_rfl
theorem DBuf.len (d:DBuf):d.c.length=5:=by rw[DBuf.c_eq]; simp[DChunk.len]
theorem AES:∀ (fuel:Nat) (cs:List Value) (y:DataW H×List MemPlace),DataW.trod enc prog w 0 sp held fuel 89 cs=some y→∃ x:DBuf,RdCs w cs x.c:=by
  intro fuel cs y h
  obtain⟨fu,hfu,hl,hF⟩:=DV underlying89 wU h
  obtain⟨_,h0⟩:=hF 0 _ rfl
  obtain⟨x0,r0⟩:=BO _ _ _ h0
  simp only[cells3] at r0
  obtain⟨_,h1⟩:=hF 1 _ rfl
  obtain⟨x1,r1⟩:=BO _ _ _ h1
  simp only[cells3] at r1
  obtain⟨_,h2⟩:=hF 2 _ rfl
  obtain⟨x2,r2⟩:=AAw _ _ _ h2
  simp only[cells86] at r2
  obtain⟨_,h3⟩:=hF 3 _ rfl
  obtain⟨x3,r3⟩:=AAu _ _ _ h3
  simp only[ACY] at r3
  refine⟨⟨x0,x1,x2,x3⟩, ?_⟩
  rw[DBuf.c_eq]
  exact RdCs.glue (o:=0) (n:=1) r0 rfl (RdCs.glue (o:=1) (n:=1) r1 rfl (RdCs.glue (o:=2) (n:=2) r2 rfl (RdCs.last (o:=4) (n:=1) r3 hl)))
theorem cells28:prog.cellsOf 28=1:=by kernel_rfl
theorem ACd:∀ (fuel:Nat) (cs:List Value) (y:DataW H×List MemPlace),DataW.trod enc prog w 0 sp held fuel 28 cs=some y→∃ xs:List DBuf,RdCs w cs [.sl (xs.map DBuf.c)]:=fun fuel _ _ h=>Fe underlying28 wU (fun x=>DBuf.len x) (by omega) (fun fuel' _=>AES fuel') h
theorem nV:prog.cellsOf 117=3:=by kernel_rfl
theorem DDead.len (d:DDead):d.c.length=3:=by rw[DDead.c_eq]; simp
theorem ACe:∀ (fuel:Nat) (cs:List Value) (y:DataW H×List MemPlace),DataW.trod enc prog w 0 sp held fuel 117 cs=some y→∃ x:DDead,RdCs w cs x.c:=by
  intro fuel cs y h
  obtain⟨fu,hfu,hl,hF⟩:=DV underlying117 nV h
  obtain⟨_,h0⟩:=hF 0 _ rfl
  obtain⟨x0,r0⟩:=BO _ _ _ h0
  simp only[cells3] at r0
  obtain⟨_,h1⟩:=hF 1 _ rfl
  obtain⟨x1,r1⟩:=BO _ _ _ h1
  simp only[cells3] at r1
  obtain⟨_,h2⟩:=hF 2 _ rfl
  obtain⟨x2,r2⟩:=BO _ _ _ h2
  simp only[cells3] at r2
  refine⟨⟨x0,x1,x2⟩, ?_⟩
  rw[DDead.c_eq]
  exact RdCs.glue (o:=0) (n:=1) r0 rfl (RdCs.glue (o:=1) (n:=1) r1 rfl (RdCs.last (o:=2) (n:=1) r2 hl))
theorem cells29:prog.cellsOf 29=1:=by kernel_rfl
theorem AAx:∀ (fuel:Nat) (cs:List Value) (y:DataW H×List MemPlace),DataW.trod enc prog w 0 sp held fuel 29 cs=some y→∃ xs:List DDead,RdCs w cs [.sl (xs.map DDead.c)]:=fun fuel _ _ h=>Fe underlying29 nV (fun x=>DDead.len x) (by omega) (fun fuel' _=>ACe fuel') h
theorem nX:prog.cellsOf 167=5:=by kernel_rfl
theorem DRef.len (d:DRef):d.c.length=5:=by rw[DRef.c_eq]; simp
theorem AET:∀ (fuel:Nat) (cs:List Value) (y:DataW H×List MemPlace),DataW.trod enc prog w 0 sp held fuel 167 cs=some y→∃ x:DRef,RdCs w cs x.c:=by
  intro fuel cs y h
  obtain⟨fu,hfu,hl,hF⟩:=DV underlying167 nX h
  obtain⟨_,h0⟩:=hF 0 _ rfl
  obtain⟨x0,r0⟩:=BO _ _ _ h0
  simp only[cells3] at r0
  obtain⟨_,h1⟩:=hF 1 _ rfl
  obtain⟨x1,r1⟩:=BO _ _ _ h1
  simp only[cells3] at r1
  obtain⟨_,h2⟩:=hF 2 _ rfl
  obtain⟨x2,r2⟩:=BO _ _ _ h2
  simp only[cells3] at r2
  obtain⟨_,h3⟩:=hF 3 _ rfl
  obtain⟨x3,r3⟩:=BO _ _ _ h3
  simp only[cells3] at r3
  obtain⟨_,h4⟩:=hF 4 _ rfl
  obtain⟨x4,r4⟩:=BO _ _ _ h4
  simp only[cells3] at r4
  refine⟨⟨x0,x1,x2,x3,x4⟩, ?_⟩
  rw[DRef.c_eq]
  exact RdCs.glue (o:=0) (n:=1) r0 rfl (RdCs.glue (o:=1) (n:=1) r1 rfl (RdCs.glue (o:=2) (n:=1) r2 rfl (RdCs.glue (o:=3) (n:=1) r3 rfl (RdCs.last (o:=4) (n:=1) r4 hl))))
theorem cells25:prog.cellsOf 25=1:=by kernel_rfl
theorem wV:∀ (fuel:Nat) (cs:List Value) (y:DataW H×List MemPlace),DataW.trod enc prog w 0 sp held fuel 25 cs=some y→∃ xs:List DRef,RdCs w cs [.sl (xs.map DRef.c)]:=fun fuel _ _ h=>Fe underlying25 nX (fun x=>DRef.len x) (by omega) (fun fuel' _=>AET fuel') h
theorem cells27:prog.cellsOf 27=2:=by kernel_rfl
theorem DDir.len (d:DDir):d.c.length=2:=by rw[DDir.c_eq]; simp
theorem AEU:∀ (fuel:Nat) (cs:List Value) (y:DataW H×List MemPlace),DataW.trod enc prog w 0 sp held fuel 27 cs=some y→∃ x:DDir,RdCs w cs x.c:=by
  intro fuel cs y h
  obtain⟨fu,hfu,hl,hF⟩:=DV underlying27 cells27 h
  obtain⟨_,h0⟩:=hF 0 _ rfl
  obtain⟨x0,r0⟩:=BO _ _ _ h0
  simp only[cells3] at r0
  obtain⟨_,h1⟩:=hF 1 _ rfl
  obtain⟨x1,r1⟩:=wV _ _ _ h1
  simp only[cells25] at r1
  refine⟨⟨x0,x1⟩, ?_⟩
  rw[DDir.c_eq]
  exact RdCs.glue (o:=0) (n:=1) r0 rfl (RdCs.last (o:=1) (n:=1) r1 hl)
theorem nY:prog.cellsOf 101=25:=by kernel_rfl
theorem DTask.len (d:DTask):d.c.length=25:=by rw[DTask.c_eq]; simp[DQuery.len]
theorem ACf:∀ (fuel:Nat) (cs:List Value) (y:DataW H×List MemPlace),DataW.trod enc prog w 0 sp held fuel 101 cs=some y→∃ x:DTask,RdCs w cs x.c:=by
  intro fuel cs y h
  obtain⟨fu,hfu,hl,hF⟩:=DV underlying101 nY h
  obtain⟨_,h0⟩:=hF 0 _ rfl
  obtain⟨x0,r0⟩:=BO _ _ _ h0
  simp only[cells3] at r0
  obtain⟨_,h1⟩:=hF 1 _ rfl
  obtain⟨x1,r1⟩:=BO _ _ _ h1
  simp only[cells3] at r1
  obtain⟨_,h2⟩:=hF 2 _ rfl
  obtain⟨x2,r2⟩:=BO _ _ _ h2
  simp only[cells3] at r2
  obtain⟨_,h3⟩:=hF 3 _ rfl
  obtain⟨x3,r3⟩:=XJ _ _ _ h3
  simp only[XI] at r3
  obtain⟨_,h4⟩:=hF 4 _ rfl
  obtain⟨x4,r4⟩:=BO _ _ _ h4
  simp only[cells3] at r4
  obtain⟨_,h5⟩:=hF 5 _ rfl
  obtain⟨x5,r5⟩:=nS _ _ _ h5
  simp only[ig] at r5
  obtain⟨_,h6⟩:=hF 6 _ rfl
  obtain⟨x6,r6⟩:=BO _ _ _ h6
  simp only[cells3] at r6
  obtain⟨_,h7⟩:=hF 7 _ rfl
  obtain⟨x7,r7⟩:=BO _ _ _ h7
  simp only[cells3] at r7
  obtain⟨_,h8⟩:=hF 8 _ rfl
  obtain⟨x8,r8⟩:=wV _ _ _ h8
  simp only[cells25] at r8
  obtain⟨_,h9⟩:=hF 9 _ rfl
  obtain⟨x9,r9⟩:=BO _ _ _ h9
  simp only[cells3] at r9
  obtain⟨_,h10⟩:=hF 10 _ rfl
  obtain⟨x10,r10⟩:=BO _ _ _ h10
  simp only[cells3] at r10
  obtain⟨_,h11⟩:=hF 11 _ rfl
  obtain⟨x11,r11⟩:=BO _ _ _ h11
  simp only[cells3] at r11
  obtain⟨_,h12⟩:=hF 12 _ rfl
  obtain⟨x12,r12⟩:=BO _ _ _ h12
  simp only[cells3] at r12
  obtain⟨_,h13⟩:=hF 13 _ rfl
  obtain⟨x13,r13⟩:=BO _ _ _ h13
  simp only[cells3] at r13
  obtain⟨_,h14⟩:=hF 14 _ rfl
  obtain⟨x14,r14⟩:=wQ _ _ _ h14
  simp only[cells4] at r14
  obtain⟨_,h15⟩:=hF 15 _ rfl
  obtain⟨x15,r15⟩:=wS _ _ _ h15
  simp only[wR] at r15
  refine⟨⟨x0,x1,x2,x3,x4,x5,x6,x7,x8,x9,x10,x11,x12,x13,x14,x15⟩, ?_⟩
  rw[DTask.c_eq]
  exact RdCs.glue (o:=0) (n:=1) r0 rfl (RdCs.glue (o:=1) (n:=1) r1 rfl (RdCs.glue (o:=2) (n:=1) r2 rfl (RdCs.glue (o:=3) (n:=1) r3 rfl (RdCs.glue (o:=4) (n:=1) r4 rfl (RdCs.glue (o:=5) (n:=10) r5 rfl (RdCs.glue (o:=15) (n:=1) r6 rfl (RdCs.glue (o:=16) (n:=1) r7 rfl (RdCs.glue (o:=17) (n:=1) r8 rfl (RdCs.glue (o:=18) (n:=1) r9 rfl (RdCs.glue (o:=19) (n:=1) r10 rfl (RdCs.glue (o:=20) (n:=1) r11 rfl (RdCs.glue (o:=21) (n:=1) r12 rfl (RdCs.glue (o:=22) (n:=1) r13 rfl (RdCs.glue (o:=23) (n:=1) r14 rfl (RdCs.last (o:=24) (n:=1) r15 hl)))))))))))))))
theorem cells30:prog.cellsOf 30=1:=by kernel_rfl
theorem AAy:∀ (fuel:Nat) (cs:List Value) (y:DataW H×List MemPlace),DataW.trod enc prog w 0 sp held fuel 30 cs=some y→∃ xs:List DTask,RdCs w cs [.sl (xs.map DTask.c)]:=fun fuel _ _ h=>Fe underlying30 nY (fun x=>DTask.len x) (by omega) (fun fuel' _=>ACf fuel') h
theorem nZ:prog.cellsOf 106=25:=by kernel_rfl
theorem DDeed.len (d:DDeed):d.c.length=25:=by rw[DDeed.c_eq]; simp[DQuery.len,DResult.len]
theorem ACg:∀ (fuel:Nat) (cs:List Value) (y:DataW H×List MemPlace),DataW.trod enc prog w 0 sp held fuel 106 cs=some y→∃ x:DDeed,RdCs w cs x.c:=by
  intro fuel cs y h
  obtain⟨fu,hfu,hl,hF⟩:=DV underlying106 nZ h
  obtain⟨_,h0⟩:=hF 0 _ rfl
  obtain⟨x0,r0⟩:=BO _ _ _ h0
  simp only[cells3] at r0
  obtain⟨_,h1⟩:=hF 1 _ rfl
  obtain⟨x1,r1⟩:=BO _ _ _ h1
  simp only[cells3] at r1
  obtain⟨_,h2⟩:=hF 2 _ rfl
  obtain⟨x2,r2⟩:=XJ _ _ _ h2
  simp only[XI] at r2
  obtain⟨_,h3⟩:=hF 3 _ rfl
  obtain⟨x3,r3⟩:=BO _ _ _ h3
  simp only[cells3] at r3
  obtain⟨_,h4⟩:=hF 4 _ rfl
  obtain⟨x4,r4⟩:=nS _ _ _ h4
  simp only[ig] at r4
  obtain⟨_,h5⟩:=hF 5 _ rfl
  obtain⟨x5,r5⟩:=y7 _ _ _ h5
  simp only[nT] at r5
  obtain⟨_,h6⟩:=hF 6 _ rfl
  obtain⟨x6,r6⟩:=BO _ _ _ h6
  simp only[cells3] at r6
  obtain⟨_,h7⟩:=hF 7 _ rfl
  obtain⟨x7,r7⟩:=BO _ _ _ h7
  simp only[cells3] at r7
  obtain⟨_,h8⟩:=hF 8 _ rfl
  obtain⟨x8,r8⟩:=BO _ _ _ h8
  simp only[cells3] at r8
  obtain⟨_,h9⟩:=hF 9 _ rfl
  obtain⟨x9,r9⟩:=BO _ _ _ h9
  simp only[cells3] at r9
  obtain⟨_,h10⟩:=hF 10 _ rfl
  obtain⟨x10,r10⟩:=BO _ _ _ h10
  simp only[cells3] at r10
  refine⟨⟨x0,x1,x2,x3,x4,x5,x6,x7,x8,x9,x10⟩, ?_⟩
  rw[DDeed.c_eq]
  exact RdCs.glue (o:=0) (n:=1) r0 rfl (RdCs.glue (o:=1) (n:=1) r1 rfl (RdCs.glue (o:=2) (n:=1) r2 rfl (RdCs.glue (o:=3) (n:=1) r3 rfl (RdCs.glue (o:=4) (n:=10) r4 rfl (RdCs.glue (o:=14) (n:=6) r5 rfl (RdCs.glue (o:=20) (n:=1) r6 rfl (RdCs.glue (o:=21) (n:=1) r7 rfl (RdCs.glue (o:=22) (n:=1) r8 rfl (RdCs.glue (o:=23) (n:=1) r9 rfl (RdCs.last (o:=24) (n:=1) r10 hl))))))))))
theorem cells31:prog.cellsOf 31=1:=by kernel_rfl
theorem AAz:∀ (fuel:Nat) (cs:List Value) (y:DataW H×List MemPlace),DataW.trod enc prog w 0 sp held fuel 31 cs=some y→∃ xs:List DDeed,RdCs w cs [.sl (xs.map DDeed.c)]:=fun fuel _ _ h=>Fe underlying31 nZ (fun x=>DDeed.len x) (by omega) (fun fuel' _=>ACg fuel') h
theorem cells24:prog.cellsOf 24=3:=by kernel_rfl
theorem DConf.len (d:DConf):d.c.length=3:=by rw[DConf.c_eq]; simp
theorem ACh:∀ (fuel:Nat) (cs:List Value) (y:DataW H×List MemPlace),DataW.trod enc prog w 0 sp held fuel 24 cs=some y→∃ x:DConf,RdCs w cs x.c:=by
  intro fuel cs y h
  obtain⟨fu,hfu,hl,hF⟩:=DV underlying24 cells24 h
  obtain⟨_,h0⟩:=hF 0 _ rfl
  obtain⟨x0,r0⟩:=XG _ _ _ h0
  simp only[cells22] at r0
  obtain⟨_,h1⟩:=hF 1 _ rfl
  obtain⟨x1,r1⟩:=BO _ _ _ h1
  simp only[cells3] at r1
  obtain⟨_,h2⟩:=hF 2 _ rfl
  obtain⟨x2,r2⟩:=BO _ _ _ h2
  simp only[cells3] at r2
  refine⟨⟨x0,x1,x2⟩, ?_⟩
  rw[DConf.c_eq]
  exact RdCs.glue (o:=0) (n:=1) r0 rfl (RdCs.glue (o:=1) (n:=1) r1 rfl (RdCs.last (o:=2) (n:=1) r2 hl))
theorem cells33:prog.cellsOf 33=14:=by kernel_rfl
theorem DWorld.len (d:DWorld):d.c.length=14:=by rw[DWorld.c_eq]; simp[DConf.len,DDir.len]
theorem ng:∀ (fuel:Nat) (cs:List Value) (y:DataW H×List MemPlace),DataW.trod enc prog w 0 sp held fuel 33 cs=some y→∃ x:DWorld,RdCs w cs x.c:=by
  intro fuel cs y h
  obtain⟨fu,hfu,hl,hF⟩:=DV underlying33 cells33 h
  obtain⟨_,h0⟩:=hF 0 _ rfl
  obtain⟨x0,r0⟩:=ACh _ _ _ h0
  simp only[cells24] at r0
  obtain⟨_,h1⟩:=hF 1 _ rfl
  obtain⟨x1,r1⟩:=BO _ _ _ h1
  simp only[cells3] at r1
  obtain⟨_,h2⟩:=hF 2 _ rfl
  obtain⟨x2,r2⟩:=BO _ _ _ h2
  simp only[cells3] at r2
  obtain⟨_,h3⟩:=hF 3 _ rfl
  obtain⟨x3,r3⟩:=BO _ _ _ h3
  simp only[cells3] at r3
  obtain⟨_,h4⟩:=hF 4 _ rfl
  obtain⟨x4,r4⟩:=AEU _ _ _ h4
  simp only[cells27] at r4
  obtain⟨_,h5⟩:=hF 5 _ rfl
  obtain⟨x5,r5⟩:=ACd _ _ _ h5
  simp only[cells28] at r5
  obtain⟨_,h6⟩:=hF 6 _ rfl
  obtain⟨x6,r6⟩:=XG _ _ _ h6
  simp only[cells22] at r6
  obtain⟨_,h7⟩:=hF 7 _ rfl
  obtain⟨x7,r7⟩:=AAx _ _ _ h7
  simp only[cells29] at r7
  obtain⟨_,h8⟩:=hF 8 _ rfl
  obtain⟨x8,r8⟩:=XG _ _ _ h8
  simp only[cells22] at r8
  obtain⟨_,h9⟩:=hF 9 _ rfl
  obtain⟨x9,r9⟩:=AAy _ _ _ h9
  simp only[cells30] at r9
  obtain⟨_,h10⟩:=hF 10 _ rfl
  obtain⟨x10,r10⟩:=AAz _ _ _ h10
  simp only[cells31] at r10
  refine⟨⟨x0,x1,x2,x3,x4,x5,x6,x7,x8,x9,x10⟩, ?_⟩
  rw[DWorld.c_eq]
  exact RdCs.glue (o:=0) (n:=3) r0 rfl (RdCs.glue (o:=3) (n:=1) r1 rfl (RdCs.glue (o:=4) (n:=1) r2 rfl (RdCs.glue (o:=5) (n:=1) r3 rfl (RdCs.glue (o:=6) (n:=2) r4 rfl (RdCs.glue (o:=8) (n:=1) r5 rfl (RdCs.glue (o:=9) (n:=1) r6 rfl (RdCs.glue (o:=10) (n:=1) r7 rfl (RdCs.glue (o:=11) (n:=1) r8 rfl (RdCs.glue (o:=12) (n:=1) r9 rfl (RdCs.last (o:=13) (n:=1) r10 hl))))))))))
end Go.Proofs.YtnchiiikacemmaaGreat
