/- A part. -/
import Derived.Test.YtnoldekcdlaahaaGreatDa
import Derived.Test.YtnoldekcdlaahaaGreatTy
import Derived.Test.YtnoldekcdlaahaaGreatAa
set_option linter.unusedSimpArgs false
set_option linter.unusedVariables false
set_option maxRecDepth 100000
open Go.Proofs.Tryz
namespace Go.Proofs.YtnoldekcdlaahaaGreat
open Go.Vm
section
variable {p q r:Prop}
theorem AQL(h:p:=by kernel_rfl):p:=h
end
variable {H:Type} {enc:TypeId×Value→H} {w:World} {sp:Nat→Bool} {held:Bool}
theorem cells3:prog.cellsOf 3=1:=AQL
theorem BR:∀ (fuel:Nat) (cs:List Value) (y:DataW H×List MemPlace),DataW.trod enc prog w 0 sp held fuel 3 cs=some y→∃ x:Int,RdCs w cs [.v (.int .i64 x)]:=fun _ _ _ h=>AC_ underlying3 h
theorem cells9:prog.cellsOf 9=1:=AQL
theorem ABx:∀ (fuel:Nat) (cs:List Value) (y:DataW H×List MemPlace),DataW.trod enc prog w 0 sp held fuel 9 cs=some y→∃ x:ByteArray,RdCs w cs [.v (.string x)]:=fun _ _ _ h=>ABc underlying9 h
theorem cells4:prog.cellsOf 4=1:=AQL
theorem AAc:∀ (fuel:Nat) (cs:List Value) (y:DataW H×List MemPlace),DataW.trod enc prog w 0 sp held fuel 4 cs=some y→∃ x:Bool,RdCs w cs [.v (.bool x)]:=fun _ _ _ h=>AE7 underlying4 h
theorem cells5:prog.cellsOf 5=1:=AQL
theorem AFC:∀ (fuel:Nat) (cs:List Value) (y:DataW H×List MemPlace),DataW.trod enc prog w 0 sp held fuel 5 cs=some y→∃ x:Int,RdCs w cs [.v (.int .u8 x)]:=fun _ _ _ h=>AC_ underlying5 h
theorem cells22:prog.cellsOf 22=1:=AQL
theorem Y_:∀ (fuel:Nat) (cs:List Value) (y:DataW H×List MemPlace),DataW.trod enc prog w 0 sp held fuel 22 cs=some y→∃ xs:List Int,RdCs w cs [.sl (xs.map intC)]:=fun fuel _ _ h=>Gs underlying22 cells3 (fun _=>rfl) AOh (fun fuel' _=>BR fuel') h
theorem ADS:prog.cellsOf 104=1:=AQL
theorem ADT:∀ (fuel:Nat) (cs:List Value) (y:DataW H×List MemPlace),DataW.trod enc prog w 0 sp held fuel 104 cs=some y→∃ xs:List Int,RdCs w cs [.sl (xs.map byteC)]:=fun fuel _ _ h=>Gs underlying104 cells5 (fun _=>rfl) AOh (fun fuel' _=>AFC fuel') h
theorem U7:prog.cellsOf 109=3:=AQL
theorem DVal.len (d:DVal):d.c.length=3:=by rw[DVal.c_eq]; simp[]
theorem yX:∀ (fuel:Nat) (cs:List Value) (y:DataW H×List MemPlace),DataW.trod enc prog w 0 sp held fuel 109 cs=some y→∃ x:DVal,RdCs w cs x.c:=by
  intro fuel cs y h
  obtain⟨fu,hfu,hl,hF⟩:=D_ underlying109 U7 h
  obtain⟨_,h0⟩:=hF 0 _ rfl
  obtain⟨x0,r0⟩:=BR _ _ _ h0
  simp only[cells3] at r0
  obtain⟨_,h1⟩:=hF 1 _ rfl
  obtain⟨x1,r1⟩:=BR _ _ _ h1
  simp only[cells3] at r1
  obtain⟨_,h2⟩:=hF 2 _ rfl
  obtain⟨x2,r2⟩:=ABx _ _ _ h2
  simp only[cells9] at r2
  refine⟨⟨x0,x1,x2⟩, ?_⟩
  rw[DVal.c_eq]
  exact AL6
theorem U8:prog.cellsOf 108=1:=AQL
theorem ZA:∀ (fuel:Nat) (cs:List Value) (y:DataW H×List MemPlace),DataW.trod enc prog w 0 sp held fuel 108 cs=some y→∃ xs:List DVal,RdCs w cs [.sl (xs.map DVal.c)]:=fun fuel _ _ h=>Gs underlying108 U7 (fun x=>DVal.len x) AOh (fun fuel' _=>yX fuel') h
theorem sZ:prog.cellsOf 252=2:=AQL
theorem DRow.len (d:DRow):d.c.length=2:=by rw[DRow.c_eq]; simp[]
theorem AHK:∀ (fuel:Nat) (cs:List Value) (y:DataW H×List MemPlace),DataW.trod enc prog w 0 sp held fuel 252 cs=some y→∃ x:DRow,RdCs w cs x.c:=by
  intro fuel cs y h
  obtain⟨fu,hfu,hl,hF⟩:=D_ underlying252 sZ h
  obtain⟨_,h0⟩:=hF 0 _ rfl
  obtain⟨x0,r0⟩:=BR _ _ _ h0
  simp only[cells3] at r0
  obtain⟨_,h1⟩:=hF 1 _ rfl
  obtain⟨x1,r1⟩:=ZA _ _ _ h1
  simp only[U8] at r1
  refine⟨⟨x0,x1⟩, ?_⟩
  rw[DRow.c_eq]
  exact AL9
theorem su:prog.cellsOf 115=1:=AQL
theorem AAd:∀ (fuel:Nat) (cs:List Value) (y:DataW H×List MemPlace),DataW.trod enc prog w 0 sp held fuel 115 cs=some y→∃ xs:List DRow,RdCs w cs [.sl (xs.map DRow.c)]:=fun fuel _ _ h=>Gs underlying115 sZ (fun x=>DRow.len x) AOh (fun fuel' _=>AHK fuel') h
theorem Zz:prog.cellsOf 112=7:=AQL
theorem DPred.len (d:DPred):d.c.length=7:=by rw[DPred.c_eq]; simp[DVal.len]
theorem ADU:prog.cellsOf 110=1:=AQL
theorem AFD:∀ (fuel:Nat) (cs:List Value) (y:DataW H×List MemPlace),DataW.trod enc prog w 0 sp held fuel 112 cs=some y→∃ x:DPred,RdCs w cs x.c:=by
 intro fuel
 induction fuel using Nat.strongRecOn with
 | ind fuel ih =>
  intro cs y h
  obtain⟨fu,hfu,hl,hF⟩:=D_ underlying112 Zz h
  obtain⟨_,h0⟩:=hF 0 _ rfl
  obtain⟨x0,r0⟩:=BR _ _ _ h0
  simp only[cells3] at r0
  obtain⟨_,h1⟩:=hF 1 _ rfl
  obtain⟨x1,r1⟩:=BR _ _ _ h1
  simp only[cells3] at r1
  obtain⟨_,h2⟩:=hF 2 _ rfl
  obtain⟨x2,r2⟩:=BR _ _ _ h2
  simp only[cells3] at r2
  obtain⟨_,h3⟩:=hF 3 _ rfl
  obtain⟨x3,r3⟩:=yX _ _ _ h3
  simp only[U7] at r3
  obtain⟨_,h4⟩:=hF 4 _ rfl
  obtain⟨x4,r4⟩:=Gs (f:=DPred.c) underlying110 Zz (fun x=>DPred.len x) AOh (fun fuel' hlt cs y h=>ih fuel' AOh cs y h) h4
  simp only[ADU] at r4
  refine⟨.mk x0 x1 x2 x3 x4, ?_⟩
  rw[DPred.c_eq]
  exact RdCs.glue (o:=0) (n:=1) r0 rfl (RdCs.glue (o:=1) (n:=1) r1 rfl (RdCs.glue (o:=2) (n:=1) r2 rfl (RdCs.glue (o:=3) (n:=3) r3 rfl (RdCs.last (o:=6) (n:=1) r4 hl))))
theorem Z4:prog.cellsOf 114=10:=AQL
theorem DQuery.len (d:DQuery):d.c.length=10:=by rw[DQuery.c_eq]; simp[DPred.len]
theorem tC:∀ (fuel:Nat) (cs:List Value) (y:DataW H×List MemPlace),DataW.trod enc prog w 0 sp held fuel 114 cs=some y→∃ x:DQuery,RdCs w cs x.c:=by
  intro fuel cs y h
  obtain⟨fu,hfu,hl,hF⟩:=D_ underlying114 Z4 h
  obtain⟨_,h0⟩:=hF 0 _ rfl
  obtain⟨x0,r0⟩:=BR _ _ _ h0
  simp only[cells3] at r0
  obtain⟨_,h1⟩:=hF 1 _ rfl
  obtain⟨x1,r1⟩:=AFD _ _ _ h1
  simp only[Zz] at r1
  obtain⟨_,h2⟩:=hF 2 _ rfl
  obtain⟨x2,r2⟩:=BR _ _ _ h2
  simp only[cells3] at r2
  obtain⟨_,h3⟩:=hF 3 _ rfl
  obtain⟨x3,r3⟩:=Y_ _ _ _ h3
  simp only[cells22] at r3
  refine⟨⟨x0,x1,x2,x3⟩, ?_⟩
  rw[DQuery.c_eq]
  exact RdCs.glue (o:=0) (n:=1) r0 rfl (RdCs.glue (o:=1) (n:=7) r1 rfl (RdCs.glue (o:=8) (n:=1) r2 rfl (RdCs.last (o:=9) (n:=1) r3 hl)))
theorem tH:prog.cellsOf 120=6:=AQL
theorem DResult.len (d:DResult):d.c.length=6:=by rw[DResult.c_eq]; simp[DVal.len]
theorem ABy:∀ (fuel:Nat) (cs:List Value) (y:DataW H×List MemPlace),DataW.trod enc prog w 0 sp held fuel 120 cs=some y→∃ x:DResult,RdCs w cs x.c:=by
  intro fuel cs y h
  obtain⟨fu,hfu,hl,hF⟩:=D_ underlying120 tH h
  obtain⟨_,h0⟩:=hF 0 _ rfl
  obtain⟨x0,r0⟩:=AAd _ _ _ h0
  simp only[su] at r0
  obtain⟨_,h1⟩:=hF 1 _ rfl
  obtain⟨x1,r1⟩:=BR _ _ _ h1
  simp only[cells3] at r1
  obtain⟨_,h2⟩:=hF 2 _ rfl
  obtain⟨x2,r2⟩:=AAc _ _ _ h2
  simp only[cells4] at r2
  obtain⟨_,h3⟩:=hF 3 _ rfl
  obtain⟨x3,r3⟩:=yX _ _ _ h3
  simp only[U7] at r3
  refine⟨⟨x0,x1,x2,x3⟩, ?_⟩
  rw[DResult.c_eq]
  exact RdCs.glue (o:=0) (n:=1) r0 rfl (RdCs.glue (o:=1) (n:=1) r1 rfl (RdCs.glue (o:=2) (n:=1) r2 rfl (RdCs.last (o:=3) (n:=3) r3 hl)))
theorem tJ:prog.cellsOf 281=2:=AQL
theorem DSlot.len (d:DSlot):d.c.length=2:=by rw[DSlot.c_eq]; simp[]
theorem AFE:∀ (fuel:Nat) (cs:List Value) (y:DataW H×List MemPlace),DataW.trod enc prog w 0 sp held fuel 281 cs=some y→∃ x:DSlot,RdCs w cs x.c:=by
  intro fuel cs y h
  obtain⟨fu,hfu,hl,hF⟩:=D_ underlying281 tJ h
  obtain⟨_,h0⟩:=hF 0 _ rfl
  obtain⟨x0,r0⟩:=BR _ _ _ h0
  simp only[cells3] at r0
  obtain⟨_,h1⟩:=hF 1 _ rfl
  obtain⟨x1,r1⟩:=ZA _ _ _ h1
  simp only[U8] at r1
  refine⟨⟨x0,x1⟩, ?_⟩
  rw[DSlot.c_eq]
  exact AL9
theorem ADV:prog.cellsOf 101=1:=AQL
theorem ADW:∀ (fuel:Nat) (cs:List Value) (y:DataW H×List MemPlace),DataW.trod enc prog w 0 sp held fuel 101 cs=some y→∃ xs:List DSlot,RdCs w cs [.sl (xs.map DSlot.c)]:=fun fuel _ _ h=>Gs underlying101 tJ (fun x=>DSlot.len x) AOh (fun fuel' _=>AFE fuel') h
theorem tK:prog.cellsOf 103=2:=AQL
theorem DChunk.len (d:DChunk):d.c.length=2:=by rw[DChunk.c_eq]; simp[]
theorem ADX:∀ (fuel:Nat) (cs:List Value) (y:DataW H×List MemPlace),DataW.trod enc prog w 0 sp held fuel 103 cs=some y→∃ x:DChunk,RdCs w cs x.c:=by
  intro fuel cs y h
  obtain⟨fu,hfu,hl,hF⟩:=D_ underlying103 tK h
  obtain⟨_,h0⟩:=hF 0 _ rfl
  obtain⟨x0,r0⟩:=BR _ _ _ h0
  simp only[cells3] at r0
  obtain⟨_,h1⟩:=hF 1 _ rfl
  obtain⟨x1,r1⟩:=ADW _ _ _ h1
  simp only[ADV] at r1
  refine⟨⟨x0,x1⟩, ?_⟩
  rw[DChunk.c_eq]
  exact AL9
theorem tN:prog.cellsOf 106=5:=AQL
theorem DBuf.len (d:DBuf):d.c.length=5:=by rw[DBuf.c_eq]; simp[DChunk.len]
theorem AHL:∀ (fuel:Nat) (cs:List Value) (y:DataW H×List MemPlace),DataW.trod enc prog w 0 sp held fuel 106 cs=some y→∃ x:DBuf,RdCs w cs x.c:=by
  intro fuel cs y h
  obtain⟨fu,hfu,hl,hF⟩:=D_ underlying106 tN h
  obtain⟨_,h0⟩:=hF 0 _ rfl
  obtain⟨x0,r0⟩:=BR _ _ _ h0
  simp only[cells3] at r0
  obtain⟨_,h1⟩:=hF 1 _ rfl
  obtain⟨x1,r1⟩:=BR _ _ _ h1
  simp only[cells3] at r1
  obtain⟨_,h2⟩:=hF 2 _ rfl
  obtain⟨x2,r2⟩:=ADX _ _ _ h2
  simp only[tK] at r2
  obtain⟨_,h3⟩:=hF 3 _ rfl
  obtain⟨x3,r3⟩:=ADT _ _ _ h3
  simp only[ADS] at r3
  refine⟨⟨x0,x1,x2,x3⟩, ?_⟩
  rw[DBuf.c_eq]
  exact RdCs.glue (o:=0) (n:=1) r0 rfl (RdCs.glue (o:=1) (n:=1) r1 rfl (RdCs.glue (o:=2) (n:=2) r2 rfl (RdCs.last (o:=4) (n:=1) r3 hl)))
theorem cells28:prog.cellsOf 28=1:=AQL
theorem AFF:∀ (fuel:Nat) (cs:List Value) (y:DataW H×List MemPlace),DataW.trod enc prog w 0 sp held fuel 28 cs=some y→∃ xs:List DBuf,RdCs w cs [.sl (xs.map DBuf.c)]:=fun fuel _ _ h=>Gs underlying28 tN (fun x=>DBuf.len x) AOh (fun fuel' _=>AHL fuel') h
theorem tV:prog.cellsOf 147=3:=AQL
theorem DDead.len (d:DDead):d.c.length=3:=by rw[DDead.c_eq]; simp[]
theorem AFG:∀ (fuel:Nat) (cs:List Value) (y:DataW H×List MemPlace),DataW.trod enc prog w 0 sp held fuel 147 cs=some y→∃ x:DDead,RdCs w cs x.c:=by
  intro fuel cs y h
  obtain⟨fu,hfu,hl,hF⟩:=D_ underlying147 tV h
  obtain⟨_,h0⟩:=hF 0 _ rfl
  obtain⟨x0,r0⟩:=BR _ _ _ h0
  simp only[cells3] at r0
  obtain⟨_,h1⟩:=hF 1 _ rfl
  obtain⟨x1,r1⟩:=BR _ _ _ h1
  simp only[cells3] at r1
  obtain⟨_,h2⟩:=hF 2 _ rfl
  obtain⟨x2,r2⟩:=BR _ _ _ h2
  simp only[cells3] at r2
  refine⟨⟨x0,x1,x2⟩, ?_⟩
  rw[DDead.c_eq]
  exact AL6
theorem cells29:prog.cellsOf 29=1:=AQL
theorem ADY:∀ (fuel:Nat) (cs:List Value) (y:DataW H×List MemPlace),DataW.trod enc prog w 0 sp held fuel 29 cs=some y→∃ xs:List DDead,RdCs w cs [.sl (xs.map DDead.c)]:=fun fuel _ _ h=>Gs underlying29 tV (fun x=>DDead.len x) AOh (fun fuel' _=>AFG fuel') h
theorem tX:prog.cellsOf 215=5:=AQL
theorem DRef.len (d:DRef):d.c.length=5:=by rw[DRef.c_eq]; simp[]
theorem AHM:∀ (fuel:Nat) (cs:List Value) (y:DataW H×List MemPlace),DataW.trod enc prog w 0 sp held fuel 215 cs=some y→∃ x:DRef,RdCs w cs x.c:=by
  intro fuel cs y h
  obtain⟨fu,hfu,hl,hF⟩:=D_ underlying215 tX h
  obtain⟨_,h0⟩:=hF 0 _ rfl
  obtain⟨x0,r0⟩:=BR _ _ _ h0
  simp only[cells3] at r0
  obtain⟨_,h1⟩:=hF 1 _ rfl
  obtain⟨x1,r1⟩:=BR _ _ _ h1
  simp only[cells3] at r1
  obtain⟨_,h2⟩:=hF 2 _ rfl
  obtain⟨x2,r2⟩:=BR _ _ _ h2
  simp only[cells3] at r2
  obtain⟨_,h3⟩:=hF 3 _ rfl
  obtain⟨x3,r3⟩:=BR _ _ _ h3
  simp only[cells3] at r3
  obtain⟨_,h4⟩:=hF 4 _ rfl
  obtain⟨x4,r4⟩:=BR _ _ _ h4
  simp only[cells3] at r4
  refine⟨⟨x0,x1,x2,x3,x4⟩, ?_⟩
  rw[DRef.c_eq]
  exact RdCs.glue (o:=0) (n:=1) r0 rfl (RdCs.glue (o:=1) (n:=1) r1 rfl (RdCs.glue (o:=2) (n:=1) r2 rfl (RdCs.glue (o:=3) (n:=1) r3 rfl (RdCs.last (o:=4) (n:=1) r4 hl))))
theorem cells25:prog.cellsOf 25=1:=AQL
theorem AAe:∀ (fuel:Nat) (cs:List Value) (y:DataW H×List MemPlace),DataW.trod enc prog w 0 sp held fuel 25 cs=some y→∃ xs:List DRef,RdCs w cs [.sl (xs.map DRef.c)]:=fun fuel _ _ h=>Gs underlying25 tX (fun x=>DRef.len x) AOh (fun fuel' _=>AHM fuel') h
theorem cells27:prog.cellsOf 27=2:=AQL
theorem DDir.len (d:DDir):d.c.length=2:=by rw[DDir.c_eq]; simp[]
theorem AHN:∀ (fuel:Nat) (cs:List Value) (y:DataW H×List MemPlace),DataW.trod enc prog w 0 sp held fuel 27 cs=some y→∃ x:DDir,RdCs w cs x.c:=by
  intro fuel cs y h
  obtain⟨fu,hfu,hl,hF⟩:=D_ underlying27 cells27 h
  obtain⟨_,h0⟩:=hF 0 _ rfl
  obtain⟨x0,r0⟩:=BR _ _ _ h0
  simp only[cells3] at r0
  obtain⟨_,h1⟩:=hF 1 _ rfl
  obtain⟨x1,r1⟩:=AAe _ _ _ h1
  simp only[cells25] at r1
  refine⟨⟨x0,x1⟩, ?_⟩
  rw[DDir.c_eq]
  exact AL9
theorem tY:prog.cellsOf 117=25:=AQL
theorem DTask.len (d:DTask):d.c.length=25:=by rw[DTask.c_eq]; simp[DQuery.len]
theorem AFH:∀ (fuel:Nat) (cs:List Value) (y:DataW H×List MemPlace),DataW.trod enc prog w 0 sp held fuel 117 cs=some y→∃ x:DTask,RdCs w cs x.c:=by
  intro fuel cs y h
  obtain⟨fu,hfu,hl,hF⟩:=D_ underlying117 tY h
  obtain⟨_,h0⟩:=hF 0 _ rfl
  obtain⟨x0,r0⟩:=BR _ _ _ h0
  simp only[cells3] at r0
  obtain⟨_,h1⟩:=hF 1 _ rfl
  obtain⟨x1,r1⟩:=BR _ _ _ h1
  simp only[cells3] at r1
  obtain⟨_,h2⟩:=hF 2 _ rfl
  obtain⟨x2,r2⟩:=BR _ _ _ h2
  simp only[cells3] at r2
  obtain⟨_,h3⟩:=hF 3 _ rfl
  obtain⟨x3,r3⟩:=ZA _ _ _ h3
  simp only[U8] at r3
  obtain⟨_,h4⟩:=hF 4 _ rfl
  obtain⟨x4,r4⟩:=BR _ _ _ h4
  simp only[cells3] at r4
  obtain⟨_,h5⟩:=hF 5 _ rfl
  obtain⟨x5,r5⟩:=tC _ _ _ h5
  simp only[Z4] at r5
  obtain⟨_,h6⟩:=hF 6 _ rfl
  obtain⟨x6,r6⟩:=BR _ _ _ h6
  simp only[cells3] at r6
  obtain⟨_,h7⟩:=hF 7 _ rfl
  obtain⟨x7,r7⟩:=BR _ _ _ h7
  simp only[cells3] at r7
  obtain⟨_,h8⟩:=hF 8 _ rfl
  obtain⟨x8,r8⟩:=AAe _ _ _ h8
  simp only[cells25] at r8
  obtain⟨_,h9⟩:=hF 9 _ rfl
  obtain⟨x9,r9⟩:=BR _ _ _ h9
  simp only[cells3] at r9
  obtain⟨_,h10⟩:=hF 10 _ rfl
  obtain⟨x10,r10⟩:=BR _ _ _ h10
  simp only[cells3] at r10
  obtain⟨_,h11⟩:=hF 11 _ rfl
  obtain⟨x11,r11⟩:=BR _ _ _ h11
  simp only[cells3] at r11
  obtain⟨_,h12⟩:=hF 12 _ rfl
  obtain⟨x12,r12⟩:=BR _ _ _ h12
  simp only[cells3] at r12
  obtain⟨_,h13⟩:=hF 13 _ rfl
  obtain⟨x13,r13⟩:=BR _ _ _ h13
  simp only[cells3] at r13
  obtain⟨_,h14⟩:=hF 14 _ rfl
  obtain⟨x14,r14⟩:=AAc _ _ _ h14
  simp only[cells4] at r14
  obtain⟨_,h15⟩:=hF 15 _ rfl
  obtain⟨x15,r15⟩:=AAd _ _ _ h15
  simp only[su] at r15
  refine⟨⟨x0,x1,x2,x3,x4,x5,x6,x7,x8,x9,x10,x11,x12,x13,x14,x15⟩, ?_⟩
  rw[DTask.c_eq]
  exact RdCs.glue (o:=0) (n:=1) r0 rfl (RdCs.glue (o:=1) (n:=1) r1 rfl (RdCs.glue (o:=2) (n:=1) r2 rfl (RdCs.glue (o:=3) (n:=1) r3 rfl (RdCs.glue (o:=4) (n:=1) r4 rfl (RdCs.glue (o:=5) (n:=10) r5 rfl (RdCs.glue (o:=15) (n:=1) r6 rfl (RdCs.glue (o:=16) (n:=1) r7 rfl (RdCs.glue (o:=17) (n:=1) r8 rfl (RdCs.glue (o:=18) (n:=1) r9 rfl (RdCs.glue (o:=19) (n:=1) r10 rfl (RdCs.glue (o:=20) (n:=1) r11 rfl (RdCs.glue (o:=21) (n:=1) r12 rfl (RdCs.glue (o:=22) (n:=1) r13 rfl (RdCs.glue (o:=23) (n:=1) r14 rfl (RdCs.last (o:=24) (n:=1) r15 hl)))))))))))))))
theorem cells30:prog.cellsOf 30=1:=AQL
theorem ADZ:∀ (fuel:Nat) (cs:List Value) (y:DataW H×List MemPlace),DataW.trod enc prog w 0 sp held fuel 30 cs=some y→∃ xs:List DTask,RdCs w cs [.sl (xs.map DTask.c)]:=fun fuel _ _ h=>Gs underlying30 tY (fun x=>DTask.len x) AOh (fun fuel' _=>AFH fuel') h
theorem tZ:prog.cellsOf 122=25:=AQL
theorem DDeed.len (d:DDeed):d.c.length=25:=by rw[DDeed.c_eq]; simp[DQuery.len,DResult.len]
theorem AFI:∀ (fuel:Nat) (cs:List Value) (y:DataW H×List MemPlace),DataW.trod enc prog w 0 sp held fuel 122 cs=some y→∃ x:DDeed,RdCs w cs x.c:=by
  intro fuel cs y h
  obtain⟨fu,hfu,hl,hF⟩:=D_ underlying122 tZ h
  obtain⟨_,h0⟩:=hF 0 _ rfl
  obtain⟨x0,r0⟩:=BR _ _ _ h0
  simp only[cells3] at r0
  obtain⟨_,h1⟩:=hF 1 _ rfl
  obtain⟨x1,r1⟩:=BR _ _ _ h1
  simp only[cells3] at r1
  obtain⟨_,h2⟩:=hF 2 _ rfl
  obtain⟨x2,r2⟩:=ZA _ _ _ h2
  simp only[U8] at r2
  obtain⟨_,h3⟩:=hF 3 _ rfl
  obtain⟨x3,r3⟩:=BR _ _ _ h3
  simp only[cells3] at r3
  obtain⟨_,h4⟩:=hF 4 _ rfl
  obtain⟨x4,r4⟩:=tC _ _ _ h4
  simp only[Z4] at r4
  obtain⟨_,h5⟩:=hF 5 _ rfl
  obtain⟨x5,r5⟩:=ABy _ _ _ h5
  simp only[tH] at r5
  obtain⟨_,h6⟩:=hF 6 _ rfl
  obtain⟨x6,r6⟩:=BR _ _ _ h6
  simp only[cells3] at r6
  obtain⟨_,h7⟩:=hF 7 _ rfl
  obtain⟨x7,r7⟩:=BR _ _ _ h7
  simp only[cells3] at r7
  obtain⟨_,h8⟩:=hF 8 _ rfl
  obtain⟨x8,r8⟩:=BR _ _ _ h8
  simp only[cells3] at r8
  obtain⟨_,h9⟩:=hF 9 _ rfl
  obtain⟨x9,r9⟩:=BR _ _ _ h9
  simp only[cells3] at r9
  obtain⟨_,h10⟩:=hF 10 _ rfl
  obtain⟨x10,r10⟩:=BR _ _ _ h10
  simp only[cells3] at r10
  refine⟨⟨x0,x1,x2,x3,x4,x5,x6,x7,x8,x9,x10⟩, ?_⟩
  rw[DDeed.c_eq]
  exact RdCs.glue (o:=0) (n:=1) r0 rfl (RdCs.glue (o:=1) (n:=1) r1 rfl (RdCs.glue (o:=2) (n:=1) r2 rfl (RdCs.glue (o:=3) (n:=1) r3 rfl (RdCs.glue (o:=4) (n:=10) r4 rfl (RdCs.glue (o:=14) (n:=6) r5 rfl (RdCs.glue (o:=20) (n:=1) r6 rfl (RdCs.glue (o:=21) (n:=1) r7 rfl (RdCs.glue (o:=22) (n:=1) r8 rfl (RdCs.glue (o:=23) (n:=1) r9 rfl (RdCs.last (o:=24) (n:=1) r10 hl))))))))))
theorem cells31:prog.cellsOf 31=1:=AQL
theorem ADa:∀ (fuel:Nat) (cs:List Value) (y:DataW H×List MemPlace),DataW.trod enc prog w 0 sp held fuel 31 cs=some y→∃ xs:List DDeed,RdCs w cs [.sl (xs.map DDeed.c)]:=fun fuel _ _ h=>Gs underlying31 tZ (fun x=>DDeed.len x) AOh (fun fuel' _=>AFI fuel') h
theorem cells24:prog.cellsOf 24=3:=AQL
theorem DConf.len (d:DConf):d.c.length=3:=by rw[DConf.c_eq]; simp[]
theorem AFJ:∀ (fuel:Nat) (cs:List Value) (y:DataW H×List MemPlace),DataW.trod enc prog w 0 sp held fuel 24 cs=some y→∃ x:DConf,RdCs w cs x.c:=by
  intro fuel cs y h
  obtain⟨fu,hfu,hl,hF⟩:=D_ underlying24 cells24 h
  obtain⟨_,h0⟩:=hF 0 _ rfl
  obtain⟨x0,r0⟩:=Y_ _ _ _ h0
  simp only[cells22] at r0
  obtain⟨_,h1⟩:=hF 1 _ rfl
  obtain⟨x1,r1⟩:=BR _ _ _ h1
  simp only[cells3] at r1
  obtain⟨_,h2⟩:=hF 2 _ rfl
  obtain⟨x2,r2⟩:=BR _ _ _ h2
  simp only[cells3] at r2
  refine⟨⟨x0,x1,x2⟩, ?_⟩
  rw[DConf.c_eq]
  exact AL6
theorem cells33:prog.cellsOf 33=14:=AQL
theorem DWorld.len (d:DWorld):d.c.length=14:=by rw[DWorld.c_eq]; simp[DConf.len,DDir.len]
theorem tq:∀ (fuel:Nat) (cs:List Value) (y:DataW H×List MemPlace),DataW.trod enc prog w 0 sp held fuel 33 cs=some y→∃ x:DWorld,RdCs w cs x.c:=by
  intro fuel cs y h
  obtain⟨fu,hfu,hl,hF⟩:=D_ underlying33 cells33 h
  obtain⟨_,h0⟩:=hF 0 _ rfl
  obtain⟨x0,r0⟩:=AFJ _ _ _ h0
  simp only[cells24] at r0
  obtain⟨_,h1⟩:=hF 1 _ rfl
  obtain⟨x1,r1⟩:=BR _ _ _ h1
  simp only[cells3] at r1
  obtain⟨_,h2⟩:=hF 2 _ rfl
  obtain⟨x2,r2⟩:=BR _ _ _ h2
  simp only[cells3] at r2
  obtain⟨_,h3⟩:=hF 3 _ rfl
  obtain⟨x3,r3⟩:=BR _ _ _ h3
  simp only[cells3] at r3
  obtain⟨_,h4⟩:=hF 4 _ rfl
  obtain⟨x4,r4⟩:=AHN _ _ _ h4
  simp only[cells27] at r4
  obtain⟨_,h5⟩:=hF 5 _ rfl
  obtain⟨x5,r5⟩:=AFF _ _ _ h5
  simp only[cells28] at r5
  obtain⟨_,h6⟩:=hF 6 _ rfl
  obtain⟨x6,r6⟩:=Y_ _ _ _ h6
  simp only[cells22] at r6
  obtain⟨_,h7⟩:=hF 7 _ rfl
  obtain⟨x7,r7⟩:=ADY _ _ _ h7
  simp only[cells29] at r7
  obtain⟨_,h8⟩:=hF 8 _ rfl
  obtain⟨x8,r8⟩:=Y_ _ _ _ h8
  simp only[cells22] at r8
  obtain⟨_,h9⟩:=hF 9 _ rfl
  obtain⟨x9,r9⟩:=ADZ _ _ _ h9
  simp only[cells30] at r9
  obtain⟨_,h10⟩:=hF 10 _ rfl
  obtain⟨x10,r10⟩:=ADa _ _ _ h10
  simp only[cells31] at r10
  refine⟨⟨x0,x1,x2,x3,x4,x5,x6,x7,x8,x9,x10⟩, ?_⟩
  rw[DWorld.c_eq]
  exact RdCs.glue (o:=0) (n:=3) r0 rfl (RdCs.glue (o:=3) (n:=1) r1 rfl (RdCs.glue (o:=4) (n:=1) r2 rfl (RdCs.glue (o:=5) (n:=1) r3 rfl (RdCs.glue (o:=6) (n:=2) r4 rfl (RdCs.glue (o:=8) (n:=1) r5 rfl (RdCs.glue (o:=9) (n:=1) r6 rfl (RdCs.glue (o:=10) (n:=1) r7 rfl (RdCs.glue (o:=11) (n:=1) r8 rfl (RdCs.glue (o:=12) (n:=1) r9 rfl (RdCs.last (o:=13) (n:=1) r10 hl))))))))))
end Go.Proofs.YtnoldekcdlaahaaGreat
