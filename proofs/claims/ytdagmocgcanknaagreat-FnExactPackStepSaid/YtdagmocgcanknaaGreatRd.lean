/- A part. -/
import Derived.Test.YtdagmocgcanknaaGreatDa
import Derived.Test.YtdagmocgcanknaaGreatTy
import Derived.Test.YtdagmocgcanknaaGreatVn
set_option linter.unusedSimpArgs false
set_option linter.unusedVariables false
set_option maxRecDepth 100000
open Go.Proofs.Tryz
namespace Go.Proofs.YtdagmocgcanknaaGreat
open Go.Vm
section
variable {p q r:Prop}
theorem AQu(h:p:=by kernel_rfl):p:=h
end
variable {H:Type} {enc:TypeId×Value->H} {w:World} {sp:Nat->Bool} {held:Bool}
theorem cells3:prog.cellsOf 3=1:=AQu
theorem Bf:∀ (fuel:Nat) (cs:List Value) (y:DataW H×List MemPlace),DataW.trod enc prog w 0 sp held fuel 3 cs=some y->∃ x:Int,RdCs w cs [.v (.int .i64 x)]:=fun _ _ _ h=>AD_ underlying3 h
theorem cells9:prog.cellsOf 9=1:=AQu
theorem ABd:∀ (fuel:Nat) (cs:List Value) (y:DataW H×List MemPlace),DataW.trod enc prog w 0 sp held fuel 9 cs=some y->∃ x:ByteArray,RdCs w cs [.v (.string x)]:=fun _ _ _ h=>AB9 underlying9 h
theorem cells4:prog.cellsOf 4=1:=AQu
theorem AAJ:∀ (fuel:Nat) (cs:List Value) (y:DataW H×List MemPlace),DataW.trod enc prog w 0 sp held fuel 4 cs=some y->∃ x:Bool,RdCs w cs [.v (.bool x)]:=fun _ _ _ h=>AFq underlying4 h
theorem cells5:prog.cellsOf 5=1:=AQu
theorem AEz:∀ (fuel:Nat) (cs:List Value) (y:DataW H×List MemPlace),DataW.trod enc prog w 0 sp held fuel 5 cs=some y->∃ x:Int,RdCs w cs [.v (.int .u8 x)]:=fun _ _ _ h=>AD_ underlying5 h
theorem cells22:prog.cellsOf 22=1:=AQu
theorem ZR:∀ (fuel:Nat) (cs:List Value) (y:DataW H×List MemPlace),DataW.trod enc prog w 0 sp held fuel 22 cs=some y->∃ xs:List Int,RdCs w cs [.sl (xs.map intC)]:=fun fuel _ _ h=>Hw underlying22 cells3 (fun _=>rfl) AOl (fun fuel' _=>Bf fuel') h
theorem AE0:prog.cellsOf 89=1:=AQu
theorem ADI:∀ (fuel:Nat) (cs:List Value) (y:DataW H×List MemPlace),DataW.trod enc prog w 0 sp held fuel 89 cs=some y->∃ xs:List Int,RdCs w cs [.sl (xs.map byteC)]:=fun fuel _ _ h=>Hw underlying89 cells5 (fun _=>rfl) AOl (fun fuel' _=>AEz fuel') h
theorem ZT:prog.cellsOf 95=3:=AQu
theorem DVal.len (d:DVal):d.c.length=3:=by rw[DVal.c_eq]; simp[]
theorem yC:∀ (fuel:Nat) (cs:List Value) (y:DataW H×List MemPlace),DataW.trod enc prog w 0 sp held fuel 95 cs=some y->∃ x:DVal,RdCs w cs x.c:=by intro fuel cs y h;obtain⟨fu,hfu,hl,hF⟩:=EN underlying95 ZT h;obtain⟨_,h0⟩:=hF 0 _ rfl;obtain⟨x0,r0⟩:=Bf _ _ _ h0;simp only[cells3] at r0;obtain⟨_,h1⟩:=hF 1 _ rfl;obtain⟨x1,r1⟩:=Bf _ _ _ h1;simp only[cells3] at r1;obtain⟨_,h2⟩:=hF 2 _ rfl;obtain⟨x2,r2⟩:=ABd _ _ _ h2;simp only[cells9] at r2;refine⟨⟨x0,x1,x2⟩, ?_⟩;rw[DVal.c_eq];exact ALk
theorem ZU:prog.cellsOf 93=1:=AQu
theorem ZV:∀ (fuel:Nat) (cs:List Value) (y:DataW H×List MemPlace),DataW.trod enc prog w 0 sp held fuel 93 cs=some y->∃ xs:List DVal,RdCs w cs [.sl (xs.map DVal.c)]:=fun fuel _ _ h=>Hw underlying93 ZT (fun x=>DVal.len x) AOl (fun fuel' _=>yC fuel') h
theorem tY:prog.cellsOf 236=2:=AQu
theorem DRow.len (d:DRow):d.c.length=2:=by rw[DRow.c_eq]; simp[]
theorem AGx:∀ (fuel:Nat) (cs:List Value) (y:DataW H×List MemPlace),DataW.trod enc prog w 0 sp held fuel 236 cs=some y->∃ x:DRow,RdCs w cs x.c:=by intro fuel cs y h;obtain⟨fu,hfu,hl,hF⟩:=EN underlying236 tY h;obtain⟨_,h0⟩:=hF 0 _ rfl;obtain⟨x0,r0⟩:=Bf _ _ _ h0;simp only[cells3] at r0;obtain⟨_,h1⟩:=hF 1 _ rfl;obtain⟨x1,r1⟩:=ZV _ _ _ h1;simp only[ZU] at r1;refine⟨⟨x0,x1⟩, ?_⟩;rw[DRow.c_eq];exact ALo
theorem tZ:prog.cellsOf 101=1:=AQu
theorem AAK:∀ (fuel:Nat) (cs:List Value) (y:DataW H×List MemPlace),DataW.trod enc prog w 0 sp held fuel 101 cs=some y->∃ xs:List DRow,RdCs w cs [.sl (xs.map DRow.c)]:=fun fuel _ _ h=>Hw underlying101 tY (fun x=>DRow.len x) AOl (fun fuel' _=>AGx fuel') h
theorem nV:prog.cellsOf 98=7:=AQu
theorem DPred.len (d:DPred):d.c.length=7:=by rw[DPred.c_eq]; simp[DVal.len]
theorem AE1:prog.cellsOf 96=1:=AQu
theorem AE2:∀ (fuel:Nat) (cs:List Value) (y:DataW H×List MemPlace),DataW.trod enc prog w 0 sp held fuel 98 cs=some y->∃ x:DPred,RdCs w cs x.c:=by
 intro fuel;induction fuel using Nat.strongRecOn with
 | ind fuel ih =>
  intro cs y h
  obtain⟨fu,hfu,hl,hF⟩:=EN underlying98 nV h
  obtain⟨_,h0⟩:=hF 0 _ rfl
  obtain⟨x0,r0⟩:=Bf _ _ _ h0
  simp only[cells3] at r0
  obtain⟨_,h1⟩:=hF 1 _ rfl
  obtain⟨x1,r1⟩:=Bf _ _ _ h1
  simp only[cells3] at r1
  obtain⟨_,h2⟩:=hF 2 _ rfl
  obtain⟨x2,r2⟩:=Bf _ _ _ h2
  simp only[cells3] at r2
  obtain⟨_,h3⟩:=hF 3 _ rfl
  obtain⟨x3,r3⟩:=yC _ _ _ h3
  simp only[ZT] at r3
  obtain⟨_,h4⟩:=hF 4 _ rfl
  obtain⟨x4,r4⟩:=Hw (f:=DPred.c) underlying96 nV (fun x=>DPred.len x) AOl (fun fuel' hlt cs y h=>ih fuel' AOl cs y h) h4
  simp only[AE1] at r4
  refine⟨.mk x0 x1 x2 x3 x4, ?_⟩
  rw[DPred.c_eq]
  exact RdCs.glue (o:=0) (n:=1) r0 rfl (RdCs.glue (o:=1) (n:=1) r1 rfl (RdCs.glue (o:=2) (n:=1) r2 rfl (RdCs.glue (o:=3) (n:=3) r3 rfl (RdCs.last (o:=6) (n:=1) r4 hl))))
theorem dC:prog.cellsOf 100=10:=AQu
theorem DQuery.len (d:DQuery):d.c.length=10:=by rw[DQuery.c_eq]; simp[DPred.len]
theorem tq:∀ (fuel:Nat) (cs:List Value) (y:DataW H×List MemPlace),DataW.trod enc prog w 0 sp held fuel 100 cs=some y->∃ x:DQuery,RdCs w cs x.c:=by intro fuel cs y h;obtain⟨fu,hfu,hl,hF⟩:=EN underlying100 dC h;obtain⟨_,h0⟩:=hF 0 _ rfl;obtain⟨x0,r0⟩:=Bf _ _ _ h0;simp only[cells3] at r0;obtain⟨_,h1⟩:=hF 1 _ rfl;obtain⟨x1,r1⟩:=AE2 _ _ _ h1;simp only[nV] at r1;obtain⟨_,h2⟩:=hF 2 _ rfl;obtain⟨x2,r2⟩:=Bf _ _ _ h2;simp only[cells3] at r2;obtain⟨_,h3⟩:=hF 3 _ rfl;obtain⟨x3,r3⟩:=ZR _ _ _ h3;simp only[cells22] at r3;refine⟨⟨x0,x1,x2,x3⟩, ?_⟩;rw[DQuery.c_eq];exact RdCs.glue (o:=0) (n:=1) r0 rfl (RdCs.glue (o:=1) (n:=7) r1 rfl (RdCs.glue (o:=8) (n:=1) r2 rfl (RdCs.last (o:=9) (n:=1) r3 hl)))
theorem tu:prog.cellsOf 106=6:=AQu
theorem DResult.len (d:DResult):d.c.length=6:=by rw[DResult.c_eq]; simp[DVal.len]
theorem ABe:∀ (fuel:Nat) (cs:List Value) (y:DataW H×List MemPlace),DataW.trod enc prog w 0 sp held fuel 106 cs=some y->∃ x:DResult,RdCs w cs x.c:=by intro fuel cs y h;obtain⟨fu,hfu,hl,hF⟩:=EN underlying106 tu h;obtain⟨_,h0⟩:=hF 0 _ rfl;obtain⟨x0,r0⟩:=AAK _ _ _ h0;simp only[tZ] at r0;obtain⟨_,h1⟩:=hF 1 _ rfl;obtain⟨x1,r1⟩:=Bf _ _ _ h1;simp only[cells3] at r1;obtain⟨_,h2⟩:=hF 2 _ rfl;obtain⟨x2,r2⟩:=AAJ _ _ _ h2;simp only[cells4] at r2;obtain⟨_,h3⟩:=hF 3 _ rfl;obtain⟨x3,r3⟩:=yC _ _ _ h3;simp only[ZT] at r3;refine⟨⟨x0,x1,x2,x3⟩, ?_⟩;rw[DResult.c_eq];exact RdCs.glue (o:=0) (n:=1) r0 rfl (RdCs.glue (o:=1) (n:=1) r1 rfl (RdCs.glue (o:=2) (n:=1) r2 rfl (RdCs.last (o:=3) (n:=3) r3 hl)))
theorem t_:prog.cellsOf 264=2:=AQu
theorem DSlot.len (d:DSlot):d.c.length=2:=by rw[DSlot.c_eq]; simp[]
theorem AE3:∀ (fuel:Nat) (cs:List Value) (y:DataW H×List MemPlace),DataW.trod enc prog w 0 sp held fuel 264 cs=some y->∃ x:DSlot,RdCs w cs x.c:=by intro fuel cs y h;obtain⟨fu,hfu,hl,hF⟩:=EN underlying264 t_ h;obtain⟨_,h0⟩:=hF 0 _ rfl;obtain⟨x0,r0⟩:=Bf _ _ _ h0;simp only[cells3] at r0;obtain⟨_,h1⟩:=hF 1 _ rfl;obtain⟨x1,r1⟩:=ZV _ _ _ h1;simp only[ZU] at r1;refine⟨⟨x0,x1⟩, ?_⟩;rw[DSlot.c_eq];exact ALo
theorem cells86:prog.cellsOf 86=1:=AQu
theorem ADJ:∀ (fuel:Nat) (cs:List Value) (y:DataW H×List MemPlace),DataW.trod enc prog w 0 sp held fuel 86 cs=some y->∃ xs:List DSlot,RdCs w cs [.sl (xs.map DSlot.c)]:=fun fuel _ _ h=>Hw underlying86 t_ (fun x=>DSlot.len x) AOl (fun fuel' _=>AE3 fuel') h
theorem AAL:prog.cellsOf 88=2:=AQu
theorem DChunk.len (d:DChunk):d.c.length=2:=by rw[DChunk.c_eq]; simp[]
theorem ADK:∀ (fuel:Nat) (cs:List Value) (y:DataW H×List MemPlace),DataW.trod enc prog w 0 sp held fuel 88 cs=some y->∃ x:DChunk,RdCs w cs x.c:=by intro fuel cs y h;obtain⟨fu,hfu,hl,hF⟩:=EN underlying88 AAL h;obtain⟨_,h0⟩:=hF 0 _ rfl;obtain⟨x0,r0⟩:=Bf _ _ _ h0;simp only[cells3] at r0;obtain⟨_,h1⟩:=hF 1 _ rfl;obtain⟨x1,r1⟩:=ADJ _ _ _ h1;simp only[cells86] at r1;refine⟨⟨x0,x1⟩, ?_⟩;rw[DChunk.c_eq];exact ALo
theorem AAM:prog.cellsOf 91=5:=AQu
theorem DBuf.len (d:DBuf):d.c.length=5:=by rw[DBuf.c_eq]; simp[DChunk.len]
theorem AGy:∀ (fuel:Nat) (cs:List Value) (y:DataW H×List MemPlace),DataW.trod enc prog w 0 sp held fuel 91 cs=some y->∃ x:DBuf,RdCs w cs x.c:=by intro fuel cs y h;obtain⟨fu,hfu,hl,hF⟩:=EN underlying91 AAM h;obtain⟨_,h0⟩:=hF 0 _ rfl;obtain⟨x0,r0⟩:=Bf _ _ _ h0;simp only[cells3] at r0;obtain⟨_,h1⟩:=hF 1 _ rfl;obtain⟨x1,r1⟩:=Bf _ _ _ h1;simp only[cells3] at r1;obtain⟨_,h2⟩:=hF 2 _ rfl;obtain⟨x2,r2⟩:=ADK _ _ _ h2;simp only[AAL] at r2;obtain⟨_,h3⟩:=hF 3 _ rfl;obtain⟨x3,r3⟩:=ADI _ _ _ h3;simp only[AE0] at r3;refine⟨⟨x0,x1,x2,x3⟩, ?_⟩;rw[DBuf.c_eq];exact RdCs.glue (o:=0) (n:=1) r0 rfl (RdCs.glue (o:=1) (n:=1) r1 rfl (RdCs.glue (o:=2) (n:=2) r2 rfl (RdCs.last (o:=4) (n:=1) r3 hl)))
theorem cells28:prog.cellsOf 28=1:=AQu
theorem AE4:∀ (fuel:Nat) (cs:List Value) (y:DataW H×List MemPlace),DataW.trod enc prog w 0 sp held fuel 28 cs=some y->∃ xs:List DBuf,RdCs w cs [.sl (xs.map DBuf.c)]:=fun fuel _ _ h=>Hw underlying28 AAM (fun x=>DBuf.len x) AOl (fun fuel' _=>AGy fuel') h
theorem uA:prog.cellsOf 154=3:=AQu
theorem DDead.len (d:DDead):d.c.length=3:=by rw[DDead.c_eq]; simp[]
theorem AE5:∀ (fuel:Nat) (cs:List Value) (y:DataW H×List MemPlace),DataW.trod enc prog w 0 sp held fuel 154 cs=some y->∃ x:DDead,RdCs w cs x.c:=by intro fuel cs y h;obtain⟨fu,hfu,hl,hF⟩:=EN underlying154 uA h;obtain⟨_,h0⟩:=hF 0 _ rfl;obtain⟨x0,r0⟩:=Bf _ _ _ h0;simp only[cells3] at r0;obtain⟨_,h1⟩:=hF 1 _ rfl;obtain⟨x1,r1⟩:=Bf _ _ _ h1;simp only[cells3] at r1;obtain⟨_,h2⟩:=hF 2 _ rfl;obtain⟨x2,r2⟩:=Bf _ _ _ h2;simp only[cells3] at r2;refine⟨⟨x0,x1,x2⟩, ?_⟩;rw[DDead.c_eq];exact ALk
theorem cells29:prog.cellsOf 29=1:=AQu
theorem ADL:∀ (fuel:Nat) (cs:List Value) (y:DataW H×List MemPlace),DataW.trod enc prog w 0 sp held fuel 29 cs=some y->∃ xs:List DDead,RdCs w cs [.sl (xs.map DDead.c)]:=fun fuel _ _ h=>Hw underlying29 uA (fun x=>DDead.len x) AOl (fun fuel' _=>AE5 fuel') h
theorem uB:prog.cellsOf 210=5:=AQu
theorem DRef.len (d:DRef):d.c.length=5:=by rw[DRef.c_eq]; simp[]
theorem AGz:∀ (fuel:Nat) (cs:List Value) (y:DataW H×List MemPlace),DataW.trod enc prog w 0 sp held fuel 210 cs=some y->∃ x:DRef,RdCs w cs x.c:=by intro fuel cs y h;obtain⟨fu,hfu,hl,hF⟩:=EN underlying210 uB h;obtain⟨_,h0⟩:=hF 0 _ rfl;obtain⟨x0,r0⟩:=Bf _ _ _ h0;simp only[cells3] at r0;obtain⟨_,h1⟩:=hF 1 _ rfl;obtain⟨x1,r1⟩:=Bf _ _ _ h1;simp only[cells3] at r1;obtain⟨_,h2⟩:=hF 2 _ rfl;obtain⟨x2,r2⟩:=Bf _ _ _ h2;simp only[cells3] at r2;obtain⟨_,h3⟩:=hF 3 _ rfl;obtain⟨x3,r3⟩:=Bf _ _ _ h3;simp only[cells3] at r3;obtain⟨_,h4⟩:=hF 4 _ rfl;obtain⟨x4,r4⟩:=Bf _ _ _ h4;simp only[cells3] at r4;refine⟨⟨x0,x1,x2,x3,x4⟩, ?_⟩;rw[DRef.c_eq];exact RdCs.glue (o:=0) (n:=1) r0 rfl (RdCs.glue (o:=1) (n:=1) r1 rfl (RdCs.glue (o:=2) (n:=1) r2 rfl (RdCs.glue (o:=3) (n:=1) r3 rfl (RdCs.last (o:=4) (n:=1) r4 hl))))
theorem cells25:prog.cellsOf 25=1:=AQu
theorem AAN:∀ (fuel:Nat) (cs:List Value) (y:DataW H×List MemPlace),DataW.trod enc prog w 0 sp held fuel 25 cs=some y->∃ xs:List DRef,RdCs w cs [.sl (xs.map DRef.c)]:=fun fuel _ _ h=>Hw underlying25 uB (fun x=>DRef.len x) AOl (fun fuel' _=>AGz fuel') h
theorem cells27:prog.cellsOf 27=2:=AQu
theorem DDir.len (d:DDir):d.c.length=2:=by rw[DDir.c_eq]; simp[]
theorem AG0:∀ (fuel:Nat) (cs:List Value) (y:DataW H×List MemPlace),DataW.trod enc prog w 0 sp held fuel 27 cs=some y->∃ x:DDir,RdCs w cs x.c:=by intro fuel cs y h;obtain⟨fu,hfu,hl,hF⟩:=EN underlying27 cells27 h;obtain⟨_,h0⟩:=hF 0 _ rfl;obtain⟨x0,r0⟩:=Bf _ _ _ h0;simp only[cells3] at r0;obtain⟨_,h1⟩:=hF 1 _ rfl;obtain⟨x1,r1⟩:=AAN _ _ _ h1;simp only[cells25] at r1;refine⟨⟨x0,x1⟩, ?_⟩;rw[DDir.c_eq];exact ALo
theorem uC:prog.cellsOf 103=25:=AQu
theorem DTask.len (d:DTask):d.c.length=25:=by rw[DTask.c_eq]; simp[DQuery.len]
theorem AE6:∀ (fuel:Nat) (cs:List Value) (y:DataW H×List MemPlace),DataW.trod enc prog w 0 sp held fuel 103 cs=some y->∃ x:DTask,RdCs w cs x.c:=by intro fuel cs y h;obtain⟨fu,hfu,hl,hF⟩:=EN underlying103 uC h;obtain⟨_,h0⟩:=hF 0 _ rfl;obtain⟨x0,r0⟩:=Bf _ _ _ h0;simp only[cells3] at r0;obtain⟨_,h1⟩:=hF 1 _ rfl;obtain⟨x1,r1⟩:=Bf _ _ _ h1;simp only[cells3] at r1;obtain⟨_,h2⟩:=hF 2 _ rfl;obtain⟨x2,r2⟩:=Bf _ _ _ h2;simp only[cells3] at r2;obtain⟨_,h3⟩:=hF 3 _ rfl;obtain⟨x3,r3⟩:=ZV _ _ _ h3;simp only[ZU] at r3;obtain⟨_,h4⟩:=hF 4 _ rfl;obtain⟨x4,r4⟩:=Bf _ _ _ h4;simp only[cells3] at r4;obtain⟨_,h5⟩:=hF 5 _ rfl;obtain⟨x5,r5⟩:=tq _ _ _ h5;simp only[dC] at r5;obtain⟨_,h6⟩:=hF 6 _ rfl;obtain⟨x6,r6⟩:=Bf _ _ _ h6;simp only[cells3] at r6;obtain⟨_,h7⟩:=hF 7 _ rfl;obtain⟨x7,r7⟩:=Bf _ _ _ h7;simp only[cells3] at r7;obtain⟨_,h8⟩:=hF 8 _ rfl;obtain⟨x8,r8⟩:=AAN _ _ _ h8;simp only[cells25] at r8;obtain⟨_,h9⟩:=hF 9 _ rfl;obtain⟨x9,r9⟩:=Bf _ _ _ h9;simp only[cells3] at r9;obtain⟨_,h10⟩:=hF 10 _ rfl;obtain⟨x10,r10⟩:=Bf _ _ _ h10;simp only[cells3] at r10;obtain⟨_,h11⟩:=hF 11 _ rfl;obtain⟨x11,r11⟩:=Bf _ _ _ h11;simp only[cells3] at r11;obtain⟨_,h12⟩:=hF 12 _ rfl;obtain⟨x12,r12⟩:=Bf _ _ _ h12;simp only[cells3] at r12;obtain⟨_,h13⟩:=hF 13 _ rfl;obtain⟨x13,r13⟩:=Bf _ _ _ h13;simp only[cells3] at r13;obtain⟨_,h14⟩:=hF 14 _ rfl;obtain⟨x14,r14⟩:=AAJ _ _ _ h14;simp only[cells4] at r14;obtain⟨_,h15⟩:=hF 15 _ rfl;obtain⟨x15,r15⟩:=AAK _ _ _ h15;simp only[tZ] at r15;refine⟨⟨x0,x1,x2,x3,x4,x5,x6,x7,x8,x9,x10,x11,x12,x13,x14,x15⟩, ?_⟩;rw[DTask.c_eq];exact RdCs.glue (o:=0) (n:=1) r0 rfl (RdCs.glue (o:=1) (n:=1) r1 rfl (RdCs.glue (o:=2) (n:=1) r2 rfl (RdCs.glue (o:=3) (n:=1) r3 rfl (RdCs.glue (o:=4) (n:=1) r4 rfl (RdCs.glue (o:=5) (n:=10) r5 rfl (RdCs.glue (o:=15) (n:=1) r6 rfl (RdCs.glue (o:=16) (n:=1) r7 rfl (RdCs.glue (o:=17) (n:=1) r8 rfl (RdCs.glue (o:=18) (n:=1) r9 rfl (RdCs.glue (o:=19) (n:=1) r10 rfl (RdCs.glue (o:=20) (n:=1) r11 rfl (RdCs.glue (o:=21) (n:=1) r12 rfl (RdCs.glue (o:=22) (n:=1) r13 rfl (RdCs.glue (o:=23) (n:=1) r14 rfl (RdCs.last (o:=24) (n:=1) r15 hl)))))))))))))))
theorem cells30:prog.cellsOf 30=1:=AQu
theorem ADM:∀ (fuel:Nat) (cs:List Value) (y:DataW H×List MemPlace),DataW.trod enc prog w 0 sp held fuel 30 cs=some y->∃ xs:List DTask,RdCs w cs [.sl (xs.map DTask.c)]:=fun fuel _ _ h=>Hw underlying30 uC (fun x=>DTask.len x) AOl (fun fuel' _=>AE6 fuel') h
theorem uD:prog.cellsOf 108=25:=AQu
theorem DDeed.len (d:DDeed):d.c.length=25:=by rw[DDeed.c_eq]; simp[DQuery.len,DResult.len]
theorem AE7:∀ (fuel:Nat) (cs:List Value) (y:DataW H×List MemPlace),DataW.trod enc prog w 0 sp held fuel 108 cs=some y->∃ x:DDeed,RdCs w cs x.c:=by intro fuel cs y h;obtain⟨fu,hfu,hl,hF⟩:=EN underlying108 uD h;obtain⟨_,h0⟩:=hF 0 _ rfl;obtain⟨x0,r0⟩:=Bf _ _ _ h0;simp only[cells3] at r0;obtain⟨_,h1⟩:=hF 1 _ rfl;obtain⟨x1,r1⟩:=Bf _ _ _ h1;simp only[cells3] at r1;obtain⟨_,h2⟩:=hF 2 _ rfl;obtain⟨x2,r2⟩:=ZV _ _ _ h2;simp only[ZU] at r2;obtain⟨_,h3⟩:=hF 3 _ rfl;obtain⟨x3,r3⟩:=Bf _ _ _ h3;simp only[cells3] at r3;obtain⟨_,h4⟩:=hF 4 _ rfl;obtain⟨x4,r4⟩:=tq _ _ _ h4;simp only[dC] at r4;obtain⟨_,h5⟩:=hF 5 _ rfl;obtain⟨x5,r5⟩:=ABe _ _ _ h5;simp only[tu] at r5;obtain⟨_,h6⟩:=hF 6 _ rfl;obtain⟨x6,r6⟩:=Bf _ _ _ h6;simp only[cells3] at r6;obtain⟨_,h7⟩:=hF 7 _ rfl;obtain⟨x7,r7⟩:=Bf _ _ _ h7;simp only[cells3] at r7;obtain⟨_,h8⟩:=hF 8 _ rfl;obtain⟨x8,r8⟩:=Bf _ _ _ h8;simp only[cells3] at r8;obtain⟨_,h9⟩:=hF 9 _ rfl;obtain⟨x9,r9⟩:=Bf _ _ _ h9;simp only[cells3] at r9;obtain⟨_,h10⟩:=hF 10 _ rfl;obtain⟨x10,r10⟩:=Bf _ _ _ h10;simp only[cells3] at r10;refine⟨⟨x0,x1,x2,x3,x4,x5,x6,x7,x8,x9,x10⟩, ?_⟩;rw[DDeed.c_eq];exact RdCs.glue (o:=0) (n:=1) r0 rfl (RdCs.glue (o:=1) (n:=1) r1 rfl (RdCs.glue (o:=2) (n:=1) r2 rfl (RdCs.glue (o:=3) (n:=1) r3 rfl (RdCs.glue (o:=4) (n:=10) r4 rfl (RdCs.glue (o:=14) (n:=6) r5 rfl (RdCs.glue (o:=20) (n:=1) r6 rfl (RdCs.glue (o:=21) (n:=1) r7 rfl (RdCs.glue (o:=22) (n:=1) r8 rfl (RdCs.glue (o:=23) (n:=1) r9 rfl (RdCs.last (o:=24) (n:=1) r10 hl))))))))))
theorem cells31:prog.cellsOf 31=1:=AQu
theorem ADN:∀ (fuel:Nat) (cs:List Value) (y:DataW H×List MemPlace),DataW.trod enc prog w 0 sp held fuel 31 cs=some y->∃ xs:List DDeed,RdCs w cs [.sl (xs.map DDeed.c)]:=fun fuel _ _ h=>Hw underlying31 uD (fun x=>DDeed.len x) AOl (fun fuel' _=>AE7 fuel') h
theorem cells24:prog.cellsOf 24=3:=AQu
theorem DConf.len (d:DConf):d.c.length=3:=by rw[DConf.c_eq]; simp[]
theorem AE8:∀ (fuel:Nat) (cs:List Value) (y:DataW H×List MemPlace),DataW.trod enc prog w 0 sp held fuel 24 cs=some y->∃ x:DConf,RdCs w cs x.c:=by intro fuel cs y h;obtain⟨fu,hfu,hl,hF⟩:=EN underlying24 cells24 h;obtain⟨_,h0⟩:=hF 0 _ rfl;obtain⟨x0,r0⟩:=ZR _ _ _ h0;simp only[cells22] at r0;obtain⟨_,h1⟩:=hF 1 _ rfl;obtain⟨x1,r1⟩:=Bf _ _ _ h1;simp only[cells3] at r1;obtain⟨_,h2⟩:=hF 2 _ rfl;obtain⟨x2,r2⟩:=Bf _ _ _ h2;simp only[cells3] at r2;refine⟨⟨x0,x1,x2⟩, ?_⟩;rw[DConf.c_eq];exact ALk
theorem cells33:prog.cellsOf 33=14:=AQu
theorem DWorld.len (d:DWorld):d.c.length=14:=by rw[DWorld.c_eq]; simp[DConf.len,DDir.len]
theorem ADO:∀ (fuel:Nat) (cs:List Value) (y:DataW H×List MemPlace),DataW.trod enc prog w 0 sp held fuel 33 cs=some y->∃ x:DWorld,RdCs w cs x.c:=by intro fuel cs y h;obtain⟨fu,hfu,hl,hF⟩:=EN underlying33 cells33 h;obtain⟨_,h0⟩:=hF 0 _ rfl;obtain⟨x0,r0⟩:=AE8 _ _ _ h0;simp only[cells24] at r0;obtain⟨_,h1⟩:=hF 1 _ rfl;obtain⟨x1,r1⟩:=Bf _ _ _ h1;simp only[cells3] at r1;obtain⟨_,h2⟩:=hF 2 _ rfl;obtain⟨x2,r2⟩:=Bf _ _ _ h2;simp only[cells3] at r2;obtain⟨_,h3⟩:=hF 3 _ rfl;obtain⟨x3,r3⟩:=Bf _ _ _ h3;simp only[cells3] at r3;obtain⟨_,h4⟩:=hF 4 _ rfl;obtain⟨x4,r4⟩:=AG0 _ _ _ h4;simp only[cells27] at r4;obtain⟨_,h5⟩:=hF 5 _ rfl;obtain⟨x5,r5⟩:=AE4 _ _ _ h5;simp only[cells28] at r5;obtain⟨_,h6⟩:=hF 6 _ rfl;obtain⟨x6,r6⟩:=ZR _ _ _ h6;simp only[cells22] at r6;obtain⟨_,h7⟩:=hF 7 _ rfl;obtain⟨x7,r7⟩:=ADL _ _ _ h7;simp only[cells29] at r7;obtain⟨_,h8⟩:=hF 8 _ rfl;obtain⟨x8,r8⟩:=ZR _ _ _ h8;simp only[cells22] at r8;obtain⟨_,h9⟩:=hF 9 _ rfl;obtain⟨x9,r9⟩:=ADM _ _ _ h9;simp only[cells30] at r9;obtain⟨_,h10⟩:=hF 10 _ rfl;obtain⟨x10,r10⟩:=ADN _ _ _ h10;simp only[cells31] at r10;refine⟨⟨x0,x1,x2,x3,x4,x5,x6,x7,x8,x9,x10⟩, ?_⟩;rw[DWorld.c_eq];exact RdCs.glue (o:=0) (n:=3) r0 rfl (RdCs.glue (o:=3) (n:=1) r1 rfl (RdCs.glue (o:=4) (n:=1) r2 rfl (RdCs.glue (o:=5) (n:=1) r3 rfl (RdCs.glue (o:=6) (n:=2) r4 rfl (RdCs.glue (o:=8) (n:=1) r5 rfl (RdCs.glue (o:=9) (n:=1) r6 rfl (RdCs.glue (o:=10) (n:=1) r7 rfl (RdCs.glue (o:=11) (n:=1) r8 rfl (RdCs.glue (o:=12) (n:=1) r9 rfl (RdCs.last (o:=13) (n:=1) r10 hl))))))))))
