/- A part. -/
import Derived.Test.YthmifbbmgnhddaaGreatDa
import Derived.Test.YthmifbbmgnhddaaGreatTy
import Derived.Test.YthmifbbmgnhddaaGreatDk
set_option linter.unusedSimpArgs false
set_option linter.unusedVariables false
set_option maxRecDepth 100000
open Go.Proofs.Tryz
namespace Go.Proofs.YthmifbbmgnhddaaGreat
open Go.Vm
section
variable {p q r:Prop}
theorem ASo(h:p:=by kernel_rfl):p:=h
end
variable {H:Type} {enc:TypeId×Value→H} {w:World} {sp:Nat→Bool} {held:Bool}
theorem cells3:prog.cellsOf 3=1:=ASo
theorem BQ:∀ (fuel:Nat) (cs:List Value) (y:DataW H×List MemPlace),DataW.trod enc prog w 0 sp held fuel 3 cs=some y→∃ x:Int,RdCs w cs [.v (.int .i64 x)]:=fun _ _ _ h=>AFJ underlying3 h
theorem cells9:prog.cellsOf 9=1:=ASo
theorem AD5:∀ (fuel:Nat) (cs:List Value) (y:DataW H×List MemPlace),DataW.trod enc prog w 0 sp held fuel 9 cs=some y→∃ x:ByteArray,RdCs w cs [.v (.string x)]:=fun _ _ _ h=>ADf underlying9 h
theorem cells4:prog.cellsOf 4=1:=ASo
theorem ACZ:∀ (fuel:Nat) (cs:List Value) (y:DataW H×List MemPlace),DataW.trod enc prog w 0 sp held fuel 4 cs=some y→∃ x:Bool,RdCs w cs [.v (.bool x)]:=fun _ _ _ h=>AHP underlying4 h
theorem cells5:prog.cellsOf 5=1:=ASo
theorem AHY:∀ (fuel:Nat) (cs:List Value) (y:DataW H×List MemPlace),DataW.trod enc prog w 0 sp held fuel 5 cs=some y→∃ x:Int,RdCs w cs [.v (.int .u8 x)]:=fun _ _ _ h=>AFJ underlying5 h
theorem cells22:prog.cellsOf 22=1:=ASo
theorem dK:∀ (fuel:Nat) (cs:List Value) (y:DataW H×List MemPlace),DataW.trod enc prog w 0 sp held fuel 22 cs=some y→∃ xs:List Int,RdCs w cs [.sl (xs.map intC)]:=fun fuel _ _ h=>Hm underlying22 cells3 (fun _=>rfl) AQ2 (fun fuel' _=>BQ fuel') h
theorem AFf:prog.cellsOf 139=1:=ASo
theorem AFg:∀ (fuel:Nat) (cs:List Value) (y:DataW H×List MemPlace),DataW.trod enc prog w 0 sp held fuel 139 cs=some y→∃ xs:List Int,RdCs w cs [.sl (xs.map byteC)]:=fun fuel _ _ h=>Hm underlying139 cells5 (fun _=>rfl) AQ2 (fun fuel' _=>AHY fuel') h
theorem cells58:prog.cellsOf 58=3:=ASo
theorem DVal.len (d:DVal):d.c.length=3:=by rw[DVal.c_eq]; simp[]
theorem ABL:∀ (fuel:Nat) (cs:List Value) (y:DataW H×List MemPlace),DataW.trod enc prog w 0 sp held fuel 58 cs=some y→∃ x:DVal,RdCs w cs x.c:=by
  intro fuel cs y h
  obtain⟨fu,hfu,hl,hF⟩:=EE underlying58 cells58 h
  obtain⟨_,h0⟩:=hF 0 _ rfl
  obtain⟨x0,r0⟩:=BQ _ _ _ h0
  simp only[cells3] at r0
  obtain⟨_,h1⟩:=hF 1 _ rfl
  obtain⟨x1,r1⟩:=BQ _ _ _ h1
  simp only[cells3] at r1
  obtain⟨_,h2⟩:=hF 2 _ rfl
  obtain⟨x2,r2⟩:=AD5 _ _ _ h2
  simp only[cells9] at r2
  refine⟨⟨x0,x1,x2⟩, ?_⟩
  rw[DVal.c_eq]
  exact AOL
theorem cells34:prog.cellsOf 34=1:=ASo
theorem Wn:∀ (fuel:Nat) (cs:List Value) (y:DataW H×List MemPlace),DataW.trod enc prog w 0 sp held fuel 34 cs=some y→∃ xs:List DVal,RdCs w cs [.sl (xs.map DVal.c)]:=fun fuel _ _ h=>Hm underlying34 cells58 (fun x=>DVal.len x) AQ2 (fun fuel' _=>ABL fuel') h
theorem xY:prog.cellsOf 281=2:=ASo
theorem DRow.len (d:DRow):d.c.length=2:=by rw[DRow.c_eq]; simp[]
theorem AJs:∀ (fuel:Nat) (cs:List Value) (y:DataW H×List MemPlace),DataW.trod enc prog w 0 sp held fuel 281 cs=some y→∃ x:DRow,RdCs w cs x.c:=by
  intro fuel cs y h
  obtain⟨fu,hfu,hl,hF⟩:=EE underlying281 xY h
  obtain⟨_,h0⟩:=hF 0 _ rfl
  obtain⟨x0,r0⟩:=BQ _ _ _ h0
  simp only[cells3] at r0
  obtain⟨_,h1⟩:=hF 1 _ rfl
  obtain⟨x1,r1⟩:=Wn _ _ _ h1
  simp only[cells34] at r1
  refine⟨⟨x0,x1⟩, ?_⟩
  rw[DRow.c_eq]
  exact AOQ
theorem xZ:prog.cellsOf 143=1:=ASo
theorem ACa:∀ (fuel:Nat) (cs:List Value) (y:DataW H×List MemPlace),DataW.trod enc prog w 0 sp held fuel 143 cs=some y→∃ xs:List DRow,RdCs w cs [.sl (xs.map DRow.c)]:=fun fuel _ _ h=>Hm underlying143 xY (fun x=>DRow.len x) AQ2 (fun fuel' _=>AJs fuel') h
theorem rU:prog.cellsOf 61=7:=ASo
theorem DPred.len (d:DPred):d.c.length=7:=by rw[DPred.c_eq]; simp[DVal.len]
theorem cells59:prog.cellsOf 59=1:=ASo
theorem AHZ:∀ (fuel:Nat) (cs:List Value) (y:DataW H×List MemPlace),DataW.trod enc prog w 0 sp held fuel 61 cs=some y→∃ x:DPred,RdCs w cs x.c:=by
 intro fuel
 induction fuel using Nat.strongRecOn with
 | ind fuel ih =>
  intro cs y h
  obtain⟨fu,hfu,hl,hF⟩:=EE underlying61 rU h
  obtain⟨_,h0⟩:=hF 0 _ rfl
  obtain⟨x0,r0⟩:=BQ _ _ _ h0
  simp only[cells3] at r0
  obtain⟨_,h1⟩:=hF 1 _ rfl
  obtain⟨x1,r1⟩:=BQ _ _ _ h1
  simp only[cells3] at r1
  obtain⟨_,h2⟩:=hF 2 _ rfl
  obtain⟨x2,r2⟩:=BQ _ _ _ h2
  simp only[cells3] at r2
  obtain⟨_,h3⟩:=hF 3 _ rfl
  obtain⟨x3,r3⟩:=ABL _ _ _ h3
  simp only[cells58] at r3
  obtain⟨_,h4⟩:=hF 4 _ rfl
  obtain⟨x4,r4⟩:=Hm (f:=DPred.c) underlying59 rU (fun x=>DPred.len x) AQ2 (fun fuel' hlt cs y h=>ih fuel' AQ2 cs y h) h4
  simp only[cells59] at r4
  refine⟨.mk x0 x1 x2 x3 x4, ?_⟩
  rw[DPred.c_eq]
  exact RdCs.glue (o:=0) (n:=1) r0 rfl (RdCs.glue (o:=1) (n:=1) r1 rfl (RdCs.glue (o:=2) (n:=1) r2 rfl (RdCs.glue (o:=3) (n:=3) r3 rfl (RdCs.last (o:=6) (n:=1) r4 hl))))
theorem rV:prog.cellsOf 63=10:=ASo
theorem DQuery.len (d:DQuery):d.c.length=10:=by rw[DQuery.c_eq]; simp[DPred.len]
theorem iM:∀ (fuel:Nat) (cs:List Value) (y:DataW H×List MemPlace),DataW.trod enc prog w 0 sp held fuel 63 cs=some y→∃ x:DQuery,RdCs w cs x.c:=by
  intro fuel cs y h
  obtain⟨fu,hfu,hl,hF⟩:=EE underlying63 rV h
  obtain⟨_,h0⟩:=hF 0 _ rfl
  obtain⟨x0,r0⟩:=BQ _ _ _ h0
  simp only[cells3] at r0
  obtain⟨_,h1⟩:=hF 1 _ rfl
  obtain⟨x1,r1⟩:=AHZ _ _ _ h1
  simp only[rU] at r1
  obtain⟨_,h2⟩:=hF 2 _ rfl
  obtain⟨x2,r2⟩:=BQ _ _ _ h2
  simp only[cells3] at r2
  obtain⟨_,h3⟩:=hF 3 _ rfl
  obtain⟨x3,r3⟩:=dK _ _ _ h3
  simp only[cells22] at r3
  refine⟨⟨x0,x1,x2,x3⟩, ?_⟩
  rw[DQuery.c_eq]
  exact RdCs.glue (o:=0) (n:=1) r0 rfl (RdCs.glue (o:=1) (n:=7) r1 rfl (RdCs.glue (o:=8) (n:=1) r2 rfl (RdCs.last (o:=9) (n:=1) r3 hl)))
theorem xe:prog.cellsOf 148=6:=ASo
theorem DResult.len (d:DResult):d.c.length=6:=by rw[DResult.c_eq]; simp[DVal.len]
theorem AD6:∀ (fuel:Nat) (cs:List Value) (y:DataW H×List MemPlace),DataW.trod enc prog w 0 sp held fuel 148 cs=some y→∃ x:DResult,RdCs w cs x.c:=by
  intro fuel cs y h
  obtain⟨fu,hfu,hl,hF⟩:=EE underlying148 xe h
  obtain⟨_,h0⟩:=hF 0 _ rfl
  obtain⟨x0,r0⟩:=ACa _ _ _ h0
  simp only[xZ] at r0
  obtain⟨_,h1⟩:=hF 1 _ rfl
  obtain⟨x1,r1⟩:=BQ _ _ _ h1
  simp only[cells3] at r1
  obtain⟨_,h2⟩:=hF 2 _ rfl
  obtain⟨x2,r2⟩:=ACZ _ _ _ h2
  simp only[cells4] at r2
  obtain⟨_,h3⟩:=hF 3 _ rfl
  obtain⟨x3,r3⟩:=ABL _ _ _ h3
  simp only[cells58] at r3
  refine⟨⟨x0,x1,x2,x3⟩, ?_⟩
  rw[DResult.c_eq]
  exact RdCs.glue (o:=0) (n:=1) r0 rfl (RdCs.glue (o:=1) (n:=1) r1 rfl (RdCs.glue (o:=2) (n:=1) r2 rfl (RdCs.last (o:=3) (n:=3) r3 hl)))
theorem xg:prog.cellsOf 304=2:=ASo
theorem DSlot.len (d:DSlot):d.c.length=2:=by rw[DSlot.c_eq]; simp[]
theorem AHa:∀ (fuel:Nat) (cs:List Value) (y:DataW H×List MemPlace),DataW.trod enc prog w 0 sp held fuel 304 cs=some y→∃ x:DSlot,RdCs w cs x.c:=by
  intro fuel cs y h
  obtain⟨fu,hfu,hl,hF⟩:=EE underlying304 xg h
  obtain⟨_,h0⟩:=hF 0 _ rfl
  obtain⟨x0,r0⟩:=BQ _ _ _ h0
  simp only[cells3] at r0
  obtain⟨_,h1⟩:=hF 1 _ rfl
  obtain⟨x1,r1⟩:=Wn _ _ _ h1
  simp only[cells34] at r1
  refine⟨⟨x0,x1⟩, ?_⟩
  rw[DSlot.c_eq]
  exact AOQ
theorem AFh:prog.cellsOf 136=1:=ASo
theorem AFi:∀ (fuel:Nat) (cs:List Value) (y:DataW H×List MemPlace),DataW.trod enc prog w 0 sp held fuel 136 cs=some y→∃ xs:List DSlot,RdCs w cs [.sl (xs.map DSlot.c)]:=fun fuel _ _ h=>Hm underlying136 xg (fun x=>DSlot.len x) AQ2 (fun fuel' _=>AHa fuel') h
theorem xh:prog.cellsOf 138=2:=ASo
theorem DChunk.len (d:DChunk):d.c.length=2:=by rw[DChunk.c_eq]; simp[]
theorem AFj:∀ (fuel:Nat) (cs:List Value) (y:DataW H×List MemPlace),DataW.trod enc prog w 0 sp held fuel 138 cs=some y→∃ x:DChunk,RdCs w cs x.c:=by
  intro fuel cs y h
  obtain⟨fu,hfu,hl,hF⟩:=EE underlying138 xh h
  obtain⟨_,h0⟩:=hF 0 _ rfl
  obtain⟨x0,r0⟩:=BQ _ _ _ h0
  simp only[cells3] at r0
  obtain⟨_,h1⟩:=hF 1 _ rfl
  obtain⟨x1,r1⟩:=AFi _ _ _ h1
  simp only[AFh] at r1
  refine⟨⟨x0,x1⟩, ?_⟩
  rw[DChunk.c_eq]
  exact AOQ
theorem xk:prog.cellsOf 141=5:=ASo
theorem DBuf.len (d:DBuf):d.c.length=5:=by rw[DBuf.c_eq]; simp[DChunk.len]
theorem AJt:∀ (fuel:Nat) (cs:List Value) (y:DataW H×List MemPlace),DataW.trod enc prog w 0 sp held fuel 141 cs=some y→∃ x:DBuf,RdCs w cs x.c:=by
  intro fuel cs y h
  obtain⟨fu,hfu,hl,hF⟩:=EE underlying141 xk h
  obtain⟨_,h0⟩:=hF 0 _ rfl
  obtain⟨x0,r0⟩:=BQ _ _ _ h0
  simp only[cells3] at r0
  obtain⟨_,h1⟩:=hF 1 _ rfl
  obtain⟨x1,r1⟩:=BQ _ _ _ h1
  simp only[cells3] at r1
  obtain⟨_,h2⟩:=hF 2 _ rfl
  obtain⟨x2,r2⟩:=AFj _ _ _ h2
  simp only[xh] at r2
  obtain⟨_,h3⟩:=hF 3 _ rfl
  obtain⟨x3,r3⟩:=AFg _ _ _ h3
  simp only[AFf] at r3
  refine⟨⟨x0,x1,x2,x3⟩, ?_⟩
  rw[DBuf.c_eq]
  exact RdCs.glue (o:=0) (n:=1) r0 rfl (RdCs.glue (o:=1) (n:=1) r1 rfl (RdCs.glue (o:=2) (n:=2) r2 rfl (RdCs.last (o:=4) (n:=1) r3 hl)))
theorem cells28:prog.cellsOf 28=1:=ASo
theorem AHb:∀ (fuel:Nat) (cs:List Value) (y:DataW H×List MemPlace),DataW.trod enc prog w 0 sp held fuel 28 cs=some y→∃ xs:List DBuf,RdCs w cs [.sl (xs.map DBuf.c)]:=fun fuel _ _ h=>Hm underlying28 xk (fun x=>DBuf.len x) AQ2 (fun fuel' _=>AJt fuel') h
theorem xm:prog.cellsOf 175=3:=ASo
theorem DDead.len (d:DDead):d.c.length=3:=by rw[DDead.c_eq]; simp[]
theorem AHc:∀ (fuel:Nat) (cs:List Value) (y:DataW H×List MemPlace),DataW.trod enc prog w 0 sp held fuel 175 cs=some y→∃ x:DDead,RdCs w cs x.c:=by
  intro fuel cs y h
  obtain⟨fu,hfu,hl,hF⟩:=EE underlying175 xm h
  obtain⟨_,h0⟩:=hF 0 _ rfl
  obtain⟨x0,r0⟩:=BQ _ _ _ h0
  simp only[cells3] at r0
  obtain⟨_,h1⟩:=hF 1 _ rfl
  obtain⟨x1,r1⟩:=BQ _ _ _ h1
  simp only[cells3] at r1
  obtain⟨_,h2⟩:=hF 2 _ rfl
  obtain⟨x2,r2⟩:=BQ _ _ _ h2
  simp only[cells3] at r2
  refine⟨⟨x0,x1,x2⟩, ?_⟩
  rw[DDead.c_eq]
  exact AOL
theorem cells29:prog.cellsOf 29=1:=ASo
theorem AFk:∀ (fuel:Nat) (cs:List Value) (y:DataW H×List MemPlace),DataW.trod enc prog w 0 sp held fuel 29 cs=some y→∃ xs:List DDead,RdCs w cs [.sl (xs.map DDead.c)]:=fun fuel _ _ h=>Hm underlying29 xm (fun x=>DDead.len x) AQ2 (fun fuel' _=>AHc fuel') h
theorem xq:prog.cellsOf 242=5:=ASo
theorem DRef.len (d:DRef):d.c.length=5:=by rw[DRef.c_eq]; simp[]
theorem AJu:∀ (fuel:Nat) (cs:List Value) (y:DataW H×List MemPlace),DataW.trod enc prog w 0 sp held fuel 242 cs=some y→∃ x:DRef,RdCs w cs x.c:=by
  intro fuel cs y h
  obtain⟨fu,hfu,hl,hF⟩:=EE underlying242 xq h
  obtain⟨_,h0⟩:=hF 0 _ rfl
  obtain⟨x0,r0⟩:=BQ _ _ _ h0
  simp only[cells3] at r0
  obtain⟨_,h1⟩:=hF 1 _ rfl
  obtain⟨x1,r1⟩:=BQ _ _ _ h1
  simp only[cells3] at r1
  obtain⟨_,h2⟩:=hF 2 _ rfl
  obtain⟨x2,r2⟩:=BQ _ _ _ h2
  simp only[cells3] at r2
  obtain⟨_,h3⟩:=hF 3 _ rfl
  obtain⟨x3,r3⟩:=BQ _ _ _ h3
  simp only[cells3] at r3
  obtain⟨_,h4⟩:=hF 4 _ rfl
  obtain⟨x4,r4⟩:=BQ _ _ _ h4
  simp only[cells3] at r4
  refine⟨⟨x0,x1,x2,x3,x4⟩, ?_⟩
  rw[DRef.c_eq]
  exact RdCs.glue (o:=0) (n:=1) r0 rfl (RdCs.glue (o:=1) (n:=1) r1 rfl (RdCs.glue (o:=2) (n:=1) r2 rfl (RdCs.glue (o:=3) (n:=1) r3 rfl (RdCs.last (o:=4) (n:=1) r4 hl))))
theorem cells25:prog.cellsOf 25=1:=ASo
theorem ACb:∀ (fuel:Nat) (cs:List Value) (y:DataW H×List MemPlace),DataW.trod enc prog w 0 sp held fuel 25 cs=some y→∃ xs:List DRef,RdCs w cs [.sl (xs.map DRef.c)]:=fun fuel _ _ h=>Hm underlying25 xq (fun x=>DRef.len x) AQ2 (fun fuel' _=>AJu fuel') h
theorem cells27:prog.cellsOf 27=2:=ASo
theorem DDir.len (d:DDir):d.c.length=2:=by rw[DDir.c_eq]; simp[]
theorem AJv:∀ (fuel:Nat) (cs:List Value) (y:DataW H×List MemPlace),DataW.trod enc prog w 0 sp held fuel 27 cs=some y→∃ x:DDir,RdCs w cs x.c:=by
  intro fuel cs y h
  obtain⟨fu,hfu,hl,hF⟩:=EE underlying27 cells27 h
  obtain⟨_,h0⟩:=hF 0 _ rfl
  obtain⟨x0,r0⟩:=BQ _ _ _ h0
  simp only[cells3] at r0
  obtain⟨_,h1⟩:=hF 1 _ rfl
  obtain⟨x1,r1⟩:=ACb _ _ _ h1
  simp only[cells25] at r1
  refine⟨⟨x0,x1⟩, ?_⟩
  rw[DDir.c_eq]
  exact AOQ
theorem xu:prog.cellsOf 145=25:=ASo
theorem DTask.len (d:DTask):d.c.length=25:=by rw[DTask.c_eq]; simp[DQuery.len]
theorem AHd:∀ (fuel:Nat) (cs:List Value) (y:DataW H×List MemPlace),DataW.trod enc prog w 0 sp held fuel 145 cs=some y→∃ x:DTask,RdCs w cs x.c:=by
  intro fuel cs y h
  obtain⟨fu,hfu,hl,hF⟩:=EE underlying145 xu h
  obtain⟨_,h0⟩:=hF 0 _ rfl
  obtain⟨x0,r0⟩:=BQ _ _ _ h0
  simp only[cells3] at r0
  obtain⟨_,h1⟩:=hF 1 _ rfl
  obtain⟨x1,r1⟩:=BQ _ _ _ h1
  simp only[cells3] at r1
  obtain⟨_,h2⟩:=hF 2 _ rfl
  obtain⟨x2,r2⟩:=BQ _ _ _ h2
  simp only[cells3] at r2
  obtain⟨_,h3⟩:=hF 3 _ rfl
  obtain⟨x3,r3⟩:=Wn _ _ _ h3
  simp only[cells34] at r3
  obtain⟨_,h4⟩:=hF 4 _ rfl
  obtain⟨x4,r4⟩:=BQ _ _ _ h4
  simp only[cells3] at r4
  obtain⟨_,h5⟩:=hF 5 _ rfl
  obtain⟨x5,r5⟩:=iM _ _ _ h5
  simp only[rV] at r5
  obtain⟨_,h6⟩:=hF 6 _ rfl
  obtain⟨x6,r6⟩:=BQ _ _ _ h6
  simp only[cells3] at r6
  obtain⟨_,h7⟩:=hF 7 _ rfl
  obtain⟨x7,r7⟩:=BQ _ _ _ h7
  simp only[cells3] at r7
  obtain⟨_,h8⟩:=hF 8 _ rfl
  obtain⟨x8,r8⟩:=ACb _ _ _ h8
  simp only[cells25] at r8
  obtain⟨_,h9⟩:=hF 9 _ rfl
  obtain⟨x9,r9⟩:=BQ _ _ _ h9
  simp only[cells3] at r9
  obtain⟨_,h10⟩:=hF 10 _ rfl
  obtain⟨x10,r10⟩:=BQ _ _ _ h10
  simp only[cells3] at r10
  obtain⟨_,h11⟩:=hF 11 _ rfl
  obtain⟨x11,r11⟩:=BQ _ _ _ h11
  simp only[cells3] at r11
  obtain⟨_,h12⟩:=hF 12 _ rfl
  obtain⟨x12,r12⟩:=BQ _ _ _ h12
  simp only[cells3] at r12
  obtain⟨_,h13⟩:=hF 13 _ rfl
  obtain⟨x13,r13⟩:=BQ _ _ _ h13
  simp only[cells3] at r13
  obtain⟨_,h14⟩:=hF 14 _ rfl
  obtain⟨x14,r14⟩:=ACZ _ _ _ h14
  simp only[cells4] at r14
  obtain⟨_,h15⟩:=hF 15 _ rfl
  obtain⟨x15,r15⟩:=ACa _ _ _ h15
  simp only[xZ] at r15
  refine⟨⟨x0,x1,x2,x3,x4,x5,x6,x7,x8,x9,x10,x11,x12,x13,x14,x15⟩, ?_⟩
  rw[DTask.c_eq]
  exact RdCs.glue (o:=0) (n:=1) r0 rfl (RdCs.glue (o:=1) (n:=1) r1 rfl (RdCs.glue (o:=2) (n:=1) r2 rfl (RdCs.glue (o:=3) (n:=1) r3 rfl (RdCs.glue (o:=4) (n:=1) r4 rfl (RdCs.glue (o:=5) (n:=10) r5 rfl (RdCs.glue (o:=15) (n:=1) r6 rfl (RdCs.glue (o:=16) (n:=1) r7 rfl (RdCs.glue (o:=17) (n:=1) r8 rfl (RdCs.glue (o:=18) (n:=1) r9 rfl (RdCs.glue (o:=19) (n:=1) r10 rfl (RdCs.glue (o:=20) (n:=1) r11 rfl (RdCs.glue (o:=21) (n:=1) r12 rfl (RdCs.glue (o:=22) (n:=1) r13 rfl (RdCs.glue (o:=23) (n:=1) r14 rfl (RdCs.last (o:=24) (n:=1) r15 hl)))))))))))))))
theorem cells30:prog.cellsOf 30=1:=ASo
theorem AFl:∀ (fuel:Nat) (cs:List Value) (y:DataW H×List MemPlace),DataW.trod enc prog w 0 sp held fuel 30 cs=some y→∃ xs:List DTask,RdCs w cs [.sl (xs.map DTask.c)]:=fun fuel _ _ h=>Hm underlying30 xu (fun x=>DTask.len x) AQ2 (fun fuel' _=>AHd fuel') h
theorem xw:prog.cellsOf 150=25:=ASo
theorem DDeed.len (d:DDeed):d.c.length=25:=by rw[DDeed.c_eq]; simp[DQuery.len,DResult.len]
theorem AHe:∀ (fuel:Nat) (cs:List Value) (y:DataW H×List MemPlace),DataW.trod enc prog w 0 sp held fuel 150 cs=some y→∃ x:DDeed,RdCs w cs x.c:=by
  intro fuel cs y h
  obtain⟨fu,hfu,hl,hF⟩:=EE underlying150 xw h
  obtain⟨_,h0⟩:=hF 0 _ rfl
  obtain⟨x0,r0⟩:=BQ _ _ _ h0
  simp only[cells3] at r0
  obtain⟨_,h1⟩:=hF 1 _ rfl
  obtain⟨x1,r1⟩:=BQ _ _ _ h1
  simp only[cells3] at r1
  obtain⟨_,h2⟩:=hF 2 _ rfl
  obtain⟨x2,r2⟩:=Wn _ _ _ h2
  simp only[cells34] at r2
  obtain⟨_,h3⟩:=hF 3 _ rfl
  obtain⟨x3,r3⟩:=BQ _ _ _ h3
  simp only[cells3] at r3
  obtain⟨_,h4⟩:=hF 4 _ rfl
  obtain⟨x4,r4⟩:=iM _ _ _ h4
  simp only[rV] at r4
  obtain⟨_,h5⟩:=hF 5 _ rfl
  obtain⟨x5,r5⟩:=AD6 _ _ _ h5
  simp only[xe] at r5
  obtain⟨_,h6⟩:=hF 6 _ rfl
  obtain⟨x6,r6⟩:=BQ _ _ _ h6
  simp only[cells3] at r6
  obtain⟨_,h7⟩:=hF 7 _ rfl
  obtain⟨x7,r7⟩:=BQ _ _ _ h7
  simp only[cells3] at r7
  obtain⟨_,h8⟩:=hF 8 _ rfl
  obtain⟨x8,r8⟩:=BQ _ _ _ h8
  simp only[cells3] at r8
  obtain⟨_,h9⟩:=hF 9 _ rfl
  obtain⟨x9,r9⟩:=BQ _ _ _ h9
  simp only[cells3] at r9
  obtain⟨_,h10⟩:=hF 10 _ rfl
  obtain⟨x10,r10⟩:=BQ _ _ _ h10
  simp only[cells3] at r10
  refine⟨⟨x0,x1,x2,x3,x4,x5,x6,x7,x8,x9,x10⟩, ?_⟩
  rw[DDeed.c_eq]
  exact RdCs.glue (o:=0) (n:=1) r0 rfl (RdCs.glue (o:=1) (n:=1) r1 rfl (RdCs.glue (o:=2) (n:=1) r2 rfl (RdCs.glue (o:=3) (n:=1) r3 rfl (RdCs.glue (o:=4) (n:=10) r4 rfl (RdCs.glue (o:=14) (n:=6) r5 rfl (RdCs.glue (o:=20) (n:=1) r6 rfl (RdCs.glue (o:=21) (n:=1) r7 rfl (RdCs.glue (o:=22) (n:=1) r8 rfl (RdCs.glue (o:=23) (n:=1) r9 rfl (RdCs.last (o:=24) (n:=1) r10 hl))))))))))
theorem cells31:prog.cellsOf 31=1:=ASo
theorem AFm:∀ (fuel:Nat) (cs:List Value) (y:DataW H×List MemPlace),DataW.trod enc prog w 0 sp held fuel 31 cs=some y→∃ xs:List DDeed,RdCs w cs [.sl (xs.map DDeed.c)]:=fun fuel _ _ h=>Hm underlying31 xw (fun x=>DDeed.len x) AQ2 (fun fuel' _=>AHe fuel') h
theorem cells24:prog.cellsOf 24=3:=ASo
theorem DConf.len (d:DConf):d.c.length=3:=by rw[DConf.c_eq]; simp[]
theorem AHf:∀ (fuel:Nat) (cs:List Value) (y:DataW H×List MemPlace),DataW.trod enc prog w 0 sp held fuel 24 cs=some y→∃ x:DConf,RdCs w cs x.c:=by
  intro fuel cs y h
  obtain⟨fu,hfu,hl,hF⟩:=EE underlying24 cells24 h
  obtain⟨_,h0⟩:=hF 0 _ rfl
  obtain⟨x0,r0⟩:=dK _ _ _ h0
  simp only[cells22] at r0
  obtain⟨_,h1⟩:=hF 1 _ rfl
  obtain⟨x1,r1⟩:=BQ _ _ _ h1
  simp only[cells3] at r1
  obtain⟨_,h2⟩:=hF 2 _ rfl
  obtain⟨x2,r2⟩:=BQ _ _ _ h2
  simp only[cells3] at r2
  refine⟨⟨x0,x1,x2⟩, ?_⟩
  rw[DConf.c_eq]
  exact AOL
theorem cells33:prog.cellsOf 33=14:=ASo
theorem DWorld.len (d:DWorld):d.c.length=14:=by rw[DWorld.c_eq]; simp[DConf.len,DDir.len]
theorem iO:∀ (fuel:Nat) (cs:List Value) (y:DataW H×List MemPlace),DataW.trod enc prog w 0 sp held fuel 33 cs=some y→∃ x:DWorld,RdCs w cs x.c:=by
  intro fuel cs y h
  obtain⟨fu,hfu,hl,hF⟩:=EE underlying33 cells33 h
  obtain⟨_,h0⟩:=hF 0 _ rfl
  obtain⟨x0,r0⟩:=AHf _ _ _ h0
  simp only[cells24] at r0
  obtain⟨_,h1⟩:=hF 1 _ rfl
  obtain⟨x1,r1⟩:=BQ _ _ _ h1
  simp only[cells3] at r1
  obtain⟨_,h2⟩:=hF 2 _ rfl
  obtain⟨x2,r2⟩:=BQ _ _ _ h2
  simp only[cells3] at r2
  obtain⟨_,h3⟩:=hF 3 _ rfl
  obtain⟨x3,r3⟩:=BQ _ _ _ h3
  simp only[cells3] at r3
  obtain⟨_,h4⟩:=hF 4 _ rfl
  obtain⟨x4,r4⟩:=AJv _ _ _ h4
  simp only[cells27] at r4
  obtain⟨_,h5⟩:=hF 5 _ rfl
  obtain⟨x5,r5⟩:=AHb _ _ _ h5
  simp only[cells28] at r5
  obtain⟨_,h6⟩:=hF 6 _ rfl
  obtain⟨x6,r6⟩:=dK _ _ _ h6
  simp only[cells22] at r6
  obtain⟨_,h7⟩:=hF 7 _ rfl
  obtain⟨x7,r7⟩:=AFk _ _ _ h7
  simp only[cells29] at r7
  obtain⟨_,h8⟩:=hF 8 _ rfl
  obtain⟨x8,r8⟩:=dK _ _ _ h8
  simp only[cells22] at r8
  obtain⟨_,h9⟩:=hF 9 _ rfl
  obtain⟨x9,r9⟩:=AFl _ _ _ h9
  simp only[cells30] at r9
  obtain⟨_,h10⟩:=hF 10 _ rfl
  obtain⟨x10,r10⟩:=AFm _ _ _ h10
  simp only[cells31] at r10
  refine⟨⟨x0,x1,x2,x3,x4,x5,x6,x7,x8,x9,x10⟩, ?_⟩
  rw[DWorld.c_eq]
  exact RdCs.glue (o:=0) (n:=3) r0 rfl (RdCs.glue (o:=3) (n:=1) r1 rfl (RdCs.glue (o:=4) (n:=1) r2 rfl (RdCs.glue (o:=5) (n:=1) r3 rfl (RdCs.glue (o:=6) (n:=2) r4 rfl (RdCs.glue (o:=8) (n:=1) r5 rfl (RdCs.glue (o:=9) (n:=1) r6 rfl (RdCs.glue (o:=10) (n:=1) r7 rfl (RdCs.glue (o:=11) (n:=1) r8 rfl (RdCs.glue (o:=12) (n:=1) r9 rfl (RdCs.last (o:=13) (n:=1) r10 hl))))))))))
end Go.Proofs.YthmifbbmgnhddaaGreat
