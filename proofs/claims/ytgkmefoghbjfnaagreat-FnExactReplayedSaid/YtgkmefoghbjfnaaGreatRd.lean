/- A part. -/
import Derived.Test.YtgkmefoghbjfnaaGreatDa
import Derived.Test.YtgkmefoghbjfnaaGreatTy
import Derived.Test.YtgkmefoghbjfnaaGreatSq
set_option linter.unusedSimpArgs false
set_option linter.unusedVariables false
set_option maxRecDepth 100000
open Go.Proofs.Tryz
namespace Go.Proofs.YtgkmefoghbjfnaaGreat
open Go.Vm
variable {H:Type} {enc:TypeId×Value→H} {w:World} {sp:Nat→Bool} {held:Bool}
theorem cells3:prog.cellsOf 3=1:=by kernel_rfl
theorem Aw:∀ (fuel:Nat) (cs:List Value) (y:DataW H×List MemPlace),DataW.trod enc prog w 0 sp held fuel 3 cs=some y→∃ x:Int,RdCs w cs [.v (.int .i64 x)]:=fun _ _ _ h=>jM underlying3 h
theorem cells9:prog.cellsOf 9=1:=by kernel_rfl
theorem dW:∀ (fuel:Nat) (cs:List Value) (y:DataW H×List MemPlace),DataW.trod enc prog w 0 sp held fuel 9 cs=some y→∃ x:ByteArray,RdCs w cs [.v (.string x)]:=fun _ _ _ h=>eG underlying9 h
theorem cells4:prog.cellsOf 4=1:=by kernel_rfl
theorem ZP:∀ (fuel:Nat) (cs:List Value) (y:DataW H×List MemPlace),DataW.trod enc prog w 0 sp held fuel 4 cs=some y→∃ x:Bool,RdCs w cs [.v (.bool x)]:=fun _ _ _ h=>mF underlying4 h
theorem cells5:prog.cellsOf 5=1:=by kernel_rfl
theorem lg:∀ (fuel:Nat) (cs:List Value) (y:DataW H×List MemPlace),DataW.trod enc prog w 0 sp held fuel 5 cs=some y→∃ x:Int,RdCs w cs [.v (.int .u8 x)]:=fun _ _ _ h=>jM underlying5 h
theorem cells22:prog.cellsOf 22=1:=by kernel_rfl
theorem QK:∀ (fuel:Nat) (cs:List Value) (y:DataW H×List MemPlace),DataW.trod enc prog w 0 sp held fuel 22 cs=some y→∃ xs:List Int,RdCs w cs [.sl (xs.map intC)]:=fun fuel _ _ h=>Dq underlying22 cells3 (fun _=>rfl) (by omega) (fun fuel' _=>Aw fuel') h
theorem iZ:prog.cellsOf 105=1:=by kernel_rfl
theorem ig:∀ (fuel:Nat) (cs:List Value) (y:DataW H×List MemPlace),DataW.trod enc prog w 0 sp held fuel 105 cs=some y→∃ xs:List Int,RdCs w cs [.sl (xs.map byteC)]:=fun fuel _ _ h=>Dq underlying105 cells5 (fun _=>rfl) (by omega) (fun fuel' _=>lg fuel') h
theorem Np:prog.cellsOf 110=3:=by kernel_rfl
theorem DVal.len (d:DVal):d.c.length=3:=by rw[DVal.c_eq]; simp[]
theorem Yd:∀ (fuel:Nat) (cs:List Value) (y:DataW H×List MemPlace),DataW.trod enc prog w 0 sp held fuel 110 cs=some y→∃ x:DVal,RdCs w cs x.c:=by
  intro fuel cs y h
  obtain⟨fu,hfu,hl,hF⟩:=Bj underlying110 Np h
  obtain⟨_,h0⟩:=hF 0 _ rfl
  obtain⟨x0,r0⟩:=Aw _ _ _ h0
  simp only[cells3] at r0
  obtain⟨_,h1⟩:=hF 1 _ rfl
  obtain⟨x1,r1⟩:=Aw _ _ _ h1
  simp only[cells3] at r1
  obtain⟨_,h2⟩:=hF 2 _ rfl
  obtain⟨x2,r2⟩:=dW _ _ _ h2
  simp only[cells9] at r2
  refine⟨⟨x0,x1,x2⟩, ?_⟩
  rw[DVal.c_eq]
  exact RdCs.glue (o:=0) (n:=1) r0 rfl (RdCs.glue (o:=1) (n:=1) r1 rfl (RdCs.last (o:=2) (n:=1) r2 hl))
theorem Nq:prog.cellsOf 109=1:=by kernel_rfl
theorem QL:∀ (fuel:Nat) (cs:List Value) (y:DataW H×List MemPlace),DataW.trod enc prog w 0 sp held fuel 109 cs=some y→∃ xs:List DVal,RdCs w cs [.sl (xs.map DVal.c)]:=fun fuel _ _ h=>Dq underlying109 Np (fun x=>DVal.len x) (by omega) (fun fuel' _=>Yd fuel') h
theorem Wu:prog.cellsOf 203=2:=by kernel_rfl
theorem DRow.len (d:DRow):d.c.length=2:=by rw[DRow.c_eq]; simp[]
theorem qG:∀ (fuel:Nat) (cs:List Value) (y:DataW H×List MemPlace),DataW.trod enc prog w 0 sp held fuel 203 cs=some y→∃ x:DRow,RdCs w cs x.c:=by
  intro fuel cs y h
  obtain⟨fu,hfu,hl,hF⟩:=Bj underlying203 Wu h
  obtain⟨_,h0⟩:=hF 0 _ rfl
  obtain⟨x0,r0⟩:=Aw _ _ _ h0
  simp only[cells3] at r0
  obtain⟨_,h1⟩:=hF 1 _ rfl
  obtain⟨x1,r1⟩:=QL _ _ _ h1
  simp only[Nq] at r1
  refine⟨⟨x0,x1⟩, ?_⟩
  rw[DRow.c_eq]
  exact RdCs.glue (o:=0) (n:=1) r0 rfl (RdCs.last (o:=1) (n:=1) r1 hl)
theorem Wv:prog.cellsOf 116=1:=by kernel_rfl
theorem ZQ:∀ (fuel:Nat) (cs:List Value) (y:DataW H×List MemPlace),DataW.trod enc prog w 0 sp held fuel 116 cs=some y→∃ xs:List DRow,RdCs w cs [.sl (xs.map DRow.c)]:=fun fuel _ _ h=>Dq underlying116 Wu (fun x=>DRow.len x) (by omega) (fun fuel' _=>qG fuel') h
theorem RV:prog.cellsOf 113=7:=by kernel_rfl
theorem DPred.len (d:DPred):d.c.length=7:=by rw[DPred.c_eq]; simp[DVal.len]
theorem ik:prog.cellsOf 111=1:=by kernel_rfl
theorem lh:∀ (fuel:Nat) (cs:List Value) (y:DataW H×List MemPlace),DataW.trod enc prog w 0 sp held fuel 113 cs=some y→∃ x:DPred,RdCs w cs x.c:=by
 intro fuel
 induction fuel using Nat.strongRecOn with
 | ind fuel ih =>
  intro cs y h
  obtain⟨fu,hfu,hl,hF⟩:=Bj underlying113 RV h
  obtain⟨_,h0⟩:=hF 0 _ rfl
  obtain⟨x0,r0⟩:=Aw _ _ _ h0
  simp only[cells3] at r0
  obtain⟨_,h1⟩:=hF 1 _ rfl
  obtain⟨x1,r1⟩:=Aw _ _ _ h1
  simp only[cells3] at r1
  obtain⟨_,h2⟩:=hF 2 _ rfl
  obtain⟨x2,r2⟩:=Aw _ _ _ h2
  simp only[cells3] at r2
  obtain⟨_,h3⟩:=hF 3 _ rfl
  obtain⟨x3,r3⟩:=Yd _ _ _ h3
  simp only[Np] at r3
  obtain⟨_,h4⟩:=hF 4 _ rfl
  obtain⟨x4,r4⟩:=Dq (f:=DPred.c) underlying111 RV (fun x=>DPred.len x) (by omega) (fun fuel' hlt cs y h=>ih fuel' (by omega) cs y h) h4
  simp only[ik] at r4
  refine⟨.mk x0 x1 x2 x3 x4, ?_⟩
  rw[DPred.c_eq]
  exact RdCs.glue (o:=0) (n:=1) r0 rfl (RdCs.glue (o:=1) (n:=1) r1 rfl (RdCs.glue (o:=2) (n:=1) r2 rfl (RdCs.glue (o:=3) (n:=3) r3 rfl (RdCs.last (o:=6) (n:=1) r4 hl))))
theorem RX:prog.cellsOf 115=10:=by kernel_rfl
theorem DQuery.len (d:DQuery):d.c.length=10:=by rw[DQuery.c_eq]; simp[DPred.len]
theorem Wx:∀ (fuel:Nat) (cs:List Value) (y:DataW H×List MemPlace),DataW.trod enc prog w 0 sp held fuel 115 cs=some y→∃ x:DQuery,RdCs w cs x.c:=by
  intro fuel cs y h
  obtain⟨fu,hfu,hl,hF⟩:=Bj underlying115 RX h
  obtain⟨_,h0⟩:=hF 0 _ rfl
  obtain⟨x0,r0⟩:=Aw _ _ _ h0
  simp only[cells3] at r0
  obtain⟨_,h1⟩:=hF 1 _ rfl
  obtain⟨x1,r1⟩:=lh _ _ _ h1
  simp only[RV] at r1
  obtain⟨_,h2⟩:=hF 2 _ rfl
  obtain⟨x2,r2⟩:=Aw _ _ _ h2
  simp only[cells3] at r2
  obtain⟨_,h3⟩:=hF 3 _ rfl
  obtain⟨x3,r3⟩:=QK _ _ _ h3
  simp only[cells22] at r3
  refine⟨⟨x0,x1,x2,x3⟩, ?_⟩
  rw[DQuery.c_eq]
  exact RdCs.glue (o:=0) (n:=1) r0 rfl (RdCs.glue (o:=1) (n:=7) r1 rfl (RdCs.glue (o:=8) (n:=1) r2 rfl (RdCs.last (o:=9) (n:=1) r3 hl)))
theorem Wy:prog.cellsOf 121=6:=by kernel_rfl
theorem DResult.len (d:DResult):d.c.length=6:=by rw[DResult.c_eq]; simp[DVal.len]
theorem dX:∀ (fuel:Nat) (cs:List Value) (y:DataW H×List MemPlace),DataW.trod enc prog w 0 sp held fuel 121 cs=some y→∃ x:DResult,RdCs w cs x.c:=by
  intro fuel cs y h
  obtain⟨fu,hfu,hl,hF⟩:=Bj underlying121 Wy h
  obtain⟨_,h0⟩:=hF 0 _ rfl
  obtain⟨x0,r0⟩:=ZQ _ _ _ h0
  simp only[Wv] at r0
  obtain⟨_,h1⟩:=hF 1 _ rfl
  obtain⟨x1,r1⟩:=Aw _ _ _ h1
  simp only[cells3] at r1
  obtain⟨_,h2⟩:=hF 2 _ rfl
  obtain⟨x2,r2⟩:=ZP _ _ _ h2
  simp only[cells4] at r2
  obtain⟨_,h3⟩:=hF 3 _ rfl
  obtain⟨x3,r3⟩:=Yd _ _ _ h3
  simp only[Np] at r3
  refine⟨⟨x0,x1,x2,x3⟩, ?_⟩
  rw[DResult.c_eq]
  exact RdCs.glue (o:=0) (n:=1) r0 rfl (RdCs.glue (o:=1) (n:=1) r1 rfl (RdCs.glue (o:=2) (n:=1) r2 rfl (RdCs.last (o:=3) (n:=3) r3 hl)))
theorem W9:prog.cellsOf 228=2:=by kernel_rfl
theorem DSlot.len (d:DSlot):d.c.length=2:=by rw[DSlot.c_eq]; simp[]
theorem lm:∀ (fuel:Nat) (cs:List Value) (y:DataW H×List MemPlace),DataW.trod enc prog w 0 sp held fuel 228 cs=some y→∃ x:DSlot,RdCs w cs x.c:=by
  intro fuel cs y h
  obtain⟨fu,hfu,hl,hF⟩:=Bj underlying228 W9 h
  obtain⟨_,h0⟩:=hF 0 _ rfl
  obtain⟨x0,r0⟩:=Aw _ _ _ h0
  simp only[cells3] at r0
  obtain⟨_,h1⟩:=hF 1 _ rfl
  obtain⟨x1,r1⟩:=QL _ _ _ h1
  simp only[Nq] at r1
  refine⟨⟨x0,x1⟩, ?_⟩
  rw[DSlot.c_eq]
  exact RdCs.glue (o:=0) (n:=1) r0 rfl (RdCs.last (o:=1) (n:=1) r1 hl)
theorem iq:prog.cellsOf 102=1:=by kernel_rfl
theorem iw:∀ (fuel:Nat) (cs:List Value) (y:DataW H×List MemPlace),DataW.trod enc prog w 0 sp held fuel 102 cs=some y→∃ xs:List DSlot,RdCs w cs [.sl (xs.map DSlot.c)]:=fun fuel _ _ h=>Dq underlying102 W9 (fun x=>DSlot.len x) (by omega) (fun fuel' _=>lm fuel') h
theorem W_:prog.cellsOf 104=2:=by kernel_rfl
theorem DChunk.len (d:DChunk):d.c.length=2:=by rw[DChunk.c_eq]; simp[]
theorem iy:∀ (fuel:Nat) (cs:List Value) (y:DataW H×List MemPlace),DataW.trod enc prog w 0 sp held fuel 104 cs=some y→∃ x:DChunk,RdCs w cs x.c:=by
  intro fuel cs y h
  obtain⟨fu,hfu,hl,hF⟩:=Bj underlying104 W_ h
  obtain⟨_,h0⟩:=hF 0 _ rfl
  obtain⟨x0,r0⟩:=Aw _ _ _ h0
  simp only[cells3] at r0
  obtain⟨_,h1⟩:=hF 1 _ rfl
  obtain⟨x1,r1⟩:=iw _ _ _ h1
  simp only[iq] at r1
  refine⟨⟨x0,x1⟩, ?_⟩
  rw[DChunk.c_eq]
  exact RdCs.glue (o:=0) (n:=1) r0 rfl (RdCs.last (o:=1) (n:=1) r1 hl)
theorem XA:prog.cellsOf 107=5:=by kernel_rfl
theorem DBuf.len (d:DBuf):d.c.length=5:=by rw[DBuf.c_eq]; simp[DChunk.len]
theorem qH:∀ (fuel:Nat) (cs:List Value) (y:DataW H×List MemPlace),DataW.trod enc prog w 0 sp held fuel 107 cs=some y→∃ x:DBuf,RdCs w cs x.c:=by
  intro fuel cs y h
  obtain⟨fu,hfu,hl,hF⟩:=Bj underlying107 XA h
  obtain⟨_,h0⟩:=hF 0 _ rfl
  obtain⟨x0,r0⟩:=Aw _ _ _ h0
  simp only[cells3] at r0
  obtain⟨_,h1⟩:=hF 1 _ rfl
  obtain⟨x1,r1⟩:=Aw _ _ _ h1
  simp only[cells3] at r1
  obtain⟨_,h2⟩:=hF 2 _ rfl
  obtain⟨x2,r2⟩:=iy _ _ _ h2
  simp only[W_] at r2
  obtain⟨_,h3⟩:=hF 3 _ rfl
  obtain⟨x3,r3⟩:=ig _ _ _ h3
  simp only[iZ] at r3
  refine⟨⟨x0,x1,x2,x3⟩, ?_⟩
  rw[DBuf.c_eq]
  exact RdCs.glue (o:=0) (n:=1) r0 rfl (RdCs.glue (o:=1) (n:=1) r1 rfl (RdCs.glue (o:=2) (n:=2) r2 rfl (RdCs.last (o:=4) (n:=1) r3 hl)))
theorem cells28:prog.cellsOf 28=1:=by kernel_rfl
theorem lq:∀ (fuel:Nat) (cs:List Value) (y:DataW H×List MemPlace),DataW.trod enc prog w 0 sp held fuel 28 cs=some y→∃ xs:List DBuf,RdCs w cs [.sl (xs.map DBuf.c)]:=fun fuel _ _ h=>Dq underlying28 XA (fun x=>DBuf.len x) (by omega) (fun fuel' _=>qH fuel') h
theorem XB:prog.cellsOf 138=3:=by kernel_rfl
theorem DDead.len (d:DDead):d.c.length=3:=by rw[DDead.c_eq]; simp[]
theorem lu:∀ (fuel:Nat) (cs:List Value) (y:DataW H×List MemPlace),DataW.trod enc prog w 0 sp held fuel 138 cs=some y→∃ x:DDead,RdCs w cs x.c:=by
  intro fuel cs y h
  obtain⟨fu,hfu,hl,hF⟩:=Bj underlying138 XB h
  obtain⟨_,h0⟩:=hF 0 _ rfl
  obtain⟨x0,r0⟩:=Aw _ _ _ h0
  simp only[cells3] at r0
  obtain⟨_,h1⟩:=hF 1 _ rfl
  obtain⟨x1,r1⟩:=Aw _ _ _ h1
  simp only[cells3] at r1
  obtain⟨_,h2⟩:=hF 2 _ rfl
  obtain⟨x2,r2⟩:=Aw _ _ _ h2
  simp only[cells3] at r2
  refine⟨⟨x0,x1,x2⟩, ?_⟩
  rw[DDead.c_eq]
  exact RdCs.glue (o:=0) (n:=1) r0 rfl (RdCs.glue (o:=1) (n:=1) r1 rfl (RdCs.last (o:=2) (n:=1) r2 hl))
theorem cells29:prog.cellsOf 29=1:=by kernel_rfl
theorem jA:∀ (fuel:Nat) (cs:List Value) (y:DataW H×List MemPlace),DataW.trod enc prog w 0 sp held fuel 29 cs=some y→∃ xs:List DDead,RdCs w cs [.sl (xs.map DDead.c)]:=fun fuel _ _ h=>Dq underlying29 XB (fun x=>DDead.len x) (by omega) (fun fuel' _=>lu fuel') h
theorem XC:prog.cellsOf 174=5:=by kernel_rfl
theorem DRef.len (d:DRef):d.c.length=5:=by rw[DRef.c_eq]; simp[]
theorem qI:∀ (fuel:Nat) (cs:List Value) (y:DataW H×List MemPlace),DataW.trod enc prog w 0 sp held fuel 174 cs=some y→∃ x:DRef,RdCs w cs x.c:=by
  intro fuel cs y h
  obtain⟨fu,hfu,hl,hF⟩:=Bj underlying174 XC h
  obtain⟨_,h0⟩:=hF 0 _ rfl
  obtain⟨x0,r0⟩:=Aw _ _ _ h0
  simp only[cells3] at r0
  obtain⟨_,h1⟩:=hF 1 _ rfl
  obtain⟨x1,r1⟩:=Aw _ _ _ h1
  simp only[cells3] at r1
  obtain⟨_,h2⟩:=hF 2 _ rfl
  obtain⟨x2,r2⟩:=Aw _ _ _ h2
  simp only[cells3] at r2
  obtain⟨_,h3⟩:=hF 3 _ rfl
  obtain⟨x3,r3⟩:=Aw _ _ _ h3
  simp only[cells3] at r3
  obtain⟨_,h4⟩:=hF 4 _ rfl
  obtain⟨x4,r4⟩:=Aw _ _ _ h4
  simp only[cells3] at r4
  refine⟨⟨x0,x1,x2,x3,x4⟩, ?_⟩
  rw[DRef.c_eq]
  exact RdCs.glue (o:=0) (n:=1) r0 rfl (RdCs.glue (o:=1) (n:=1) r1 rfl (RdCs.glue (o:=2) (n:=1) r2 rfl (RdCs.glue (o:=3) (n:=1) r3 rfl (RdCs.last (o:=4) (n:=1) r4 hl))))
theorem cells25:prog.cellsOf 25=1:=by kernel_rfl
theorem ZR:∀ (fuel:Nat) (cs:List Value) (y:DataW H×List MemPlace),DataW.trod enc prog w 0 sp held fuel 25 cs=some y→∃ xs:List DRef,RdCs w cs [.sl (xs.map DRef.c)]:=fun fuel _ _ h=>Dq underlying25 XC (fun x=>DRef.len x) (by omega) (fun fuel' _=>qI fuel') h
theorem cells27:prog.cellsOf 27=2:=by kernel_rfl
theorem DDir.len (d:DDir):d.c.length=2:=by rw[DDir.c_eq]; simp[]
theorem qJ:∀ (fuel:Nat) (cs:List Value) (y:DataW H×List MemPlace),DataW.trod enc prog w 0 sp held fuel 27 cs=some y→∃ x:DDir,RdCs w cs x.c:=by
  intro fuel cs y h
  obtain⟨fu,hfu,hl,hF⟩:=Bj underlying27 cells27 h
  obtain⟨_,h0⟩:=hF 0 _ rfl
  obtain⟨x0,r0⟩:=Aw _ _ _ h0
  simp only[cells3] at r0
  obtain⟨_,h1⟩:=hF 1 _ rfl
  obtain⟨x1,r1⟩:=ZR _ _ _ h1
  simp only[cells25] at r1
  refine⟨⟨x0,x1⟩, ?_⟩
  rw[DDir.c_eq]
  exact RdCs.glue (o:=0) (n:=1) r0 rfl (RdCs.last (o:=1) (n:=1) r1 hl)
theorem XD:prog.cellsOf 118=25:=by kernel_rfl
theorem DTask.len (d:DTask):d.c.length=25:=by rw[DTask.c_eq]; simp[DQuery.len]
theorem lw:∀ (fuel:Nat) (cs:List Value) (y:DataW H×List MemPlace),DataW.trod enc prog w 0 sp held fuel 118 cs=some y→∃ x:DTask,RdCs w cs x.c:=by
  intro fuel cs y h
  obtain⟨fu,hfu,hl,hF⟩:=Bj underlying118 XD h
  obtain⟨_,h0⟩:=hF 0 _ rfl
  obtain⟨x0,r0⟩:=Aw _ _ _ h0
  simp only[cells3] at r0
  obtain⟨_,h1⟩:=hF 1 _ rfl
  obtain⟨x1,r1⟩:=Aw _ _ _ h1
  simp only[cells3] at r1
  obtain⟨_,h2⟩:=hF 2 _ rfl
  obtain⟨x2,r2⟩:=Aw _ _ _ h2
  simp only[cells3] at r2
  obtain⟨_,h3⟩:=hF 3 _ rfl
  obtain⟨x3,r3⟩:=QL _ _ _ h3
  simp only[Nq] at r3
  obtain⟨_,h4⟩:=hF 4 _ rfl
  obtain⟨x4,r4⟩:=Aw _ _ _ h4
  simp only[cells3] at r4
  obtain⟨_,h5⟩:=hF 5 _ rfl
  obtain⟨x5,r5⟩:=Wx _ _ _ h5
  simp only[RX] at r5
  obtain⟨_,h6⟩:=hF 6 _ rfl
  obtain⟨x6,r6⟩:=Aw _ _ _ h6
  simp only[cells3] at r6
  obtain⟨_,h7⟩:=hF 7 _ rfl
  obtain⟨x7,r7⟩:=Aw _ _ _ h7
  simp only[cells3] at r7
  obtain⟨_,h8⟩:=hF 8 _ rfl
  obtain⟨x8,r8⟩:=ZR _ _ _ h8
  simp only[cells25] at r8
  obtain⟨_,h9⟩:=hF 9 _ rfl
  obtain⟨x9,r9⟩:=Aw _ _ _ h9
  simp only[cells3] at r9
  obtain⟨_,h10⟩:=hF 10 _ rfl
  obtain⟨x10,r10⟩:=Aw _ _ _ h10
  simp only[cells3] at r10
  obtain⟨_,h11⟩:=hF 11 _ rfl
  obtain⟨x11,r11⟩:=Aw _ _ _ h11
  simp only[cells3] at r11
  obtain⟨_,h12⟩:=hF 12 _ rfl
  obtain⟨x12,r12⟩:=Aw _ _ _ h12
  simp only[cells3] at r12
  obtain⟨_,h13⟩:=hF 13 _ rfl
  obtain⟨x13,r13⟩:=Aw _ _ _ h13
  simp only[cells3] at r13
  obtain⟨_,h14⟩:=hF 14 _ rfl
  obtain⟨x14,r14⟩:=ZP _ _ _ h14
  simp only[cells4] at r14
  obtain⟨_,h15⟩:=hF 15 _ rfl
  obtain⟨x15,r15⟩:=ZQ _ _ _ h15
  simp only[Wv] at r15
  refine⟨⟨x0,x1,x2,x3,x4,x5,x6,x7,x8,x9,x10,x11,x12,x13,x14,x15⟩, ?_⟩
  rw[DTask.c_eq]
  exact RdCs.glue (o:=0) (n:=1) r0 rfl (RdCs.glue (o:=1) (n:=1) r1 rfl (RdCs.glue (o:=2) (n:=1) r2 rfl (RdCs.glue (o:=3) (n:=1) r3 rfl (RdCs.glue (o:=4) (n:=1) r4 rfl (RdCs.glue (o:=5) (n:=10) r5 rfl (RdCs.glue (o:=15) (n:=1) r6 rfl (RdCs.glue (o:=16) (n:=1) r7 rfl (RdCs.glue (o:=17) (n:=1) r8 rfl (RdCs.glue (o:=18) (n:=1) r9 rfl (RdCs.glue (o:=19) (n:=1) r10 rfl (RdCs.glue (o:=20) (n:=1) r11 rfl (RdCs.glue (o:=21) (n:=1) r12 rfl (RdCs.glue (o:=22) (n:=1) r13 rfl (RdCs.glue (o:=23) (n:=1) r14 rfl (RdCs.last (o:=24) (n:=1) r15 hl)))))))))))))))
theorem cells30:prog.cellsOf 30=1:=by kernel_rfl
theorem jB:∀ (fuel:Nat) (cs:List Value) (y:DataW H×List MemPlace),DataW.trod enc prog w 0 sp held fuel 30 cs=some y→∃ xs:List DTask,RdCs w cs [.sl (xs.map DTask.c)]:=fun fuel _ _ h=>Dq underlying30 XD (fun x=>DTask.len x) (by omega) (fun fuel' _=>lw fuel') h
theorem XE:prog.cellsOf 123=25:=by kernel_rfl
theorem DDeed.len (d:DDeed):d.c.length=25:=by rw[DDeed.c_eq]; simp[DQuery.len,DResult.len]
theorem l7:∀ (fuel:Nat) (cs:List Value) (y:DataW H×List MemPlace),DataW.trod enc prog w 0 sp held fuel 123 cs=some y→∃ x:DDeed,RdCs w cs x.c:=by
  intro fuel cs y h
  obtain⟨fu,hfu,hl,hF⟩:=Bj underlying123 XE h
  obtain⟨_,h0⟩:=hF 0 _ rfl
  obtain⟨x0,r0⟩:=Aw _ _ _ h0
  simp only[cells3] at r0
  obtain⟨_,h1⟩:=hF 1 _ rfl
  obtain⟨x1,r1⟩:=Aw _ _ _ h1
  simp only[cells3] at r1
  obtain⟨_,h2⟩:=hF 2 _ rfl
  obtain⟨x2,r2⟩:=QL _ _ _ h2
  simp only[Nq] at r2
  obtain⟨_,h3⟩:=hF 3 _ rfl
  obtain⟨x3,r3⟩:=Aw _ _ _ h3
  simp only[cells3] at r3
  obtain⟨_,h4⟩:=hF 4 _ rfl
  obtain⟨x4,r4⟩:=Wx _ _ _ h4
  simp only[RX] at r4
  obtain⟨_,h5⟩:=hF 5 _ rfl
  obtain⟨x5,r5⟩:=dX _ _ _ h5
  simp only[Wy] at r5
  obtain⟨_,h6⟩:=hF 6 _ rfl
  obtain⟨x6,r6⟩:=Aw _ _ _ h6
  simp only[cells3] at r6
  obtain⟨_,h7⟩:=hF 7 _ rfl
  obtain⟨x7,r7⟩:=Aw _ _ _ h7
  simp only[cells3] at r7
  obtain⟨_,h8⟩:=hF 8 _ rfl
  obtain⟨x8,r8⟩:=Aw _ _ _ h8
  simp only[cells3] at r8
  obtain⟨_,h9⟩:=hF 9 _ rfl
  obtain⟨x9,r9⟩:=Aw _ _ _ h9
  simp only[cells3] at r9
  obtain⟨_,h10⟩:=hF 10 _ rfl
  obtain⟨x10,r10⟩:=Aw _ _ _ h10
  simp only[cells3] at r10
  refine⟨⟨x0,x1,x2,x3,x4,x5,x6,x7,x8,x9,x10⟩, ?_⟩
  rw[DDeed.c_eq]
  exact RdCs.glue (o:=0) (n:=1) r0 rfl (RdCs.glue (o:=1) (n:=1) r1 rfl (RdCs.glue (o:=2) (n:=1) r2 rfl (RdCs.glue (o:=3) (n:=1) r3 rfl (RdCs.glue (o:=4) (n:=10) r4 rfl (RdCs.glue (o:=14) (n:=6) r5 rfl (RdCs.glue (o:=20) (n:=1) r6 rfl (RdCs.glue (o:=21) (n:=1) r7 rfl (RdCs.glue (o:=22) (n:=1) r8 rfl (RdCs.glue (o:=23) (n:=1) r9 rfl (RdCs.last (o:=24) (n:=1) r10 hl))))))))))
theorem cells31:prog.cellsOf 31=1:=by kernel_rfl
theorem jC:∀ (fuel:Nat) (cs:List Value) (y:DataW H×List MemPlace),DataW.trod enc prog w 0 sp held fuel 31 cs=some y→∃ xs:List DDeed,RdCs w cs [.sl (xs.map DDeed.c)]:=fun fuel _ _ h=>Dq underlying31 XE (fun x=>DDeed.len x) (by omega) (fun fuel' _=>l7 fuel') h
theorem cells24:prog.cellsOf 24=3:=by kernel_rfl
theorem DConf.len (d:DConf):d.c.length=3:=by rw[DConf.c_eq]; simp[]
theorem l9:∀ (fuel:Nat) (cs:List Value) (y:DataW H×List MemPlace),DataW.trod enc prog w 0 sp held fuel 24 cs=some y→∃ x:DConf,RdCs w cs x.c:=by
  intro fuel cs y h
  obtain⟨fu,hfu,hl,hF⟩:=Bj underlying24 cells24 h
  obtain⟨_,h0⟩:=hF 0 _ rfl
  obtain⟨x0,r0⟩:=QK _ _ _ h0
  simp only[cells22] at r0
  obtain⟨_,h1⟩:=hF 1 _ rfl
  obtain⟨x1,r1⟩:=Aw _ _ _ h1
  simp only[cells3] at r1
  obtain⟨_,h2⟩:=hF 2 _ rfl
  obtain⟨x2,r2⟩:=Aw _ _ _ h2
  simp only[cells3] at r2
  refine⟨⟨x0,x1,x2⟩, ?_⟩
  rw[DConf.c_eq]
  exact RdCs.glue (o:=0) (n:=1) r0 rfl (RdCs.glue (o:=1) (n:=1) r1 rfl (RdCs.last (o:=2) (n:=1) r2 hl))
theorem cells33:prog.cellsOf 33=14:=by kernel_rfl
theorem DWorld.len (d:DWorld):d.c.length=14:=by rw[DWorld.c_eq]; simp[DConf.len,DDir.len]
theorem jD:∀ (fuel:Nat) (cs:List Value) (y:DataW H×List MemPlace),DataW.trod enc prog w 0 sp held fuel 33 cs=some y→∃ x:DWorld,RdCs w cs x.c:=by
  intro fuel cs y h
  obtain⟨fu,hfu,hl,hF⟩:=Bj underlying33 cells33 h
  obtain⟨_,h0⟩:=hF 0 _ rfl
  obtain⟨x0,r0⟩:=l9 _ _ _ h0
  simp only[cells24] at r0
  obtain⟨_,h1⟩:=hF 1 _ rfl
  obtain⟨x1,r1⟩:=Aw _ _ _ h1
  simp only[cells3] at r1
  obtain⟨_,h2⟩:=hF 2 _ rfl
  obtain⟨x2,r2⟩:=Aw _ _ _ h2
  simp only[cells3] at r2
  obtain⟨_,h3⟩:=hF 3 _ rfl
  obtain⟨x3,r3⟩:=Aw _ _ _ h3
  simp only[cells3] at r3
  obtain⟨_,h4⟩:=hF 4 _ rfl
  obtain⟨x4,r4⟩:=qJ _ _ _ h4
  simp only[cells27] at r4
  obtain⟨_,h5⟩:=hF 5 _ rfl
  obtain⟨x5,r5⟩:=lq _ _ _ h5
  simp only[cells28] at r5
  obtain⟨_,h6⟩:=hF 6 _ rfl
  obtain⟨x6,r6⟩:=QK _ _ _ h6
  simp only[cells22] at r6
  obtain⟨_,h7⟩:=hF 7 _ rfl
  obtain⟨x7,r7⟩:=jA _ _ _ h7
  simp only[cells29] at r7
  obtain⟨_,h8⟩:=hF 8 _ rfl
  obtain⟨x8,r8⟩:=QK _ _ _ h8
  simp only[cells22] at r8
  obtain⟨_,h9⟩:=hF 9 _ rfl
  obtain⟨x9,r9⟩:=jB _ _ _ h9
  simp only[cells30] at r9
  obtain⟨_,h10⟩:=hF 10 _ rfl
  obtain⟨x10,r10⟩:=jC _ _ _ h10
  simp only[cells31] at r10
  refine⟨⟨x0,x1,x2,x3,x4,x5,x6,x7,x8,x9,x10⟩, ?_⟩
  rw[DWorld.c_eq]
  exact RdCs.glue (o:=0) (n:=3) r0 rfl (RdCs.glue (o:=3) (n:=1) r1 rfl (RdCs.glue (o:=4) (n:=1) r2 rfl (RdCs.glue (o:=5) (n:=1) r3 rfl (RdCs.glue (o:=6) (n:=2) r4 rfl (RdCs.glue (o:=8) (n:=1) r5 rfl (RdCs.glue (o:=9) (n:=1) r6 rfl (RdCs.glue (o:=10) (n:=1) r7 rfl (RdCs.glue (o:=11) (n:=1) r8 rfl (RdCs.glue (o:=12) (n:=1) r9 rfl (RdCs.last (o:=13) (n:=1) r10 hl))))))))))
end Go.Proofs.YtgkmefoghbjfnaaGreat
