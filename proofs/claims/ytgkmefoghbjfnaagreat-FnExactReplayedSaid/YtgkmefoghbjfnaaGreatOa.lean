/- A part. -/
import Derived.Test.YtgkmefoghbjfnaaGreatFa
set_option linter.unusedSimpArgs false
set_option linter.unusedVariables false
set_option maxHeartbeats 1000000
set_option maxRecDepth 10000
open Go.Proofs.Tryz
namespace Go.Proofs.YtgkmefoghbjfnaaGreat
open Go.Vm
@[go_sem] theorem AU (l:List Int):IK (l.map intC)=true:=CO (AP intC.pure)
theorem Gv (l:List Int):Jg (l.map intC)=l.map intC:=Eg (AP intC.pure)
@[go_sem] theorem QI (l:List Int):IK (l.map byteC)=true:=CO (AP byteC.pure)
theorem lZ (l:List Int):Jg (l.map byteC)=l.map byteC:=Eg (AP byteC.pure)
@[go_sem] theorem BP (l:List DVal):IK (l.map DVal.c)=true:=CO (AP DVal.pure)
theorem Ij (l:List DVal):Jg (l.map DVal.c)=l.map DVal.c:=Eg (AP DVal.pure)
theorem ZO (d:DVal):Gn d.c=d.c:=KQ (DVal.pure d)
def DRow.o (d:DRow):List Cl:=[.v (.int .i64 d.id)]++([.ow 75 3 (d.l.map DVal.c)])
@[go_sem] theorem DRow.o_eq (d:DRow):d.o = [.v (.int .i64 d.id)]++([.ow 75 3 (d.l.map DVal.c)]):=rfl
theorem DRow.o_nr (d:DRow):d.o.all IJ=true:=by
 rw[DRow.o_eq]
 simp[bV,IJ]
@[go_sem] theorem AL (l:List DRow):IK (l.map DRow.o)=true:=Ie DRow.o_nr
theorem DRow.o_er (d:DRow):Gn d.o=d.c:=by
 rw[DRow.o_eq,DRow.c_eq]
 simp[EO,Gn,er,Ij]
theorem Ej (l:List DRow):Jg (l.map DRow.o)=l.map DRow.c:=JB DRow.o_er l
mutual
def DPred.o:DPred→List Cl
 | .mk kind col op v l=>[.v (.int .i64 kind)]++([.v (.int .i64 col)]++([.v (.int .i64 op)]++(v.c++([.ow 78 7 (DPred.oL l)]))))
def DPred.oL:List DPred→List (List Cl)
 | []=>[]
 | x::xs=>DPred.o x::DPred.oL xs
end
theorem DPred.oL_eq:∀ l:List DPred,DPred.oL l=l.map DPred.o
 | []=>rfl
 | x::xs=>by simp[DPred.oL,DPred.oL_eq xs]
@[go_sem] theorem DPred.o_eq (d:DPred):d.o = [.v (.int .i64 d.kind)]++([.v (.int .i64 d.col)]++([.v (.int .i64 d.op)]++(d.v.c++([.ow 78 7 (d.l.map DPred.o)])))):=by
 cases d
 simp only[DPred.o,DPred.oL_eq]
 rfl
theorem DPred.o_nr (d:DPred):d.o.all IJ=true:=by
 rw[DPred.o_eq]
 simp[bV,IJ,DVal.c_eq]
@[go_sem] theorem CV (l:List DPred):IK (l.map DPred.o)=true:=Ie DPred.o_nr
theorem DPred.o_er_fuel:∀ (n:Nat) (d:DPred),SizeOf.sizeOf d≤n→Gn d.o=d.c
 | 0,d,h=>by cases d; simp at h
 | n+1,d,h=>by
  have hm:Jg (d.l.map DPred.o)=d.l.map DPred.c:=by
   rw[VK]
   refine qj fun x hx=>DPred.o_er_fuel n x ?_
   have h1:SizeOf.sizeOf x<SizeOf.sizeOf d.l:=eu hx
   have h2:SizeOf.sizeOf d.l<SizeOf.sizeOf d:=by cases d; simp[DPred.l]; omega
   omega
  rw[DPred.o_eq,DPred.c_eq]
  simp[EO,Gn,er,hm,ZO]
theorem DPred.o_er (d:DPred):Gn d.o=d.c:=DPred.o_er_fuel _ d (aQ _)
theorem I4 (l:List DPred):Jg (l.map DPred.o)=l.map DPred.c:=JB DPred.o_er l
def DQuery.o (d:DQuery):List Cl:=[.v (.int .i64 d.kind)]++(d.p.o++([.v (.int .i64 d.col)]++([.ow 3 1 (d.out.map intC)])))
@[go_sem] theorem DQuery.o_eq (d:DQuery):d.o = [.v (.int .i64 d.kind)]++(d.p.o++([.v (.int .i64 d.col)]++([.ow 3 1 (d.out.map intC)]))):=rfl
theorem DQuery.o_nr (d:DQuery):d.o.all IJ=true:=by
 rw[DQuery.o_eq]
 simp[bV,IJ,DPred.o_nr]
theorem DQuery.o_er (d:DQuery):Gn d.o=d.c:=by
 rw[DQuery.o_eq,DQuery.c_eq]
 simp[EO,Gn,er,DPred.o_er,Gv]
def DResult.o (d:DResult):List Cl:=[.ow 147 2 (d.rows.map DRow.o)]++([.v (.int .i64 d.n)]++([.v (.bool d.has)]++(d.v.c)))
@[go_sem] theorem DResult.o_eq (d:DResult):d.o = [.ow 147 2 (d.rows.map DRow.o)]++([.v (.int .i64 d.n)]++([.v (.bool d.has)]++(d.v.c))):=rfl
theorem DResult.o_nr (d:DResult):d.o.all IJ=true:=by
 rw[DResult.o_eq]
 simp[bV,IJ,DVal.c_eq]
theorem DResult.o_er (d:DResult):Gn d.o=d.c:=by
 rw[DResult.o_eq,DResult.c_eq]
 simp[EO,Gn,er,Ej,ZO]
def DSlot.o (d:DSlot):List Cl:=[.v (.int .i64 d.ins)]++([.ow 75 3 (d.l.map DVal.c)])
@[go_sem] theorem DSlot.o_eq (d:DSlot):d.o = [.v (.int .i64 d.ins)]++([.ow 75 3 (d.l.map DVal.c)]):=rfl
theorem DSlot.o_nr (d:DSlot):d.o.all IJ=true:=by
 rw[DSlot.o_eq]
 simp[bV,IJ]
@[go_sem] theorem Nk (l:List DSlot):IK (l.map DSlot.o)=true:=Ie DSlot.o_nr
theorem DSlot.o_er (d:DSlot):Gn d.o=d.c:=by
 rw[DSlot.o_eq,DSlot.c_eq]
 simp[EO,Gn,er,Ij]
theorem iU (l:List DSlot):Jg (l.map DSlot.o)=l.map DSlot.c:=JB DSlot.o_er l
def DChunk.o (d:DChunk):List Cl:=[.v (.int .i64 d.next)]++([.ow 197 2 (d.l.map DSlot.o)])
@[go_sem] theorem DChunk.o_eq (d:DChunk):d.o = [.v (.int .i64 d.next)]++([.ow 197 2 (d.l.map DSlot.o)]):=rfl
theorem DChunk.o_nr (d:DChunk):d.o.all IJ=true:=by
 rw[DChunk.o_eq]
 simp[bV,IJ]
theorem DChunk.o_er (d:DChunk):Gn d.o=d.c:=by
 rw[DChunk.o_eq,DChunk.c_eq]
 simp[EO,Gn,er,iU]
def DBuf.o (d:DBuf):List Cl:=[.v (.int .i64 d.gen)]++([.v (.int .i64 d.kind)]++(d.c0.o++([.ow 5 1 (d.g.map byteC)])))
@[go_sem] theorem DBuf.o_eq (d:DBuf):d.o = [.v (.int .i64 d.gen)]++([.v (.int .i64 d.kind)]++(d.c0.o++([.ow 5 1 (d.g.map byteC)]))):=rfl
theorem DBuf.o_nr (d:DBuf):d.o.all IJ=true:=by
 rw[DBuf.o_eq]
 simp[bV,IJ,DChunk.o_nr]
@[go_sem] theorem RN (l:List DBuf):IK (l.map DBuf.o)=true:=Ie DBuf.o_nr
theorem DBuf.o_er (d:DBuf):Gn d.o=d.c:=by
 rw[DBuf.o_eq,DBuf.c_eq]
 simp[EO,Gn,er,DChunk.o_er,lZ]
theorem Ut (l:List DBuf):Jg (l.map DBuf.o)=l.map DBuf.c:=JB DBuf.o_er l
@[go_sem] theorem QJ (l:List DDead):IK (l.map DDead.c)=true:=CO (AP DDead.pure)
theorem Uu (l:List DDead):Jg (l.map DDead.c)=l.map DDead.c:=Eg (AP DDead.pure)
@[go_sem] theorem Ik (l:List DRef):IK (l.map DRef.c)=true:=CO (AP DRef.pure)
theorem Uw (l:List DRef):Jg (l.map DRef.c)=l.map DRef.c:=Eg (AP DRef.pure)
def DDir.o (d:DDir):List Cl:=[.v (.int .i64 d.ver)]++([.ow 172 5 (d.l.map DRef.c)])
@[go_sem] theorem DDir.o_eq (d:DDir):d.o = [.v (.int .i64 d.ver)]++([.ow 172 5 (d.l.map DRef.c)]):=rfl
theorem DDir.o_nr (d:DDir):d.o.all IJ=true:=by
 rw[DDir.o_eq]
 simp[bV,IJ]
theorem DDir.o_er (d:DDir):Gn d.o=d.c:=by
 rw[DDir.o_eq,DDir.c_eq]
 simp[EO,Gn,er,Uw]
def DTask.o (d:DTask):List Cl:=[.v (.int .i64 d.op)]++([.v (.int .i64 d.pc)]++([.v (.int .i64 d.h)]++([.ow 75 3 (d.r.map DVal.c)]++([.v (.int .i64 d.id)]++(d.q.o++([.v (.int .i64 d.ts)]++([.v (.int .i64 d.ver)]++([.ow 172 5 (d.l.map DRef.c)]++([.v (.int .i64 d.i)]++([.v (.int .i64 d.j)]++([.v (.int .i64 d.s)]++([.v (.int .i64 d.at0)]++([.v (.int .i64 d.own)]++([.v (.bool d.won)]++([.ow 147 2 (d.got.map DRow.o)])))))))))))))))
@[go_sem] theorem DTask.o_eq (d:DTask):d.o = [.v (.int .i64 d.op)]++([.v (.int .i64 d.pc)]++([.v (.int .i64 d.h)]++([.ow 75 3 (d.r.map DVal.c)]++([.v (.int .i64 d.id)]++(d.q.o++([.v (.int .i64 d.ts)]++([.v (.int .i64 d.ver)]++([.ow 172 5 (d.l.map DRef.c)]++([.v (.int .i64 d.i)]++([.v (.int .i64 d.j)]++([.v (.int .i64 d.s)]++([.v (.int .i64 d.at0)]++([.v (.int .i64 d.own)]++([.v (.bool d.won)]++([.ow 147 2 (d.got.map DRow.o)]))))))))))))))):=rfl
theorem DTask.o_nr (d:DTask):d.o.all IJ=true:=by
 rw[DTask.o_eq]
 simp[bV,IJ,DQuery.o_nr]
@[go_sem] theorem Nl (l:List DTask):IK (l.map DTask.o)=true:=Ie DTask.o_nr
theorem DTask.o_er (d:DTask):Gn d.o=d.c:=by
 rw[DTask.o_eq,DTask.c_eq]
 simp[EO,Gn,er,DQuery.o_er,Ej,Uw,Ij]
theorem RP (l:List DTask):Jg (l.map DTask.o)=l.map DTask.c:=JB DTask.o_er l
def DDeed.o (d:DDeed):List Cl:=[.v (.int .i64 d.op)]++([.v (.int .i64 d.task)]++([.ow 75 3 (d.r.map DVal.c)]++([.v (.int .i64 d.id)]++(d.q.o++(d.res.o++([.v (.int .i64 d.code)]++([.v (.int .i64 d.stamp)]++([.v (.int .i64 d.inv)]++([.v (.int .i64 d.lin)]++([.v (.int .i64 d.ret)]))))))))))
@[go_sem] theorem DDeed.o_eq (d:DDeed):d.o = [.v (.int .i64 d.op)]++([.v (.int .i64 d.task)]++([.ow 75 3 (d.r.map DVal.c)]++([.v (.int .i64 d.id)]++(d.q.o++(d.res.o++([.v (.int .i64 d.code)]++([.v (.int .i64 d.stamp)]++([.v (.int .i64 d.inv)]++([.v (.int .i64 d.lin)]++([.v (.int .i64 d.ret)])))))))))):=rfl
theorem DDeed.o_nr (d:DDeed):d.o.all IJ=true:=by
 rw[DDeed.o_eq]
 simp[bV,IJ,DQuery.o_nr,DResult.o_nr]
@[go_sem] theorem JP (l:List DDeed):IK (l.map DDeed.o)=true:=Ie DDeed.o_nr
theorem DDeed.o_er (d:DDeed):Gn d.o=d.c:=by
 rw[DDeed.o_eq,DDeed.c_eq]
 simp[EO,Gn,er,DQuery.o_er,DResult.o_er,Ij]
theorem FX (l:List DDeed):Jg (l.map DDeed.o)=l.map DDeed.c:=JB DDeed.o_er l
def DConf.o (d:DConf):List Cl:=[.ow 3 1 (d.cols.map intC)]++([.v (.int .i64 d.slots)]++([.v (.int .i64 d.bufs)]))
@[go_sem] theorem DConf.o_eq (d:DConf):d.o = [.ow 3 1 (d.cols.map intC)]++([.v (.int .i64 d.slots)]++([.v (.int .i64 d.bufs)])):=rfl
theorem DConf.o_nr (d:DConf):d.o.all IJ=true:=by
 rw[DConf.o_eq]
 simp[bV,IJ]
theorem DConf.o_er (d:DConf):Gn d.o=d.c:=by
 rw[DConf.o_eq,DConf.c_eq]
 simp[EO,Gn,er,Gv]
def DWorld.o (d:DWorld):List Cl:=d.c0.o++([.v (.int .i64 d.time)]++([.v (.int .i64 d.t)]++([.v (.int .i64 d.e)]++(d.d.o++([.ow 133 5 (d.b.map DBuf.o)]++([.ow 3 1 (d.m.map intC)]++([.ow 136 3 (d.x.map DDead.c)]++([.ow 3 1 (d.p.map intC)]++([.ow 140 25 (d.tasks.map DTask.o)]++([.ow 84 25 (d.deeds.map DDeed.o)]))))))))))
@[go_sem] theorem DWorld.o_eq (d:DWorld):d.o=d.c0.o++([.v (.int .i64 d.time)]++([.v (.int .i64 d.t)]++([.v (.int .i64 d.e)]++(d.d.o++([.ow 133 5 (d.b.map DBuf.o)]++([.ow 3 1 (d.m.map intC)]++([.ow 136 3 (d.x.map DDead.c)]++([.ow 3 1 (d.p.map intC)]++([.ow 140 25 (d.tasks.map DTask.o)]++([.ow 84 25 (d.deeds.map DDeed.o)])))))))))):=rfl
theorem DWorld.o_nr (d:DWorld):d.o.all IJ=true:=by
 rw[DWorld.o_eq]
 simp[bV,IJ,DConf.o_nr,DDir.o_nr]
theorem DWorld.o_er (d:DWorld):Gn d.o=d.c:=by
 rw[DWorld.o_eq,DWorld.c_eq]
 simp[EO,Gn,er,DConf.o_er,DDir.o_er,Ut,FX,RP,Uu,Gv]
def DTable.o (d:DTable):List Cl:=[.ow 3 1 (d.cols.map intC)]++([.ow 147 2 (d.l.map DRow.o)])
@[go_sem] theorem DTable.o_eq (d:DTable):d.o = [.ow 3 1 (d.cols.map intC)]++([.ow 147 2 (d.l.map DRow.o)]):=rfl
theorem DTable.o_nr (d:DTable):d.o.all IJ=true:=by
 rw[DTable.o_eq]
 simp[bV,IJ]
theorem DTable.o_er (d:DTable):Gn d.o=d.c:=by
 rw[DTable.o_eq,DTable.c_eq]
 simp[EO,Gn,er,Ej,Gv]
theorem iV (d:DRow) (hf:Ah d):Ctr prog 139 [.agg d.c] [.agg d.o]:=by
 rw[Bc] at hf
 have f0:=hf
 refine CM call139 func139 ntmps139 results139 fun _=>?_
 simp only[go_sem]
 refine CW (JM d.l f0.1 fun x hx=>Fz x (f0.2 x hx)) fun _=>?_
 simp only[go_sem]
 try simp[Ac,BV,AO,IK,DRow.o_eq]
theorem dO (xs:List DRow) (hf:xs.length≤1048576) (hx:∀ x∈xs,Ctr prog 139 [.agg x.c] [.agg x.o]):Ctr prog 99 [.c (.sl (xs.map DRow.c))] [.own 147 2 (xs.map DRow.o) true]:=by
 refine CM call99 func99 ntmps99 results99 fun _=>?_
 have hc:(0:Int)≤xs.length∧(xs.length:Int)≤xs.length∧(xs.length:Int)≤2147483648:=by omega
 simp only[go_sem,ae,hc,jU]
 have hg:=fun k=>@FN _ DRow.o DRow.o_nr [.v (.int .i64 0),.v (.slice none 0 0)] rfl xs k 147 2 true true
 refine LoopA.mk 1 0 [0,3,4] (A:=Nat) (fun k=>⟨23,[(0,.c (.sl (xs.map DRow.c))),(3,.c (.ref 0)),(4,.c (.v (.int .i64 k)))],[⟨147,2,grow (xs.map DRow.o) [.v (.int .i64 0),.v (.slice none 0 0)] k,true,true⟩]⟩) (fun k=>k≤xs.length) (fun k=>xs.length-k) 0 ⟨⟨rfl,by have:=hg 0; simp only[BH,ae] at this; exact this⟩,by simp only[BH,ae]; rfl,aJ _⟩ ?_
 intro k hk
 simp only[go_sem,ae]
 refine cndC.mk (fun h=>?_) (fun h=>?_)
 ·have hk':k<xs.length:=by simpa using h
  have hset:=@Dt _ DRow.o xs [.v (.int .i64 0),.v (.slice none 0 0)] k hk'
  simp only[go_sem,AA _ hk',A7 hk,Bl hk',hk',wrap_i64 (n:=(k:Int)+1) (by omega) (by omega)]
  refine CW (hx xs[k] (au hk')) fun _=>?_
  simp only[go_sem,AA _ hk',A7 hk,Bl hk',hk',wrap_i64 (n:=(k:Int)+1) (by omega) (by omega)]
  refine⟨k+1,.inr ⟨k,grow (xs.map DRow.o) [.v (.int .i64 0),.v (.slice none 0 0)] k,_,DRow.o xs[k],_,⟨gX,rfl,rfl,by rw[A7 hk]; exact hk',rfl⟩, ?_,⟨rfl, ?_⟩, ?_⟩,by omega,by first | omega | (simp only; omega)⟩
  ·simp[DRow.o_eq,Ac,BV,AO,BP]
  ·rw[Am,hset]; exact hg _
  ·rw[Am,hset]; rfl
 ·have hk':k=xs.length:=by simp at h; omega
  subst hk'
  rw[Du]
  simp only[go_sem]
  try simp[AL]
theorem RQ (xs:List DRow) (hf:fitS Ah xs):Ctr prog 99 [.c (.sl (xs.map DRow.c))] [.own 147 2 (xs.map DRow.o) true]:=dO xs hf.1 fun x hx=>iV x (hf.2 x hx)
theorem YX (xs:List DPred) (hf:xs.length≤1048576) (hx:∀ x∈xs,Ctr prog 138 [.agg x.c] [.agg x.o]):Ctr prog 167 [.c (.sl (xs.map DPred.c))] [.own 78 7 (xs.map DPred.o) true]:=by
 refine CM call167 func167 ntmps167 results167 fun _=>?_
 have hc:(0:Int)≤xs.length∧(xs.length:Int)≤xs.length∧(xs.length:Int)≤2147483648:=by omega
 simp only[go_sem,ae,hc,jU]
 have hg:=fun k=>@FN _ DPred.o DPred.o_nr [.v (.int .i64 0),.v (.int .i64 0),.v (.int .i64 0),.v (.int .i64 0),.v (.int .i64 0),.v (.string ByteArray.empty),.v (.slice none 0 0)] rfl xs k 78 7 true true
 refine LoopA.mk 1 0 [0,3,4] (A:=Nat) (fun k=>⟨23,[(0,.c (.sl (xs.map DPred.c))),(3,.c (.ref 0)),(4,.c (.v (.int .i64 k)))],[⟨78,7,grow (xs.map DPred.o) [.v (.int .i64 0),.v (.int .i64 0),.v (.int .i64 0),.v (.int .i64 0),.v (.int .i64 0),.v (.string ByteArray.empty),.v (.slice none 0 0)] k,true,true⟩]⟩) (fun k=>k≤xs.length) (fun k=>xs.length-k) 0 ⟨⟨rfl,by have:=hg 0; simp only[BH,ae] at this; exact this⟩,by simp only[BH,ae]; rfl,aJ _⟩ ?_
 intro k hk
 simp only[go_sem,ae]
 refine cndC.mk (fun h=>?_) (fun h=>?_)
 ·have hk':k<xs.length:=by simpa using h
  have hset:=@Dt _ DPred.o xs [.v (.int .i64 0),.v (.int .i64 0),.v (.int .i64 0),.v (.int .i64 0),.v (.int .i64 0),.v (.string ByteArray.empty),.v (.slice none 0 0)] k hk'
  simp only[go_sem,AA _ hk',A7 hk,Bl hk',hk',wrap_i64 (n:=(k:Int)+1) (by omega) (by omega)]
  refine CW (hx xs[k] (au hk')) fun _=>?_
  simp only[go_sem,AA _ hk',A7 hk,Bl hk',hk',wrap_i64 (n:=(k:Int)+1) (by omega) (by omega)]
  refine⟨k+1,.inr ⟨k,grow (xs.map DPred.o) [.v (.int .i64 0),.v (.int .i64 0),.v (.int .i64 0),.v (.int .i64 0),.v (.int .i64 0),.v (.string ByteArray.empty),.v (.slice none 0 0)] k,_,DPred.o xs[k],_,⟨gX,rfl,rfl,by rw[A7 hk]; exact hk',rfl⟩, ?_,⟨rfl, ?_⟩, ?_⟩,by omega,by first | omega | (simp only; omega)⟩
  ·simp[DPred.o_eq,Ac,BV,AO,DVal.c_eq,CV]
  ·rw[Am,hset]; exact hg _
  ·rw[Am,hset]; rfl
 ·have hk':k=xs.length:=by simp at h; omega
  subst hk'
  rw[Du]
  simp only[go_sem]
  try simp[CV]
theorem Ux (d:DPred) (hf:BF d) (hx:∀ x∈d.l,Ctr prog 138 [.agg x.c] [.agg x.o]):Ctr prog 138 [.agg d.c] [.agg d.o]:=by
 rw[Bi] at hf
 obtain⟨f0,f1⟩:=hf
 refine CM call138 func138 ntmps138 results138 fun _=>?_
 simp only[go_sem]
 refine CW (Fz d.v f0) fun _=>?_
 simp only[go_sem]
 refine CW (YX d.l f1.1 hx) fun _=>?_
 simp only[go_sem]
 try simp[Ac,BV,AO,IK,DPred.o_eq]
theorem J6:∀ (n:Nat) (d:DPred),SizeOf.sizeOf d≤n→BF d→Ctr prog 138 [.agg d.c] [.agg d.o]
 | 0,d,h,_=>by cases d; simp at h
 | n+1,d,h,hf=>Ux d hf fun x hx=>J6 n x (by
  have h1:SizeOf.sizeOf x<SizeOf.sizeOf d.l:=eu hx
  have h2:SizeOf.sizeOf d.l<SizeOf.sizeOf d:=by cases d; simp[DPred.l]; omega
  omega) (by rw[Bi] at hf; exact(hf.2).2 x hx)
theorem dP (d:DPred) (hf:BF d):Ctr prog 138 [.agg d.c] [.agg d.o]:=J6 _ d (aQ _) hf
theorem RS (d:DQuery) (hf:DW d):Ctr prog 98 [.agg d.c] [.agg d.o]:=by
 rw[DX] at hf
 obtain⟨f0,f1⟩:=hf
 refine CM call98 func98 ntmps98 results98 fun _=>?_
 simp only[go_sem]
 refine CW (dP d.p f0) fun _=>?_
 simp only[go_sem]
 refine CW (JL d.out f1) fun _=>?_
 simp only[go_sem]
 try simp[Ac,BV,AO,IK,DQuery.o_eq]
theorem Wn (d:DResult) (hf:He d):Ctr prog 100 [.agg d.c] [.agg d.o]:=by
 rw[JI] at hf
 obtain⟨f0,f1⟩:=hf
 refine CM call100 func100 ntmps100 results100 fun _=>?_
 simp only[go_sem]
 refine CW (RQ d.rows f0) fun _=>?_
 simp only[go_sem]
 refine CW (Fz d.v f1) fun _=>?_
 simp only[go_sem]
 try simp[Ac,BV,AO,IK,DResult.o_eq]
theorem dQ (d:DSlot) (hf:JJ d):Ctr prog 166 [.agg d.c] [.agg d.o]:=by
 rw[Qk] at hf
 have f0:=hf
 refine CM call166 func166 ntmps166 results166 fun _=>?_
 simp only[go_sem]
 refine CW (JM d.l f0.1 fun x hx=>Fz x (f0.2 x hx)) fun _=>?_
 simp only[go_sem]
 try simp[Ac,BV,AO,IK,DSlot.o_eq]
theorem YY (xs:List DSlot) (hf:xs.length≤1048576) (hx:∀ x∈xs,Ctr prog 166 [.agg x.c] [.agg x.o]):Ctr prog 136 [.c (.sl (xs.map DSlot.c))] [.own 197 2 (xs.map DSlot.o) true]:=by
 refine CM call136 func136 ntmps136 results136 fun _=>?_
 have hc:(0:Int)≤xs.length∧(xs.length:Int)≤xs.length∧(xs.length:Int)≤2147483648:=by omega
 simp only[go_sem,ae,hc,jU]
 have hg:=fun k=>@FN _ DSlot.o DSlot.o_nr [.v (.int .i64 0),.v (.slice none 0 0)] rfl xs k 197 2 true true
 refine LoopA.mk 1 0 [0,3,4] (A:=Nat) (fun k=>⟨23,[(0,.c (.sl (xs.map DSlot.c))),(3,.c (.ref 0)),(4,.c (.v (.int .i64 k)))],[⟨197,2,grow (xs.map DSlot.o) [.v (.int .i64 0),.v (.slice none 0 0)] k,true,true⟩]⟩) (fun k=>k≤xs.length) (fun k=>xs.length-k) 0 ⟨⟨rfl,by have:=hg 0; simp only[BH,ae] at this; exact this⟩,by simp only[BH,ae]; rfl,aJ _⟩ ?_
 intro k hk
 simp only[go_sem,ae]
 refine cndC.mk (fun h=>?_) (fun h=>?_)
 ·have hk':k<xs.length:=by simpa using h
  have hset:=@Dt _ DSlot.o xs [.v (.int .i64 0),.v (.slice none 0 0)] k hk'
  simp only[go_sem,AA _ hk',A7 hk,Bl hk',hk',wrap_i64 (n:=(k:Int)+1) (by omega) (by omega)]
  refine CW (hx xs[k] (au hk')) fun _=>?_
  simp only[go_sem,AA _ hk',A7 hk,Bl hk',hk',wrap_i64 (n:=(k:Int)+1) (by omega) (by omega)]
  refine⟨k+1,.inr ⟨k,grow (xs.map DSlot.o) [.v (.int .i64 0),.v (.slice none 0 0)] k,_,DSlot.o xs[k],_,⟨gX,rfl,rfl,by rw[A7 hk]; exact hk',rfl⟩, ?_,⟨rfl, ?_⟩, ?_⟩,by omega,by first | omega | (simp only; omega)⟩
  ·simp[DSlot.o_eq,Ac,BV,AO,BP]
  ·rw[Am,hset]; exact hg _
  ·rw[Am,hset]; rfl
 ·have hk':k=xs.length:=by simp at h; omega
  subst hk'
  rw[Du]
  simp only[go_sem]
  try simp[Nk]
theorem Wp (xs:List DSlot) (hf:fitS JJ xs):Ctr prog 136 [.c (.sl (xs.map DSlot.c))] [.own 197 2 (xs.map DSlot.o) true]:=YY xs hf.1 fun x hx=>dQ x (hf.2 x hx)
theorem YZ (d:DChunk) (hf:Jq d):Ctr prog 95 [.agg d.c] [.agg d.o]:=by
 rw[PU] at hf
 have f0:=hf
 refine CM call95 func95 ntmps95 results95 fun _=>?_
 simp only[go_sem]
 refine CW (Wp d.l f0) fun _=>?_
 simp only[go_sem]
 try simp[Ac,BV,AO,IK,DChunk.o_eq]
theorem iW (d:DBuf) (hf:MG d):Ctr prog 58 [.agg d.c] [.agg d.o]:=by
 rw[TI] at hf
 obtain⟨f0,f1⟩:=hf
 refine CM call58 func58 ntmps58 results58 fun _=>?_
 simp only[go_sem]
 refine CW (YZ d.c0 f0) fun _=>?_
 simp only[go_sem]
 refine CW (WP d.g f1) fun _=>?_
 simp only[go_sem]
 try simp[Ac,BV,AO,IK,DBuf.o_eq]
theorem dR (xs:List DBuf) (hf:xs.length≤1048576) (hx:∀ x∈xs,Ctr prog 58 [.agg x.c] [.agg x.o]):Ctr prog 24 [.c (.sl (xs.map DBuf.c))] [.own 133 5 (xs.map DBuf.o) true]:=by
 refine CM call24 func24 ntmps24 results24 fun _=>?_
 have hc:(0:Int)≤xs.length∧(xs.length:Int)≤xs.length∧(xs.length:Int)≤2147483648:=by omega
 simp only[go_sem,ae,hc,jU]
 have hg:=fun k=>@FN _ DBuf.o DBuf.o_nr [.v (.int .i64 0),.v (.int .i64 0),.v (.int .i64 0),.v (.slice none 0 0),.v (.slice none 0 0)] rfl xs k 133 5 true true
 refine LoopA.mk 1 0 [0,3,4] (A:=Nat) (fun k=>⟨23,[(0,.c (.sl (xs.map DBuf.c))),(3,.c (.ref 0)),(4,.c (.v (.int .i64 k)))],[⟨133,5,grow (xs.map DBuf.o) [.v (.int .i64 0),.v (.int .i64 0),.v (.int .i64 0),.v (.slice none 0 0),.v (.slice none 0 0)] k,true,true⟩]⟩) (fun k=>k≤xs.length) (fun k=>xs.length-k) 0 ⟨⟨rfl,by have:=hg 0; simp only[BH,ae] at this; exact this⟩,by simp only[BH,ae]; rfl,aJ _⟩ ?_
 intro k hk
 simp only[go_sem,ae]
 refine cndC.mk (fun h=>?_) (fun h=>?_)
 ·have hk':k<xs.length:=by simpa using h
  have hset:=@Dt _ DBuf.o xs [.v (.int .i64 0),.v (.int .i64 0),.v (.int .i64 0),.v (.slice none 0 0),.v (.slice none 0 0)] k hk'
  simp only[go_sem,AA _ hk',A7 hk,Bl hk',hk',wrap_i64 (n:=(k:Int)+1) (by omega) (by omega)]
  refine CW (hx xs[k] (au hk')) fun _=>?_
  simp only[go_sem,AA _ hk',A7 hk,Bl hk',hk',wrap_i64 (n:=(k:Int)+1) (by omega) (by omega)]
  refine⟨k+1,.inr ⟨k,grow (xs.map DBuf.o) [.v (.int .i64 0),.v (.int .i64 0),.v (.int .i64 0),.v (.slice none 0 0),.v (.slice none 0 0)] k,_,DBuf.o xs[k],_,⟨gX,rfl,rfl,by rw[A7 hk]; exact hk',rfl⟩, ?_,⟨rfl, ?_⟩, ?_⟩,by omega,by first | omega | (simp only; omega)⟩
  ·simp[DBuf.o_eq,Ac,BV,AO,DChunk.o_eq,DChunk.c_eq,Nk,QI]
  ·rw[Am,hset]; exact hg _
  ·rw[Am,hset]; rfl
 ·have hk':k=xs.length:=by simp at h; omega
  subst hk'
  rw[Du]
  simp only[go_sem]
  try simp[RN]
theorem Ya (xs:List DBuf) (hf:fitS MG xs):Ctr prog 24 [.c (.sl (xs.map DBuf.c))] [.own 133 5 (xs.map DBuf.o) true]:=dR xs hf.1 fun x hx=>iW x (hf.2 x hx)
theorem iY (d:DDir) (hf:Oc d):Ctr prog 23 [.agg d.c] [.agg d.o]:=by
 rw[TJ] at hf
 have f0:=hf
 refine CM call23 func23 ntmps23 results23 fun _=>?_
 simp only[go_sem]
 refine CW (Q7 d.l f0 fun x hx=>Q5 x) fun _=>?_
 simp only[go_sem]
 try simp[Ac,BV,AO,IK,DDir.o_eq]
theorem dS (d:DTask) (hf:JK d):Ctr prog 60 [.agg d.c] [.agg d.o]:=by
 rw[Ql] at hf
 obtain⟨f0,f1,f2,f3⟩:=hf
 refine CM call60 func60 ntmps60 results60 fun _=>?_
 simp only[go_sem]
 refine CW (JM d.r f0.1 fun x hx=>Fz x (f0.2 x hx)) fun _=>?_
 simp only[go_sem]
 refine CW (RS d.q f1) fun _=>?_
 simp only[go_sem]
 refine CW (Q7 d.l f2 fun x hx=>Q5 x) fun _=>?_
 simp only[go_sem]
 refine CW (RQ d.got f3) fun _=>?_
 simp only[go_sem]
 try simp[Ac,BV,AO,IK,DTask.o_eq]
def O1:List Cl:=[.v (.int .i64 0),.v (.int .i64 0),.v (.int .i64 0),.v (.slice none 0 0),.v (.int .i64 0),.v (.int .i64 0),.v (.int .i64 0),.v (.int .i64 0),.v (.int .i64 0),.v (.int .i64 0),.v (.int .i64 0),.v (.string ByteArray.empty),.v (.slice none 0 0),.v (.int .i64 0),.v (.slice none 0 0),.v (.int .i64 0),.v (.int .i64 0),.v (.slice none 0 0),.v (.int .i64 0),.v (.int .i64 0),.v (.int .i64 0),.v (.int .i64 0),.v (.int .i64 0),.v (.bool false),.v (.slice none 0 0)]
theorem Yb (xs:List DTask) (hf:xs.length≤1048576) (hx:∀ x∈xs,Ctr prog 60 [.agg x.c] [.agg x.o]):Ctr prog 27 [.c (.sl (xs.map DTask.c))] [.own 140 25 (xs.map DTask.o) true]:=by
 refine CM call27 func27 ntmps27 results27 fun _=>?_
 have hc:(0:Int)≤xs.length∧(xs.length:Int)≤xs.length∧(xs.length:Int)≤2147483648:=by omega
 simp only[go_sem,ae,hc,jU]
 have hg:=fun k=>@FN _ DTask.o DTask.o_nr O1 rfl xs k 140 25 true true
 refine LoopA.mk 1 0 [0,3,4] (A:=Nat) (fun k=>⟨23,[(0,.c (.sl (xs.map DTask.c))),(3,.c (.ref 0)),(4,.c (.v (.int .i64 k)))],[⟨140,25,grow (xs.map DTask.o) O1 k,true,true⟩]⟩) (fun k=>k≤xs.length) (fun k=>xs.length-k) 0 ⟨⟨rfl,by have:=hg 0; simp only[BH,ae] at this; exact this⟩,by simp only[BH,ae]; rfl,aJ _⟩ ?_
 intro k hk
 simp only[go_sem,ae]
 refine cndC.mk (fun h=>?_) (fun h=>?_)
 ·have hk':k<xs.length:=by simpa using h
  have hset:=@Dt _ DTask.o xs O1 k hk'
  simp only[go_sem,AA _ hk',A7 hk,Bl hk',hk',wrap_i64 (n:=(k:Int)+1) (by omega) (by omega),O1]
  refine CW (hx xs[k] (au hk')) fun _=>?_
  simp only[go_sem,AA _ hk',A7 hk,Bl hk',hk',wrap_i64 (n:=(k:Int)+1) (by omega) (by omega),O1]
  refine⟨k+1,.inr ⟨k,grow (xs.map DTask.o) O1 k,_,DTask.o xs[k],_,⟨gX,rfl,rfl,by rw[A7 hk]; exact hk',rfl⟩, ?_,⟨rfl, ?_⟩, ?_⟩,by omega,by first | omega | (simp only; omega)⟩
  ·simp[DTask.o_eq,Ac,BV,AO,DPred.o_eq,DPred.c_eq,DQuery.o_eq,DQuery.c_eq,DVal.c_eq,CV,Ik,AL,BP,AU]
  ·rw[Am,hset]; exact hg _
  ·rw[Am,hset]; rfl
 ·have hk':k=xs.length:=by simp at h; omega
  subst hk'
  rw[Du]
  simp only[go_sem]
  try simp[Nl]
theorem Wq (xs:List DTask) (hf:fitS JK xs):Ctr prog 27 [.c (.sl (xs.map DTask.c))] [.own 140 25 (xs.map DTask.o) true]:=Yb xs hf.1 fun x hx=>dS x (hf.2 x hx)
theorem dU (d:DDeed) (hf:Cc d):Ctr prog 61 [.agg d.c] [.agg d.o]:=by
 rw[FB] at hf
 obtain⟨f0,f1,f2⟩:=hf
 refine CM call61 func61 ntmps61 results61 fun _=>?_
 simp only[go_sem]
 refine CW (JM d.r f0.1 fun x hx=>Fz x (f0.2 x hx)) fun _=>?_
 simp only[go_sem]
 refine CW (RS d.q f1) fun _=>?_
 simp only[go_sem]
 refine CW (Wn d.res f2) fun _=>?_
 simp only[go_sem]
 try simp[Ac,BV,AO,IK,DDeed.o_eq]
def O3:List Cl:=[.v (.int .i64 0),.v (.int .i64 0),.v (.slice none 0 0),.v (.int .i64 0),.v (.int .i64 0),.v (.int .i64 0),.v (.int .i64 0),.v (.int .i64 0),.v (.int .i64 0),.v (.int .i64 0),.v (.string ByteArray.empty),.v (.slice none 0 0),.v (.int .i64 0),.v (.slice none 0 0),.v (.slice none 0 0),.v (.int .i64 0),.v (.bool false),.v (.int .i64 0),.v (.int .i64 0),.v (.string ByteArray.empty),.v (.int .i64 0),.v (.int .i64 0),.v (.int .i64 0),.v (.int .i64 0),.v (.int .i64 0)]
theorem Yc (xs:List DDeed) (hf:xs.length≤1048576) (hx:∀ x∈xs,Ctr prog 61 [.agg x.c] [.agg x.o]):Ctr prog 28 [.c (.sl (xs.map DDeed.c))] [.own 84 25 (xs.map DDeed.o) true]:=by
 refine CM call28 func28 ntmps28 results28 fun _=>?_
 have hc:(0:Int)≤xs.length∧(xs.length:Int)≤xs.length∧(xs.length:Int)≤2147483648:=by omega
 simp only[go_sem,ae,hc,jU]
 have hg:=fun k=>@FN _ DDeed.o DDeed.o_nr O3 rfl xs k 84 25 true true
 refine LoopA.mk 1 0 [0,3,4] (A:=Nat) (fun k=>⟨23,[(0,.c (.sl (xs.map DDeed.c))),(3,.c (.ref 0)),(4,.c (.v (.int .i64 k)))],[⟨84,25,grow (xs.map DDeed.o) O3 k,true,true⟩]⟩) (fun k=>k≤xs.length) (fun k=>xs.length-k) 0 ⟨⟨rfl,by have:=hg 0; simp only[BH,ae] at this; exact this⟩,by simp only[BH,ae]; rfl,aJ _⟩ ?_
 intro k hk
 simp only[go_sem,ae]
 refine cndC.mk (fun h=>?_) (fun h=>?_)
 ·have hk':k<xs.length:=by simpa using h
  have hset:=@Dt _ DDeed.o xs O3 k hk'
  simp only[go_sem,AA _ hk',A7 hk,Bl hk',hk',wrap_i64 (n:=(k:Int)+1) (by omega) (by omega),O3]
  refine CW (hx xs[k] (au hk')) fun _=>?_
  simp only[go_sem,AA _ hk',A7 hk,Bl hk',hk',wrap_i64 (n:=(k:Int)+1) (by omega) (by omega),O3]
  refine⟨k+1,.inr ⟨k,grow (xs.map DDeed.o) O3 k,_,DDeed.o xs[k],_,⟨gX,rfl,rfl,by rw[A7 hk]; exact hk',rfl⟩, ?_,⟨rfl, ?_⟩, ?_⟩,by omega,by first | omega | (simp only; omega)⟩
  ·simp[DDeed.o_eq,Ac,BV,AO,DPred.o_eq,DPred.c_eq,DQuery.o_eq,DQuery.c_eq,DResult.o_eq,DResult.c_eq,DVal.c_eq,CV,AL,BP,AU]
  ·rw[Am,hset]; exact hg _
  ·rw[Am,hset]; rfl
 ·have hk':k=xs.length:=by simp at h; omega
  subst hk'
  rw[Du]
  simp only[go_sem]
  try simp[JP]
theorem Ws (xs:List DDeed) (hf:fitS Cc xs):Ctr prog 28 [.c (.sl (xs.map DDeed.c))] [.own 84 25 (xs.map DDeed.o) true]:=Yc xs hf.1 fun x hx=>dU x (hf.2 x hx)
theorem dV (d:DConf) (hf:KZ d):Ctr prog 22 [.agg d.c] [.agg d.o]:=by
 rw[Ho] at hf
 have f0:=hf
 refine CM call22 func22 ntmps22 results22 fun _=>?_
 simp only[go_sem]
 refine CW (JL d.cols f0) fun _=>?_
 simp only[go_sem]
 try simp[Ac,BV,AO,IK,DConf.o_eq]
theorem RU (d:DWorld) (hf:Hq d):Ctr prog 6 [.agg d.c] [.agg d.o]:=by
 rw[GZ] at hf
 obtain⟨f0,f1,f2,f3,f4,f5,f6,f7⟩:=hf
 refine CM call6 func6 ntmps6 results6 fun _=>?_
 simp only[go_sem]
 refine CW (dV d.c0 f0) fun _=>?_
 simp only[go_sem]
 refine CW (iY d.d f1) fun _=>?_
 simp only[go_sem]
 refine CW (Ya d.b f2) fun _=>?_
 simp only[go_sem]
 refine CW (JL d.m f3) fun _=>?_
 simp only[go_sem]
 refine CW (WR d.x f4 fun x hx=>WQ x) fun _=>?_
 simp only[go_sem]
 refine CW (JL d.p f5) fun _=>?_
 simp only[go_sem]
 refine CW (Wq d.tasks f6) fun _=>?_
 simp only[go_sem]
 refine CW (Ws d.deeds f7) fun _=>?_
 simp only[go_sem]
 try simp[Ac,BV,AO,IK,DWorld.o_eq]
theorem FY (d:DWorld) (hf:Hq d):Ctr prog 6 [.agg d.c] [.val (.agg d.c)]:=(RU d hf).aggVal d.o_er
end Go.Proofs.YtgkmefoghbjfnaaGreat
