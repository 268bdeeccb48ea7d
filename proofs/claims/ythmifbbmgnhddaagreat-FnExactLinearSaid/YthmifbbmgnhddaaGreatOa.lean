/- A part. -/
import Derived.Test.YthmifbbmgnhddaaGreatFa
set_option linter.unusedSimpArgs false
set_option linter.unusedVariables false
set_option maxHeartbeats 1000000
set_option maxRecDepth 10000
open Go.Proofs.Tryz
namespace Go.Proofs.YthmifbbmgnhddaaGreat
open Go.Vm
@[go_sem] theorem AX (l:List Int):D7 (l.map intC)=true:=Ea (AP intC.pure)
theorem DU (l:List Int):Ru (l.map intC)=l.map intC:=JG (AP intC.pure)
@[go_sem] theorem CE (l:List Int):D7 (l.map byteC)=true:=Ea (AP byteC.pure)
theorem AHX (l:List Int):Ru (l.map byteC)=l.map byteC:=JG (AP byteC.pure)
@[go_sem] theorem BH (l:List DVal):D7 (l.map DVal.c)=true:=Ea (AP DVal.pure)
theorem ET (l:List DVal):Ru (l.map DVal.c)=l.map DVal.c:=JG (AP DVal.pure)
theorem ACY (d:DVal):Lu d.c=d.c:=TR (DVal.pure d)
def DRow.o (d:DRow):List Cl:=[.v (.int .i64 d.id)]++([.ow 66 3 (d.l.map DVal.c)])
@[go_sem] theorem DRow.o_eq (d:DRow):d.o = [.v (.int .i64 d.id)]++([.ow 66 3 (d.l.map DVal.c)]):=rfl
theorem DRow.o_nr (d:DRow):d.o.all O6=true:=by
 rw[DRow.o_eq]
 simp[lM,O6]
@[go_sem] theorem AO (l:List DRow):D7 (l.map DRow.o)=true:=PS DRow.o_nr
theorem DRow.o_er (d:DRow):Lu d.o=d.c:=by
 rw[DRow.o_eq,DRow.c_eq]
 simp[Io,Lu,er,ET]
theorem DW (l:List DRow):Ru (l.map DRow.o)=l.map DRow.c:=QH DRow.o_er l
mutual
def DPred.o:DPred→List Cl
 | .mk kind col op v l=>[.v (.int .i64 kind)]++([.v (.int .i64 col)]++([.v (.int .i64 op)]++(v.c++([.ow 69 7 (DPred.oL l)]))))
def DPred.oL:List DPred→List (List Cl)
 | []=>[]
 | x::xs=>DPred.o x::DPred.oL xs
end
theorem DPred.oL_eq:∀ l:List DPred,DPred.oL l=l.map DPred.o
 | []=>rfl
 | x::xs=>by simp[DPred.oL,DPred.oL_eq xs]
@[go_sem] theorem DPred.o_eq (d:DPred):d.o = [.v (.int .i64 d.kind)]++([.v (.int .i64 d.col)]++([.v (.int .i64 d.op)]++(d.v.c++([.ow 69 7 (d.l.map DPred.o)])))):=by
 cases d
 simp only[DPred.o,DPred.oL_eq]
 rfl
theorem DPred.o_nr (d:DPred):d.o.all O6=true:=by
 rw[DPred.o_eq]
 simp[lM,O6,DVal.c_eq]
@[go_sem] theorem BC (l:List DPred):D7 (l.map DPred.o)=true:=PS DPred.o_nr
theorem DPred.o_er_fuel:∀ (n:Nat) (d:DPred),SizeOf.sizeOf d≤n→Lu d.o=d.c
 | 0,d,h=>ASA
 | n+1,d,h=>by
  have hm:Ru (d.l.map DPred.o)=d.l.map DPred.c:=by
   rw[sU]
   refine aaW fun x hx=>DPred.o_er_fuel n x ?_
   exact AO_
  rw[DPred.o_eq,DPred.c_eq]
  simp[Io,Lu,er,hm,ACY]
theorem DPred.o_er (d:DPred):Lu d.o=d.c:=DPred.o_er_fuel _ d (aI _)
theorem CO (l:List DPred):Ru (l.map DPred.o)=l.map DPred.c:=QH DPred.o_er l
def DQuery.o (d:DQuery):List Cl:=[.v (.int .i64 d.kind)]++(d.p.o++([.v (.int .i64 d.col)]++([.ow 3 1 (d.out.map intC)])))
@[go_sem] theorem DQuery.o_eq (d:DQuery):d.o = [.v (.int .i64 d.kind)]++(d.p.o++([.v (.int .i64 d.col)]++([.ow 3 1 (d.out.map intC)]))):=rfl
theorem DQuery.o_nr (d:DQuery):d.o.all O6=true:=by
 rw[DQuery.o_eq]
 simp[lM,O6,DPred.o_nr]
theorem DQuery.o_er (d:DQuery):Lu d.o=d.c:=by
 rw[DQuery.o_eq,DQuery.c_eq]
 simp[Io,Lu,er,DPred.o_er,DU]
def DResult.o (d:DResult):List Cl:=[.ow 201 2 (d.rows.map DRow.o)]++([.v (.int .i64 d.n)]++([.v (.bool d.has)]++(d.v.c)))
@[go_sem] theorem DResult.o_eq (d:DResult):d.o = [.ow 201 2 (d.rows.map DRow.o)]++([.v (.int .i64 d.n)]++([.v (.bool d.has)]++(d.v.c))):=rfl
theorem DResult.o_nr (d:DResult):d.o.all O6=true:=by
 rw[DResult.o_eq]
 simp[lM,O6,DVal.c_eq]
theorem DResult.o_er (d:DResult):Lu d.o=d.c:=by
 rw[DResult.o_eq,DResult.c_eq]
 simp[Io,Lu,er,DW,ACY]
def DSlot.o (d:DSlot):List Cl:=[.v (.int .i64 d.ins)]++([.ow 66 3 (d.l.map DVal.c)])
@[go_sem] theorem DSlot.o_eq (d:DSlot):d.o = [.v (.int .i64 d.ins)]++([.ow 66 3 (d.l.map DVal.c)]):=rfl
theorem DSlot.o_nr (d:DSlot):d.o.all O6=true:=by
 rw[DSlot.o_eq]
 simp[lM,O6]
@[go_sem] theorem Ha (l:List DSlot):D7 (l.map DSlot.o)=true:=PS DSlot.o_nr
theorem DSlot.o_er (d:DSlot):Lu d.o=d.c:=by
 rw[DSlot.o_eq,DSlot.c_eq]
 simp[Io,Lu,er,ET]
theorem AFb (l:List DSlot):Ru (l.map DSlot.o)=l.map DSlot.c:=QH DSlot.o_er l
def DChunk.o (d:DChunk):List Cl:=[.v (.int .i64 d.next)]++([.ow 231 2 (d.l.map DSlot.o)])
@[go_sem] theorem DChunk.o_eq (d:DChunk):d.o = [.v (.int .i64 d.next)]++([.ow 231 2 (d.l.map DSlot.o)]):=rfl
theorem DChunk.o_nr (d:DChunk):d.o.all O6=true:=by
 rw[DChunk.o_eq]
 simp[lM,O6]
theorem DChunk.o_er (d:DChunk):Lu d.o=d.c:=by
 rw[DChunk.o_eq,DChunk.c_eq]
 simp[Io,Lu,er,AFb]
def DBuf.o (d:DBuf):List Cl:=[.v (.int .i64 d.gen)]++([.v (.int .i64 d.kind)]++(d.c0.o++([.ow 5 1 (d.g.map byteC)])))
@[go_sem] theorem DBuf.o_eq (d:DBuf):d.o = [.v (.int .i64 d.gen)]++([.v (.int .i64 d.kind)]++(d.c0.o++([.ow 5 1 (d.g.map byteC)]))):=rfl
theorem DBuf.o_nr (d:DBuf):d.o.all O6=true:=by
 rw[DBuf.o_eq]
 simp[lM,O6,DChunk.o_nr]
@[go_sem] theorem D5 (l:List DBuf):D7 (l.map DBuf.o)=true:=PS DBuf.o_nr
theorem DBuf.o_er (d:DBuf):Lu d.o=d.c:=by
 rw[DBuf.o_eq,DBuf.c_eq]
 simp[Io,Lu,er,DChunk.o_er,AHX]
theorem D8 (l:List DBuf):Ru (l.map DBuf.o)=l.map DBuf.c:=QH DBuf.o_er l
@[go_sem] theorem Jo (l:List DDead):D7 (l.map DDead.c)=true:=Ea (AP DDead.pure)
theorem D9 (l:List DDead):Ru (l.map DDead.c)=l.map DDead.c:=JG (AP DDead.pure)
@[go_sem] theorem E_ (l:List DRef):D7 (l.map DRef.c)=true:=Ea (AP DRef.pure)
theorem FB (l:List DRef):Ru (l.map DRef.c)=l.map DRef.c:=JG (AP DRef.pure)
def DDir.o (d:DDir):List Cl:=[.v (.int .i64 d.ver)]++([.ow 204 5 (d.l.map DRef.c)])
@[go_sem] theorem DDir.o_eq (d:DDir):d.o = [.v (.int .i64 d.ver)]++([.ow 204 5 (d.l.map DRef.c)]):=rfl
theorem DDir.o_nr (d:DDir):d.o.all O6=true:=by
 rw[DDir.o_eq]
 simp[lM,O6]
theorem DDir.o_er (d:DDir):Lu d.o=d.c:=by
 rw[DDir.o_eq,DDir.c_eq]
 simp[Io,Lu,er,FB]
def DTask.o (d:DTask):List Cl:=[.v (.int .i64 d.op)]++([.v (.int .i64 d.pc)]++([.v (.int .i64 d.h)]++([.ow 66 3 (d.r.map DVal.c)]++([.v (.int .i64 d.id)]++(d.q.o++([.v (.int .i64 d.ts)]++([.v (.int .i64 d.ver)]++([.ow 204 5 (d.l.map DRef.c)]++([.v (.int .i64 d.i)]++([.v (.int .i64 d.j)]++([.v (.int .i64 d.s)]++([.v (.int .i64 d.at0)]++([.v (.int .i64 d.own)]++([.v (.bool d.won)]++([.ow 201 2 (d.got.map DRow.o)])))))))))))))))
@[go_sem] theorem DTask.o_eq (d:DTask):d.o = [.v (.int .i64 d.op)]++([.v (.int .i64 d.pc)]++([.v (.int .i64 d.h)]++([.ow 66 3 (d.r.map DVal.c)]++([.v (.int .i64 d.id)]++(d.q.o++([.v (.int .i64 d.ts)]++([.v (.int .i64 d.ver)]++([.ow 204 5 (d.l.map DRef.c)]++([.v (.int .i64 d.i)]++([.v (.int .i64 d.j)]++([.v (.int .i64 d.s)]++([.v (.int .i64 d.at0)]++([.v (.int .i64 d.own)]++([.v (.bool d.won)]++([.ow 201 2 (d.got.map DRow.o)]))))))))))))))):=rfl
theorem DTask.o_nr (d:DTask):d.o.all O6=true:=by
 rw[DTask.o_eq]
 simp[lM,O6,DQuery.o_nr]
@[go_sem] theorem GU (l:List DTask):D7 (l.map DTask.o)=true:=PS DTask.o_nr
theorem DTask.o_er (d:DTask):Lu d.o=d.c:=by
 rw[DTask.o_eq,DTask.c_eq]
 simp[Io,Lu,er,DQuery.o_er,DW,FB,ET]
theorem DF (l:List DTask):Ru (l.map DTask.o)=l.map DTask.c:=QH DTask.o_er l
def DDeed.o (d:DDeed):List Cl:=[.v (.int .i64 d.op)]++([.v (.int .i64 d.task)]++([.ow 66 3 (d.r.map DVal.c)]++([.v (.int .i64 d.id)]++(d.q.o++(d.res.o++([.v (.int .i64 d.code)]++([.v (.int .i64 d.stamp)]++([.v (.int .i64 d.inv)]++([.v (.int .i64 d.lin)]++([.v (.int .i64 d.ret)]))))))))))
@[go_sem] theorem DDeed.o_eq (d:DDeed):d.o = [.v (.int .i64 d.op)]++([.v (.int .i64 d.task)]++([.ow 66 3 (d.r.map DVal.c)]++([.v (.int .i64 d.id)]++(d.q.o++(d.res.o++([.v (.int .i64 d.code)]++([.v (.int .i64 d.stamp)]++([.v (.int .i64 d.inv)]++([.v (.int .i64 d.lin)]++([.v (.int .i64 d.ret)])))))))))):=rfl
theorem DDeed.o_nr (d:DDeed):d.o.all O6=true:=by
 rw[DDeed.o_eq]
 simp[lM,O6,DQuery.o_nr,DResult.o_nr]
@[go_sem] theorem IJ (l:List DDeed):D7 (l.map DDeed.o)=true:=PS DDeed.o_nr
theorem DDeed.o_er (d:DDeed):Lu d.o=d.c:=by
 rw[DDeed.o_eq,DDeed.c_eq]
 simp[Io,Lu,er,DQuery.o_er,DResult.o_er,ET]
theorem Cf (l:List DDeed):Ru (l.map DDeed.o)=l.map DDeed.c:=QH DDeed.o_er l
def DConf.o (d:DConf):List Cl:=[.ow 3 1 (d.cols.map intC)]++([.v (.int .i64 d.slots)]++([.v (.int .i64 d.bufs)]))
@[go_sem] theorem DConf.o_eq (d:DConf):d.o = [.ow 3 1 (d.cols.map intC)]++([.v (.int .i64 d.slots)]++([.v (.int .i64 d.bufs)])):=rfl
theorem DConf.o_nr (d:DConf):d.o.all O6=true:=by
 rw[DConf.o_eq]
 simp[lM,O6]
theorem DConf.o_er (d:DConf):Lu d.o=d.c:=by
 rw[DConf.o_eq,DConf.c_eq]
 simp[Io,Lu,er,DU]
def DWorld.o (d:DWorld):List Cl:=d.c0.o++([.v (.int .i64 d.time)]++([.v (.int .i64 d.t)]++([.v (.int .i64 d.e)]++(d.d.o++([.ow 170 5 (d.b.map DBuf.o)]++([.ow 3 1 (d.m.map intC)]++([.ow 173 3 (d.x.map DDead.c)]++([.ow 3 1 (d.p.map intC)]++([.ow 132 25 (d.tasks.map DTask.o)]++([.ow 162 25 (d.deeds.map DDeed.o)]))))))))))
@[go_sem] theorem DWorld.o_eq (d:DWorld):d.o=d.c0.o++([.v (.int .i64 d.time)]++([.v (.int .i64 d.t)]++([.v (.int .i64 d.e)]++(d.d.o++([.ow 170 5 (d.b.map DBuf.o)]++([.ow 3 1 (d.m.map intC)]++([.ow 173 3 (d.x.map DDead.c)]++([.ow 3 1 (d.p.map intC)]++([.ow 132 25 (d.tasks.map DTask.o)]++([.ow 162 25 (d.deeds.map DDeed.o)])))))))))):=rfl
theorem DWorld.o_nr (d:DWorld):d.o.all O6=true:=by
 rw[DWorld.o_eq]
 simp[lM,O6,DConf.o_nr,DDir.o_nr]
theorem DWorld.o_er (d:DWorld):Lu d.o=d.c:=by
 rw[DWorld.o_eq,DWorld.c_eq]
 simp[Io,Lu,er,DConf.o_er,DDir.o_er,D8,Cf,DF,D9,DU]
theorem AFc (d:DRow) (hf:Aw d):Ctr prog 318 [.agg d.c] [.agg d.o]:=by
 rw[DN] at hf
 have f0:=hf
 refine CM call318 func318 ntmps318 results318 fun _=>?_
 simp only[go_sem]
 refine CW (LU d.l f0.1 fun x hx=>I7 x (f0.2 x hx)) fun _=>?_
 simp only[go_sem]
 try simp[OwnL,EH,AC,D7,DRow.o_eq]
theorem ADy (xs:List DRow) (hf:xs.length≤1048576) (hx:∀ x∈xs,Ctr prog 318 [.agg x.c] [.agg x.o]):Ctr prog 235 [.c (.sl (xs.map DRow.c))] [.own 201 2 (xs.map DRow.o) true]:=by
 refine CM call235 func235 ntmps235 results235 fun _=>?_
 have hc:(0:Int)≤xs.length∧(xs.length:Int)≤xs.length∧(xs.length:Int)≤2147483648:=AQ2
 simp only[go_sem,ae,hc,aap]
 have hg:=fun k=>@KE _ DRow.o DRow.o_nr [.v (.int .i64 0),.v (.slice none 0 0)] rfl xs k 201 2 true true
 refine ACi 1 0 [0,3,4] (A:=Nat) (fun k=>⟨23,[(0,.c (.sl (xs.map DRow.c))),(3,.c (.ref 0)),(4,.c (.v (.int .i64 k)))],[⟨201,2,grow (xs.map DRow.o) [.v (.int .i64 0),.v (.slice none 0 0)] k,true,true⟩]⟩) (fun k=>k≤xs.length) (fun k=>xs.length-k) 0 ⟨⟨rfl,AQ9⟩,ARU,au _⟩ ?_
 intro k hk
 refine AQy (fun h=>?_) fun h=>?_
 ·have hk':k<xs.length:=by simpa using h
  have hset:=@Ht _ DRow.o xs [.v (.int .i64 0),.v (.slice none 0 0)] k hk'
  simp only[go_sem,AA _ hk',Bh hk,EI hk',hk',wrap_i64 (n:=(k:Int)+1) AQ2 AQ2]
  refine CW (hx xs[k] (aj hk')) fun _=>?_
  simp only[go_sem,AA _ hk',Bh hk,EI hk',hk',wrap_i64 (n:=(k:Int)+1) AQ2 AQ2]
  refine⟨k+1,.inr ⟨k,grow (xs.map DRow.o) [.v (.int .i64 0),.v (.slice none 0 0)] k,_,DRow.o xs[k],_,⟨aa3,rfl,rfl,AR2,rfl⟩, ?_,⟨rfl, ?_⟩, ?_⟩,AQ2,ARW⟩
  ·simp[DRow.o_eq,OwnL,EH,AC,BH]
  ·exact AQP
  ·rw[Am,hset]; rfl
 ·have hk':k=xs.length:=by simp at h; omega
  subst hk'
  rw[Hu]
  simp only[go_sem]
  try simp[AO]
theorem iL (xs:List DRow) (hf:fitS Aw xs):Ctr prog 235 [.c (.sl (xs.map DRow.c))] [.own 201 2 (xs.map DRow.o) true]:=ADy xs hf.1 fun x hx=>AFc x (hf.2 x hx)
theorem ABE (xs:List DPred) (hf:xs.length≤1048576) (hx:∀ x∈xs,Ctr prog 80 [.agg x.c] [.agg x.o]):Ctr prog 162 [.c (.sl (xs.map DPred.c))] [.own 69 7 (xs.map DPred.o) true]:=by
 refine CM call162 func162 ntmps162 results162 fun _=>?_
 have hc:(0:Int)≤xs.length∧(xs.length:Int)≤xs.length∧(xs.length:Int)≤2147483648:=AQ2
 simp only[go_sem,ae,hc,aap]
 have hg:=fun k=>@KE _ DPred.o DPred.o_nr [.v (.int .i64 0),.v (.int .i64 0),.v (.int .i64 0),.v (.int .i64 0),.v (.int .i64 0),.v (.string ByteArray.empty),.v (.slice none 0 0)] rfl xs k 69 7 true true
 refine ACi 1 0 [0,3,4] (A:=Nat) (fun k=>⟨23,[(0,.c (.sl (xs.map DPred.c))),(3,.c (.ref 0)),(4,.c (.v (.int .i64 k)))],[⟨69,7,grow (xs.map DPred.o) [.v (.int .i64 0),.v (.int .i64 0),.v (.int .i64 0),.v (.int .i64 0),.v (.int .i64 0),.v (.string ByteArray.empty),.v (.slice none 0 0)] k,true,true⟩]⟩) (fun k=>k≤xs.length) (fun k=>xs.length-k) 0 ⟨⟨rfl,AQ9⟩,ARU,au _⟩ ?_
 intro k hk
 refine AQy (fun h=>?_) fun h=>?_
 ·have hk':k<xs.length:=by simpa using h
  have hset:=@Ht _ DPred.o xs [.v (.int .i64 0),.v (.int .i64 0),.v (.int .i64 0),.v (.int .i64 0),.v (.int .i64 0),.v (.string ByteArray.empty),.v (.slice none 0 0)] k hk'
  simp only[go_sem,AA _ hk',Bh hk,EI hk',hk',wrap_i64 (n:=(k:Int)+1) AQ2 AQ2]
  refine CW (hx xs[k] (aj hk')) fun _=>?_
  simp only[go_sem,AA _ hk',Bh hk,EI hk',hk',wrap_i64 (n:=(k:Int)+1) AQ2 AQ2]
  refine⟨k+1,.inr ⟨k,grow (xs.map DPred.o) [.v (.int .i64 0),.v (.int .i64 0),.v (.int .i64 0),.v (.int .i64 0),.v (.int .i64 0),.v (.string ByteArray.empty),.v (.slice none 0 0)] k,_,DPred.o xs[k],_,⟨aa3,rfl,rfl,AR2,rfl⟩, ?_,⟨rfl, ?_⟩, ?_⟩,AQ2,ARW⟩
  ·simp[DPred.o_eq,OwnL,EH,AC,DVal.c_eq,BC]
  ·exact AQP
  ·rw[Am,hset]; rfl
 ·have hk':k=xs.length:=by simp at h; omega
  subst hk'
  rw[Hu]
  simp only[go_sem]
  try simp[BC]
theorem rQ (d:DPred) (hf:Ap d) (hx:∀ x∈d.l,Ctr prog 80 [.agg x.c] [.agg x.o]):Ctr prog 80 [.agg d.c] [.agg d.o]:=by
 rw[BG] at hf
 obtain⟨f0,f1⟩:=hf
 refine CM call80 func80 ntmps80 results80 fun _=>?_
 simp only[go_sem]
 refine CW (I7 d.v f0) fun _=>?_
 simp only[go_sem]
 refine CW (ABE d.l f1.1 hx) fun _=>?_
 simp only[go_sem]
 try simp[OwnL,EH,AC,D7,DPred.o_eq]
theorem Sl:∀ (n:Nat) (d:DPred),SizeOf.sizeOf d≤n→Ap d→Ctr prog 80 [.agg d.c] [.agg d.o]
 | 0,d,h,_=>ASA
 | n+1,d,h,hf=>rQ d hf fun x hx=>Sl n x (by
  have h1:SizeOf.sizeOf x<SizeOf.sizeOf d.l:=aao hx
  have h2:SizeOf.sizeOf d.l<SizeOf.sizeOf d:=AR6
  omega) (by rw[BG] at hf; exact(hf.2).2 x hx)
theorem ADz (d:DPred) (hf:Ap d):Ctr prog 80 [.agg d.c] [.agg d.o]:=Sl _ d (aI _) hf
theorem Qq (d:DQuery) (hf:Bl d):Ctr prog 21 [.agg d.c] [.agg d.o]:=by
 rw[EG] at hf
 obtain⟨f0,f1⟩:=hf
 refine CM call21 func21 ntmps21 results21 fun _=>?_
 simp only[go_sem]
 refine CW (ADz d.p f0) fun _=>?_
 simp only[go_sem]
 refine CW (Qm d.out f1) fun _=>?_
 simp only[go_sem]
 try simp[OwnL,EH,AC,D7,DQuery.o_eq]
theorem Gl (d:DQuery) (hf:Bl d):Ctr prog 21 [.agg d.c] [.val (.agg d.c)]:=(Qq d hf).aggVal d.o_er
theorem xR (d:DResult) (hf:LK d):Ctr prog 236 [.agg d.c] [.agg d.o]:=by
 rw[Nj] at hf
 obtain⟨f0,f1⟩:=hf
 refine CM call236 func236 ntmps236 results236 fun _=>?_
 simp only[go_sem]
 refine CW (iL d.rows f0) fun _=>?_
 simp only[go_sem]
 refine CW (I7 d.v f1) fun _=>?_
 simp only[go_sem]
 try simp[OwnL,EH,AC,D7,DResult.o_eq]
theorem AD0 (d:DSlot) (hf:O_ d):Ctr prog 354 [.agg d.c] [.agg d.o]:=by
 rw[Jw] at hf
 have f0:=hf
 refine CM call354 func354 ntmps354 results354 fun _=>?_
 simp only[go_sem]
 refine CW (LU d.l f0.1 fun x hx=>I7 x (f0.2 x hx)) fun _=>?_
 simp only[go_sem]
 try simp[OwnL,EH,AC,D7,DSlot.o_eq]
theorem ABF (xs:List DSlot) (hf:xs.length≤1048576) (hx:∀ x∈xs,Ctr prog 354 [.agg x.c] [.agg x.o]):Ctr prog 317 [.c (.sl (xs.map DSlot.c))] [.own 231 2 (xs.map DSlot.o) true]:=by
 refine CM call317 func317 ntmps317 results317 fun _=>?_
 have hc:(0:Int)≤xs.length∧(xs.length:Int)≤xs.length∧(xs.length:Int)≤2147483648:=AQ2
 simp only[go_sem,ae,hc,aap]
 have hg:=fun k=>@KE _ DSlot.o DSlot.o_nr [.v (.int .i64 0),.v (.slice none 0 0)] rfl xs k 231 2 true true
 refine ACi 1 0 [0,3,4] (A:=Nat) (fun k=>⟨23,[(0,.c (.sl (xs.map DSlot.c))),(3,.c (.ref 0)),(4,.c (.v (.int .i64 k)))],[⟨231,2,grow (xs.map DSlot.o) [.v (.int .i64 0),.v (.slice none 0 0)] k,true,true⟩]⟩) (fun k=>k≤xs.length) (fun k=>xs.length-k) 0 ⟨⟨rfl,AQ9⟩,ARU,au _⟩ ?_
 intro k hk
 refine AQy (fun h=>?_) fun h=>?_
 ·have hk':k<xs.length:=by simpa using h
  have hset:=@Ht _ DSlot.o xs [.v (.int .i64 0),.v (.slice none 0 0)] k hk'
  simp only[go_sem,AA _ hk',Bh hk,EI hk',hk',wrap_i64 (n:=(k:Int)+1) AQ2 AQ2]
  refine CW (hx xs[k] (aj hk')) fun _=>?_
  simp only[go_sem,AA _ hk',Bh hk,EI hk',hk',wrap_i64 (n:=(k:Int)+1) AQ2 AQ2]
  refine⟨k+1,.inr ⟨k,grow (xs.map DSlot.o) [.v (.int .i64 0),.v (.slice none 0 0)] k,_,DSlot.o xs[k],_,⟨aa3,rfl,rfl,AR2,rfl⟩, ?_,⟨rfl, ?_⟩, ?_⟩,AQ2,ARW⟩
  ·simp[DSlot.o_eq,OwnL,EH,AC,BH]
  ·exact AQP
  ·rw[Am,hset]; rfl
 ·have hk':k=xs.length:=by simp at h; omega
  subst hk'
  rw[Hu]
  simp only[go_sem]
  try simp[Ha]
theorem xU (xs:List DSlot) (hf:fitS O_ xs):Ctr prog 317 [.c (.sl (xs.map DSlot.c))] [.own 231 2 (xs.map DSlot.o) true]:=ABF xs hf.1 fun x hx=>AD0 x (hf.2 x hx)
theorem ABG (d:DChunk) (hf:E5 d):Ctr prog 233 [.agg d.c] [.agg d.o]:=by
 rw[DY] at hf
 have f0:=hf
 refine CM call233 func233 ntmps233 results233 fun _=>?_
 simp only[go_sem]
 refine CW (xU d.l f0) fun _=>?_
 simp only[go_sem]
 try simp[OwnL,EH,AC,D7,DChunk.o_eq]
theorem AFd (d:DBuf) (hf:KL d):Ctr prog 121 [.agg d.c] [.agg d.o]:=by
 rw[JL] at hf
 obtain⟨f0,f1⟩:=hf
 refine CM call121 func121 ntmps121 results121 fun _=>?_
 simp only[go_sem]
 refine CW (ABG d.c0 f0) fun _=>?_
 simp only[go_sem]
 refine CW (wY d.g f1) fun _=>?_
 simp only[go_sem]
 try simp[OwnL,EH,AC,D7,DBuf.o_eq]
theorem AD1 (xs:List DBuf) (hf:xs.length≤1048576) (hx:∀ x∈xs,Ctr prog 121 [.agg x.c] [.agg x.o]):Ctr prog 46 [.c (.sl (xs.map DBuf.c))] [.own 170 5 (xs.map DBuf.o) true]:=by
 refine CM call46 func46 ntmps46 results46 fun _=>?_
 have hc:(0:Int)≤xs.length∧(xs.length:Int)≤xs.length∧(xs.length:Int)≤2147483648:=AQ2
 simp only[go_sem,ae,hc,aap]
 have hg:=fun k=>@KE _ DBuf.o DBuf.o_nr [.v (.int .i64 0),.v (.int .i64 0),.v (.int .i64 0),.v (.slice none 0 0),.v (.slice none 0 0)] rfl xs k 170 5 true true
 refine ACi 1 0 [0,3,4] (A:=Nat) (fun k=>⟨23,[(0,.c (.sl (xs.map DBuf.c))),(3,.c (.ref 0)),(4,.c (.v (.int .i64 k)))],[⟨170,5,grow (xs.map DBuf.o) [.v (.int .i64 0),.v (.int .i64 0),.v (.int .i64 0),.v (.slice none 0 0),.v (.slice none 0 0)] k,true,true⟩]⟩) (fun k=>k≤xs.length) (fun k=>xs.length-k) 0 ⟨⟨rfl,AQ9⟩,ARU,au _⟩ ?_
 intro k hk
 refine AQy (fun h=>?_) fun h=>?_
 ·have hk':k<xs.length:=by simpa using h
  have hset:=@Ht _ DBuf.o xs [.v (.int .i64 0),.v (.int .i64 0),.v (.int .i64 0),.v (.slice none 0 0),.v (.slice none 0 0)] k hk'
  simp only[go_sem,AA _ hk',Bh hk,EI hk',hk',wrap_i64 (n:=(k:Int)+1) AQ2 AQ2]
  refine CW (hx xs[k] (aj hk')) fun _=>?_
  simp only[go_sem,AA _ hk',Bh hk,EI hk',hk',wrap_i64 (n:=(k:Int)+1) AQ2 AQ2]
  refine⟨k+1,.inr ⟨k,grow (xs.map DBuf.o) [.v (.int .i64 0),.v (.int .i64 0),.v (.int .i64 0),.v (.slice none 0 0),.v (.slice none 0 0)] k,_,DBuf.o xs[k],_,⟨aa3,rfl,rfl,AR2,rfl⟩, ?_,⟨rfl, ?_⟩, ?_⟩,AQ2,ARW⟩
  ·simp[DBuf.o_eq,OwnL,EH,AC,DChunk.o_eq,DChunk.c_eq,Ha,CE]
  ·exact AQP
  ·rw[Am,hset]; rfl
 ·have hk':k=xs.length:=by simp at h; omega
  subst hk'
  rw[Hu]
  simp only[go_sem]
  try simp[D5]
theorem ABH (xs:List DBuf) (hf:fitS KL xs):Ctr prog 46 [.c (.sl (xs.map DBuf.c))] [.own 170 5 (xs.map DBuf.o) true]:=AD1 xs hf.1 fun x hx=>AFd x (hf.2 x hx)
theorem AFe (d:DDir) (hf:VP d):Ctr prog 45 [.agg d.c] [.agg d.o]:=by
 rw[LM] at hf
 have f0:=hf
 refine CM call45 func45 ntmps45 results45 fun _=>?_
 simp only[go_sem]
 refine CW (gZ d.l f0 fun x hx=>gY x) fun _=>?_
 simp only[go_sem]
 try simp[OwnL,EH,AC,D7,DDir.o_eq]
theorem AD2 (d:DTask) (hf:Ff d):Ctr prog 123 [.agg d.c] [.agg d.o]:=by
 rw[ED] at hf
 obtain⟨f0,f1,f2,f3⟩:=hf
 refine CM call123 func123 ntmps123 results123 fun _=>?_
 simp only[go_sem]
 refine CW (LU d.r f0.1 fun x hx=>I7 x (f0.2 x hx)) fun _=>?_
 simp only[go_sem]
 refine CW (Qq d.q f1) fun _=>?_
 simp only[go_sem]
 refine CW (gZ d.l f2 fun x hx=>gY x) fun _=>?_
 simp only[go_sem]
 refine CW (iL d.got f3) fun _=>?_
 simp only[go_sem]
 try simp[OwnL,EH,AC,D7,DTask.o_eq]
def YJ:List Cl:=[.v (.int .i64 0),.v (.int .i64 0),.v (.int .i64 0),.v (.slice none 0 0),.v (.int .i64 0),.v (.int .i64 0),.v (.int .i64 0),.v (.int .i64 0),.v (.int .i64 0),.v (.int .i64 0),.v (.int .i64 0),.v (.string ByteArray.empty),.v (.slice none 0 0),.v (.int .i64 0),.v (.slice none 0 0),.v (.int .i64 0),.v (.int .i64 0),.v (.slice none 0 0),.v (.int .i64 0),.v (.int .i64 0),.v (.int .i64 0),.v (.int .i64 0),.v (.int .i64 0),.v (.bool false),.v (.slice none 0 0)]
theorem ABJ (xs:List DTask) (hf:xs.length≤1048576) (hx:∀ x∈xs,Ctr prog 123 [.agg x.c] [.agg x.o]):Ctr prog 49 [.c (.sl (xs.map DTask.c))] [.own 132 25 (xs.map DTask.o) true]:=by
 refine CM call49 func49 ntmps49 results49 fun _=>?_
 have hc:(0:Int)≤xs.length∧(xs.length:Int)≤xs.length∧(xs.length:Int)≤2147483648:=AQ2
 simp only[go_sem,ae,hc,aap]
 have hg:=fun k=>@KE _ DTask.o DTask.o_nr YJ rfl xs k 132 25 true true
 refine ACi 1 0 [0,3,4] (A:=Nat) (fun k=>⟨23,[(0,.c (.sl (xs.map DTask.c))),(3,.c (.ref 0)),(4,.c (.v (.int .i64 k)))],[⟨132,25,grow (xs.map DTask.o) YJ k,true,true⟩]⟩) (fun k=>k≤xs.length) (fun k=>xs.length-k) 0 ⟨⟨rfl,AQ9⟩,ARU,au _⟩ ?_
 intro k hk
 refine AQy (fun h=>?_) fun h=>?_
 ·have hk':k<xs.length:=by simpa using h
  have hset:=@Ht _ DTask.o xs YJ k hk'
  simp only[go_sem,AA _ hk',Bh hk,EI hk',hk',wrap_i64 (n:=(k:Int)+1) AQ2 AQ2,YJ]
  refine CW (hx xs[k] (aj hk')) fun _=>?_
  simp only[go_sem,AA _ hk',Bh hk,EI hk',hk',wrap_i64 (n:=(k:Int)+1) AQ2 AQ2,YJ]
  refine⟨k+1,.inr ⟨k,grow (xs.map DTask.o) YJ k,_,DTask.o xs[k],_,⟨aa3,rfl,rfl,AR2,rfl⟩, ?_,⟨rfl, ?_⟩, ?_⟩,AQ2,ARW⟩
  ·simp[DTask.o_eq,OwnL,EH,AC,DPred.o_eq,DPred.c_eq,DQuery.o_eq,DQuery.c_eq,DVal.c_eq,BC,E_,AO,BH,AX]
  ·exact AQP
  ·rw[Am,hset]; rfl
 ·have hk':k=xs.length:=by simp at h; omega
  subst hk'
  rw[Hu]
  simp only[go_sem]
  try simp[GU]
theorem xW (xs:List DTask) (hf:fitS Ff xs):Ctr prog 49 [.c (.sl (xs.map DTask.c))] [.own 132 25 (xs.map DTask.o) true]:=ABJ xs hf.1 fun x hx=>AD2 x (hf.2 x hx)
theorem AD3 (d:DDeed) (hf:C_ d):Ctr prog 124 [.agg d.c] [.agg d.o]:=by
 rw[ES] at hf
 obtain⟨f0,f1,f2⟩:=hf
 refine CM call124 func124 ntmps124 results124 fun _=>?_
 simp only[go_sem]
 refine CW (LU d.r f0.1 fun x hx=>I7 x (f0.2 x hx)) fun _=>?_
 simp only[go_sem]
 refine CW (Qq d.q f1) fun _=>?_
 simp only[go_sem]
 refine CW (xR d.res f2) fun _=>?_
 simp only[go_sem]
 try simp[OwnL,EH,AC,D7,DDeed.o_eq]
def YK:List Cl:=[.v (.int .i64 0),.v (.int .i64 0),.v (.slice none 0 0),.v (.int .i64 0),.v (.int .i64 0),.v (.int .i64 0),.v (.int .i64 0),.v (.int .i64 0),.v (.int .i64 0),.v (.int .i64 0),.v (.string ByteArray.empty),.v (.slice none 0 0),.v (.int .i64 0),.v (.slice none 0 0),.v (.slice none 0 0),.v (.int .i64 0),.v (.bool false),.v (.int .i64 0),.v (.int .i64 0),.v (.string ByteArray.empty),.v (.int .i64 0),.v (.int .i64 0),.v (.int .i64 0),.v (.int .i64 0),.v (.int .i64 0)]
theorem ABK (xs:List DDeed) (hf:xs.length≤1048576) (hx:∀ x∈xs,Ctr prog 124 [.agg x.c] [.agg x.o]):Ctr prog 50 [.c (.sl (xs.map DDeed.c))] [.own 162 25 (xs.map DDeed.o) true]:=by
 refine CM call50 func50 ntmps50 results50 fun _=>?_
 have hc:(0:Int)≤xs.length∧(xs.length:Int)≤xs.length∧(xs.length:Int)≤2147483648:=AQ2
 simp only[go_sem,ae,hc,aap]
 have hg:=fun k=>@KE _ DDeed.o DDeed.o_nr YK rfl xs k 162 25 true true
 refine ACi 1 0 [0,3,4] (A:=Nat) (fun k=>⟨23,[(0,.c (.sl (xs.map DDeed.c))),(3,.c (.ref 0)),(4,.c (.v (.int .i64 k)))],[⟨162,25,grow (xs.map DDeed.o) YK k,true,true⟩]⟩) (fun k=>k≤xs.length) (fun k=>xs.length-k) 0 ⟨⟨rfl,AQ9⟩,ARU,au _⟩ ?_
 intro k hk
 refine AQy (fun h=>?_) fun h=>?_
 ·have hk':k<xs.length:=by simpa using h
  have hset:=@Ht _ DDeed.o xs YK k hk'
  simp only[go_sem,AA _ hk',Bh hk,EI hk',hk',wrap_i64 (n:=(k:Int)+1) AQ2 AQ2,YK]
  refine CW (hx xs[k] (aj hk')) fun _=>?_
  simp only[go_sem,AA _ hk',Bh hk,EI hk',hk',wrap_i64 (n:=(k:Int)+1) AQ2 AQ2,YK]
  refine⟨k+1,.inr ⟨k,grow (xs.map DDeed.o) YK k,_,DDeed.o xs[k],_,⟨aa3,rfl,rfl,AR2,rfl⟩, ?_,⟨rfl, ?_⟩, ?_⟩,AQ2,ARW⟩
  ·simp[DDeed.o_eq,OwnL,EH,AC,DPred.o_eq,DPred.c_eq,DQuery.o_eq,DQuery.c_eq,DResult.o_eq,DResult.c_eq,DVal.c_eq,BC,AO,BH,AX]
  ·exact AQP
  ·rw[Am,hset]; rfl
 ·have hk':k=xs.length:=by simp at h; omega
  subst hk'
  rw[Hu]
  simp only[go_sem]
  try simp[IJ]
theorem xX (xs:List DDeed) (hf:fitS C_ xs):Ctr prog 50 [.c (.sl (xs.map DDeed.c))] [.own 162 25 (xs.map DDeed.o) true]:=ABK xs hf.1 fun x hx=>AD3 x (hf.2 x hx)
theorem AD4 (d:DConf) (hf:QZ d):Ctr prog 44 [.agg d.c] [.agg d.o]:=by
 rw[Es] at hf
 have f0:=hf
 refine CM call44 func44 ntmps44 results44 fun _=>?_
 simp only[go_sem]
 refine CW (Qm d.cols f0) fun _=>?_
 simp only[go_sem]
 try simp[OwnL,EH,AC,D7,DConf.o_eq]
theorem VW (d:DWorld) (hf:AZ d):Ctr prog 11 [.agg d.c] [.agg d.o]:=by
 rw[Ai] at hf
 obtain⟨f0,f1,f2,f3,f4,f5,f6,f7⟩:=hf
 refine CM call11 func11 ntmps11 results11 fun _=>?_
 simp only[go_sem]
 refine CW (AD4 d.c0 f0) fun _=>?_
 simp only[go_sem]
 refine CW (AFe d.d f1) fun _=>?_
 simp only[go_sem]
 refine CW (ABH d.b f2) fun _=>?_
 simp only[go_sem]
 refine CW (Qm d.m f3) fun _=>?_
 simp only[go_sem]
 refine CW (wo d.x f4 fun x hx=>wZ x) fun _=>?_
 simp only[go_sem]
 refine CW (Qm d.p f5) fun _=>?_
 simp only[go_sem]
 refine CW (xW d.tasks f6) fun _=>?_
 simp only[go_sem]
 refine CW (xX d.deeds f7) fun _=>?_
 simp only[go_sem]
 try simp[OwnL,EH,AC,D7,DWorld.o_eq]
theorem Bf (d:DWorld) (hf:AZ d):Ctr prog 11 [.agg d.c] [.val (.agg d.c)]:=(VW d hf).aggVal d.o_er
end Go.Proofs.YthmifbbmgnhddaaGreat
