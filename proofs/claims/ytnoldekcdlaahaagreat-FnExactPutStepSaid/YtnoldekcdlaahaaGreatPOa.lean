/- A part. -/
import Derived.Test.YtnoldekcdlaahaaGreatPFa
set_option linter.unusedSimpArgs false
set_option linter.unusedVariables false
set_option maxHeartbeats 1000000
set_option maxRecDepth 10000
open Go.Proofs.Tryz
namespace Go.Proofs.YtnoldekcdlaahaaGreat
open Go.Vm
@[go_sem] theorem AX (l:List Int):BJ (l.map intC)=true:=FZ (AY intC.pure)
theorem Ah (l:List Int):QG (l.map intC)=l.map intC:=Ii (AY intC.pure)
@[go_sem] theorem CQ (l:List Int):BJ (l.map byteC)=true:=FZ (AY byteC.pure)
theorem zT (l:List Int):QG (l.map byteC)=l.map byteC:=Ii (AY byteC.pure)
@[go_sem] theorem DD (l:List DVal):BJ (l.map DVal.c)=true:=FZ (AY DVal.pure)
theorem FN (l:List DVal):QG (l.map DVal.c)=l.map DVal.c:=Ii (AY DVal.pure)
theorem zU (d:DVal):KA d.c=d.c:=Qv (DVal.pure d)
def DRow.o (d:DRow):List Cl:=[.v (.int .i64 d.id)]++([.ow 64 3 (d.l.map DVal.c)])
@[go_sem] theorem DRow.o_eq (d:DRow):d.o = [.v (.int .i64 d.id)]++([.ow 64 3 (d.l.map DVal.c)]):=rfl
theorem DRow.o_nr (d:DRow):d.o.all D6=true:=by
 rw[DRow.o_eq]
 simp[jU,D6]
@[go_sem] theorem BF (l:List DRow):BJ (l.map DRow.o)=true:=SV DRow.o_nr
theorem DRow.o_er (d:DRow):KA d.o=d.c:=by
 rw[DRow.o_eq,DRow.c_eq]
 simp[Iu,KA,er,FN]
theorem Jk (l:List DRow):QG (l.map DRow.o)=l.map DRow.c:=Ox DRow.o_er l
mutual
def DPred.o:DPred→List Cl
 | .mk kind col op v l=>[.v (.int .i64 kind)]++([.v (.int .i64 col)]++([.v (.int .i64 op)]++(v.c++([.ow 67 7 (DPred.oL l)]))))
def DPred.oL:List DPred→List (List Cl)
 | []=>[]
 | x::xs=>DPred.o x::DPred.oL xs
end
theorem DPred.oL_eq:∀ l:List DPred,DPred.oL l=l.map DPred.o
 | []=>rfl
 | x::xs=>by simp[DPred.oL,DPred.oL_eq xs]
@[go_sem] theorem DPred.o_eq (d:DPred):d.o = [.v (.int .i64 d.kind)]++([.v (.int .i64 d.col)]++([.v (.int .i64 d.op)]++(d.v.c++([.ow 67 7 (d.l.map DPred.o)])))):=by
 cases d
 simp only[DPred.o,DPred.oL_eq]
 rfl
theorem DPred.o_nr (d:DPred):d.o.all D6=true:=by
 rw[DPred.o_eq]
 simp[jU,D6,DVal.c_eq]
@[go_sem] theorem BR (l:List DPred):BJ (l.map DPred.o)=true:=SV DPred.o_nr
theorem DPred.o_er_fuel:∀ (n:Nat) (d:DPred),SizeOf.sizeOf d≤n→KA d.o=d.c
 | 0,d,h=>APf
 | n+1,d,h=>by
  have hm:QG (d.l.map DPred.o)=d.l.map DPred.c:=by
   rw[nH]
   refine aaK fun x hx=>DPred.o_er_fuel n x ?_
   exact AMW
  rw[DPred.o_eq,DPred.c_eq]
  simp[Iu,KA,er,hm,zU]
theorem DPred.o_er (d:DPred):KA d.o=d.c:=DPred.o_er_fuel _ d (aT _)
theorem JF (l:List DPred):QG (l.map DPred.o)=l.map DPred.c:=Ox DPred.o_er l
def DQuery.o (d:DQuery):List Cl:=[.v (.int .i64 d.kind)]++(d.p.o++([.v (.int .i64 d.col)]++([.ow 3 1 (d.out.map intC)])))
@[go_sem] theorem DQuery.o_eq (d:DQuery):d.o = [.v (.int .i64 d.kind)]++(d.p.o++([.v (.int .i64 d.col)]++([.ow 3 1 (d.out.map intC)]))):=rfl
theorem DQuery.o_nr (d:DQuery):d.o.all D6=true:=by
 rw[DQuery.o_eq]
 simp[jU,D6,DPred.o_nr]
theorem DQuery.o_er (d:DQuery):KA d.o=d.c:=by
 rw[DQuery.o_eq,DQuery.c_eq]
 simp[Iu,KA,er,DPred.o_er,Ah]
def DResult.o (d:DResult):List Cl:=[.ow 204 2 (d.rows.map DRow.o)]++([.v (.int .i64 d.n)]++([.v (.bool d.has)]++(d.v.c)))
@[go_sem] theorem DResult.o_eq (d:DResult):d.o = [.ow 204 2 (d.rows.map DRow.o)]++([.v (.int .i64 d.n)]++([.v (.bool d.has)]++(d.v.c))):=rfl
theorem DResult.o_nr (d:DResult):d.o.all D6=true:=by
 rw[DResult.o_eq]
 simp[jU,D6,DVal.c_eq]
theorem DResult.o_er (d:DResult):KA d.o=d.c:=by
 rw[DResult.o_eq,DResult.c_eq]
 simp[Iu,KA,er,Jk,zU]
def DSlot.o (d:DSlot):List Cl:=[.v (.int .i64 d.ins)]++([.ow 64 3 (d.l.map DVal.c)])
@[go_sem] theorem DSlot.o_eq (d:DSlot):d.o = [.v (.int .i64 d.ins)]++([.ow 64 3 (d.l.map DVal.c)]):=rfl
theorem DSlot.o_nr (d:DSlot):d.o.all D6=true:=by
 rw[DSlot.o_eq]
 simp[jU,D6]
@[go_sem] theorem ED (l:List DSlot):BJ (l.map DSlot.o)=true:=SV DSlot.o_nr
theorem DSlot.o_er (d:DSlot):KA d.o=d.c:=by
 rw[DSlot.o_eq,DSlot.c_eq]
 simp[Iu,KA,er,FN]
theorem Fg (l:List DSlot):QG (l.map DSlot.o)=l.map DSlot.c:=Ox DSlot.o_er l
def DChunk.o (d:DChunk):List Cl:=[.v (.int .i64 d.next)]++([.ow 199 2 (d.l.map DSlot.o)])
@[go_sem] theorem DChunk.o_eq (d:DChunk):d.o = [.v (.int .i64 d.next)]++([.ow 199 2 (d.l.map DSlot.o)]):=rfl
theorem DChunk.o_nr (d:DChunk):d.o.all D6=true:=by
 rw[DChunk.o_eq]
 simp[jU,D6]
theorem DChunk.o_er (d:DChunk):KA d.o=d.c:=by
 rw[DChunk.o_eq,DChunk.c_eq]
 simp[Iu,KA,er,Fg]
def DBuf.o (d:DBuf):List Cl:=[.v (.int .i64 d.gen)]++([.v (.int .i64 d.kind)]++(d.c0.o++([.ow 5 1 (d.g.map byteC)])))
@[go_sem] theorem DBuf.o_eq (d:DBuf):d.o = [.v (.int .i64 d.gen)]++([.v (.int .i64 d.kind)]++(d.c0.o++([.ow 5 1 (d.g.map byteC)]))):=rfl
theorem DBuf.o_nr (d:DBuf):d.o.all D6=true:=by
 rw[DBuf.o_eq]
 simp[jU,D6,DChunk.o_nr]
@[go_sem] theorem BK (l:List DBuf):BJ (l.map DBuf.o)=true:=SV DBuf.o_nr
theorem DBuf.o_er (d:DBuf):KA d.o=d.c:=by
 rw[DBuf.o_eq,DBuf.c_eq]
 simp[Iu,KA,er,DChunk.o_er,zT]
theorem EW (l:List DBuf):QG (l.map DBuf.o)=l.map DBuf.c:=Ox DBuf.o_er l
@[go_sem] theorem DY (l:List DDead):BJ (l.map DDead.c)=true:=FZ (AY DDead.pure)
theorem DT (l:List DDead):QG (l.map DDead.c)=l.map DDead.c:=Ii (AY DDead.pure)
@[go_sem] theorem BO (l:List DRef):BJ (l.map DRef.c)=true:=FZ (AY DRef.pure)
theorem DI (l:List DRef):QG (l.map DRef.c)=l.map DRef.c:=Ii (AY DRef.pure)
def DDir.o (d:DDir):List Cl:=[.v (.int .i64 d.ver)]++([.ow 133 5 (d.l.map DRef.c)])
@[go_sem] theorem DDir.o_eq (d:DDir):d.o = [.v (.int .i64 d.ver)]++([.ow 133 5 (d.l.map DRef.c)]):=rfl
theorem DDir.o_nr (d:DDir):d.o.all D6=true:=by
 rw[DDir.o_eq]
 simp[jU,D6]
theorem DDir.o_er (d:DDir):KA d.o=d.c:=by
 rw[DDir.o_eq,DDir.c_eq]
 simp[Iu,KA,er,DI]
def DTask.o (d:DTask):List Cl:=[.v (.int .i64 d.op)]++([.v (.int .i64 d.pc)]++([.v (.int .i64 d.h)]++([.ow 64 3 (d.r.map DVal.c)]++([.v (.int .i64 d.id)]++(d.q.o++([.v (.int .i64 d.ts)]++([.v (.int .i64 d.ver)]++([.ow 133 5 (d.l.map DRef.c)]++([.v (.int .i64 d.i)]++([.v (.int .i64 d.j)]++([.v (.int .i64 d.s)]++([.v (.int .i64 d.at0)]++([.v (.int .i64 d.own)]++([.v (.bool d.won)]++([.ow 204 2 (d.got.map DRow.o)])))))))))))))))
@[go_sem] theorem DTask.o_eq (d:DTask):d.o = [.v (.int .i64 d.op)]++([.v (.int .i64 d.pc)]++([.v (.int .i64 d.h)]++([.ow 64 3 (d.r.map DVal.c)]++([.v (.int .i64 d.id)]++(d.q.o++([.v (.int .i64 d.ts)]++([.v (.int .i64 d.ver)]++([.ow 133 5 (d.l.map DRef.c)]++([.v (.int .i64 d.i)]++([.v (.int .i64 d.j)]++([.v (.int .i64 d.s)]++([.v (.int .i64 d.at0)]++([.v (.int .i64 d.own)]++([.v (.bool d.won)]++([.ow 204 2 (d.got.map DRow.o)]))))))))))))))):=rfl
theorem DTask.o_nr (d:DTask):d.o.all D6=true:=by
 rw[DTask.o_eq]
 simp[jU,D6,DQuery.o_nr]
@[go_sem] theorem Gw (l:List DTask):BJ (l.map DTask.o)=true:=SV DTask.o_nr
theorem DTask.o_er (d:DTask):KA d.o=d.c:=by
 rw[DTask.o_eq,DTask.c_eq]
 simp[Iu,KA,er,DQuery.o_er,Jk,DI,FN]
theorem Ia (l:List DTask):QG (l.map DTask.o)=l.map DTask.c:=Ox DTask.o_er l
def DDeed.o (d:DDeed):List Cl:=[.v (.int .i64 d.op)]++([.v (.int .i64 d.task)]++([.ow 64 3 (d.r.map DVal.c)]++([.v (.int .i64 d.id)]++(d.q.o++(d.res.o++([.v (.int .i64 d.code)]++([.v (.int .i64 d.stamp)]++([.v (.int .i64 d.inv)]++([.v (.int .i64 d.lin)]++([.v (.int .i64 d.ret)]))))))))))
@[go_sem] theorem DDeed.o_eq (d:DDeed):d.o = [.v (.int .i64 d.op)]++([.v (.int .i64 d.task)]++([.ow 64 3 (d.r.map DVal.c)]++([.v (.int .i64 d.id)]++(d.q.o++(d.res.o++([.v (.int .i64 d.code)]++([.v (.int .i64 d.stamp)]++([.v (.int .i64 d.inv)]++([.v (.int .i64 d.lin)]++([.v (.int .i64 d.ret)])))))))))):=rfl
theorem DDeed.o_nr (d:DDeed):d.o.all D6=true:=by
 rw[DDeed.o_eq]
 simp[jU,D6,DQuery.o_nr,DResult.o_nr]
@[go_sem] theorem DU (l:List DDeed):BJ (l.map DDeed.o)=true:=SV DDeed.o_nr
theorem DDeed.o_er (d:DDeed):KA d.o=d.c:=by
 rw[DDeed.o_eq,DDeed.c_eq]
 simp[Iu,KA,er,DQuery.o_er,DResult.o_er,FN]
theorem A7 (l:List DDeed):QG (l.map DDeed.o)=l.map DDeed.c:=Ox DDeed.o_er l
def DConf.o (d:DConf):List Cl:=[.ow 3 1 (d.cols.map intC)]++([.v (.int .i64 d.slots)]++([.v (.int .i64 d.bufs)]))
@[go_sem] theorem DConf.o_eq (d:DConf):d.o = [.ow 3 1 (d.cols.map intC)]++([.v (.int .i64 d.slots)]++([.v (.int .i64 d.bufs)])):=rfl
theorem DConf.o_nr (d:DConf):d.o.all D6=true:=by
 rw[DConf.o_eq]
 simp[jU,D6]
theorem DConf.o_er (d:DConf):KA d.o=d.c:=by
 rw[DConf.o_eq,DConf.c_eq]
 simp[Iu,KA,er,Ah]
def DWorld.o (d:DWorld):List Cl:=d.c0.o++([.v (.int .i64 d.time)]++([.v (.int .i64 d.t)]++([.v (.int .i64 d.e)]++(d.d.o++([.ow 142 5 (d.b.map DBuf.o)]++([.ow 3 1 (d.m.map intC)]++([.ow 145 3 (d.x.map DDead.c)]++([.ow 3 1 (d.p.map intC)]++([.ow 72 25 (d.tasks.map DTask.o)]++([.ow 152 25 (d.deeds.map DDeed.o)]))))))))))
@[go_sem] theorem DWorld.o_eq (d:DWorld):d.o=d.c0.o++([.v (.int .i64 d.time)]++([.v (.int .i64 d.t)]++([.v (.int .i64 d.e)]++(d.d.o++([.ow 142 5 (d.b.map DBuf.o)]++([.ow 3 1 (d.m.map intC)]++([.ow 145 3 (d.x.map DDead.c)]++([.ow 3 1 (d.p.map intC)]++([.ow 72 25 (d.tasks.map DTask.o)]++([.ow 152 25 (d.deeds.map DDeed.o)])))))))))):=rfl
theorem DWorld.o_nr (d:DWorld):d.o.all D6=true:=by
 rw[DWorld.o_eq]
 simp[jU,D6,DConf.o_nr,DDir.o_nr]
theorem DWorld.o_er (d:DWorld):KA d.o=d.c:=by
 rw[DWorld.o_eq,DWorld.c_eq]
 simp[Iu,KA,er,DConf.o_er,DDir.o_er,EW,A7,Ia,DT,Ah]
theorem ACm (d:DRow) (hf:Hf d):Ctr prog 303 [.agg d.c] [.agg d.o]:=by
 rw[JW] at hf
 have f0:=hf
 refine CM call303 func303 ntmps303 results303 fun _=>?_
 simp only[go_sem]
 refine CW (PU d.l f0.1 fun x hx=>KR x (f0.2 x hx)) fun _=>?_
 simp only[go_sem]
 try simp[OwnL,Cf,AB,BJ,DRow.o_eq]
theorem AA7 (xs:List DRow) (hf:xs.length≤1048576) (hx:∀ x∈xs,Ctr prog 303 [.agg x.c] [.agg x.o]):Ctr prog 216 [.c (.sl (xs.map DRow.c))] [.own 204 2 (xs.map DRow.o) true]:=by
 refine CM call216 func216 ntmps216 results216 fun _=>?_
 have hc:(0:Int)≤xs.length∧(xs.length:Int)≤xs.length∧(xs.length:Int)≤2147483648:=AOQ
 simp only[go_sem,ae,hc,bU]
 have hg:=fun k=>@Jc _ DRow.o DRow.o_nr [.v (.int .i64 0),.v (.slice none 0 0)] rfl xs k 204 2 true true
 refine ACS 1 0 [0,3,4] (A:=Nat) (fun k=>⟨23,[(0,.c (.sl (xs.map DRow.c))),(3,.c (.ref 0)),(4,.c (.v (.int .i64 k)))],[⟨204,2,grow (xs.map DRow.o) [.v (.int .i64 0),.v (.slice none 0 0)] k,true,true⟩]⟩) (fun k=>k≤xs.length) (fun k=>xs.length-k) 0 ⟨⟨rfl,AOX⟩,AOr,aA _⟩ ?_
 intro k hk
 refine AOK (fun h=>?_) fun h=>?_
 ·have hk':k<xs.length:=by simpa using h
  have hset:=@Gz _ DRow.o xs [.v (.int .i64 0),.v (.slice none 0 0)] k hk'
  simp only[go_sem,AA _ hk',Bq hk,EL hk',hk',wrap_i64 (n:=(k:Int)+1) AOQ AOQ]
  refine CW (hx xs[k] (ax hk')) fun _=>?_
  simp only[go_sem,AA _ hk',Bq hk,EL hk',hk',wrap_i64 (n:=(k:Int)+1) AOQ AOQ]
  refine⟨k+1,.inr ⟨k,grow (xs.map DRow.o) [.v (.int .i64 0),.v (.slice none 0 0)] k,_,DRow.o xs[k],_,⟨aaR,rfl,rfl,APR,rfl⟩, ?_,⟨rfl, ?_⟩, ?_⟩,AOQ,AOu⟩
  ·simp[DRow.o_eq,OwnL,Cf,AB,DD]
  ·exact ANt
  ·rw[BV,hset]; rfl
 ·have hk':k=xs.length:=by simp at h; omega
  subst hk'
  rw[G5]
  simp only[go_sem]
  try simp[BF]
theorem ZX (xs:List DRow) (hf:fitS Hf xs):Ctr prog 216 [.c (.sl (xs.map DRow.c))] [.own 204 2 (xs.map DRow.o) true]:=AA7 xs hf.1 fun x hx=>ACm x (hf.2 x hx)
theorem xB (xs:List DPred) (hf:xs.length≤1048576) (hx:∀ x∈xs,Ctr prog 302 [.agg x.c] [.agg x.o]):Ctr prog 355 [.c (.sl (xs.map DPred.c))] [.own 67 7 (xs.map DPred.o) true]:=by
 refine CM call355 func355 ntmps355 results355 fun _=>?_
 have hc:(0:Int)≤xs.length∧(xs.length:Int)≤xs.length∧(xs.length:Int)≤2147483648:=AOQ
 simp only[go_sem,ae,hc,bU]
 have hg:=fun k=>@Jc _ DPred.o DPred.o_nr [.v (.int .i64 0),.v (.int .i64 0),.v (.int .i64 0),.v (.int .i64 0),.v (.int .i64 0),.v (.string ByteArray.empty),.v (.slice none 0 0)] rfl xs k 67 7 true true
 refine ACS 1 0 [0,3,4] (A:=Nat) (fun k=>⟨23,[(0,.c (.sl (xs.map DPred.c))),(3,.c (.ref 0)),(4,.c (.v (.int .i64 k)))],[⟨67,7,grow (xs.map DPred.o) [.v (.int .i64 0),.v (.int .i64 0),.v (.int .i64 0),.v (.int .i64 0),.v (.int .i64 0),.v (.string ByteArray.empty),.v (.slice none 0 0)] k,true,true⟩]⟩) (fun k=>k≤xs.length) (fun k=>xs.length-k) 0 ⟨⟨rfl,AOX⟩,AOr,aA _⟩ ?_
 intro k hk
 refine AOK (fun h=>?_) fun h=>?_
 ·have hk':k<xs.length:=by simpa using h
  have hset:=@Gz _ DPred.o xs [.v (.int .i64 0),.v (.int .i64 0),.v (.int .i64 0),.v (.int .i64 0),.v (.int .i64 0),.v (.string ByteArray.empty),.v (.slice none 0 0)] k hk'
  simp only[go_sem,AA _ hk',Bq hk,EL hk',hk',wrap_i64 (n:=(k:Int)+1) AOQ AOQ]
  refine CW (hx xs[k] (ax hk')) fun _=>?_
  simp only[go_sem,AA _ hk',Bq hk,EL hk',hk',wrap_i64 (n:=(k:Int)+1) AOQ AOQ]
  refine⟨k+1,.inr ⟨k,grow (xs.map DPred.o) [.v (.int .i64 0),.v (.int .i64 0),.v (.int .i64 0),.v (.int .i64 0),.v (.int .i64 0),.v (.string ByteArray.empty),.v (.slice none 0 0)] k,_,DPred.o xs[k],_,⟨aaR,rfl,rfl,APR,rfl⟩, ?_,⟨rfl, ?_⟩, ?_⟩,AOQ,AOu⟩
  ·simp[DPred.o_eq,OwnL,Cf,AB,DVal.c_eq,BR]
  ·exact ANt
  ·rw[BV,hset]; rfl
 ·have hk':k=xs.length:=by simp at h; omega
  subst hk'
  rw[G5]
  simp only[go_sem]
  try simp[BR]
theorem l7 (d:DPred) (hf:BD d) (hx:∀ x∈d.l,Ctr prog 302 [.agg x.c] [.agg x.o]):Ctr prog 302 [.agg d.c] [.agg d.o]:=by
 rw[Bg] at hf
 obtain⟨f0,f1⟩:=hf
 refine CM call302 func302 ntmps302 results302 fun _=>?_
 simp only[go_sem]
 refine CW (KR d.v f0) fun _=>?_
 simp only[go_sem]
 refine CW (xB d.l f1.1 hx) fun _=>?_
 simp only[go_sem]
 try simp[OwnL,Cf,AB,BJ,DPred.o_eq]
theorem Qd:∀ (n:Nat) (d:DPred),SizeOf.sizeOf d≤n→BD d→Ctr prog 302 [.agg d.c] [.agg d.o]
 | 0,d,h,_=>APf
 | n+1,d,h,hf=>l7 d hf fun x hx=>Qd n x (by
  have h1:SizeOf.sizeOf x<SizeOf.sizeOf d.l:=zg hx
  have h2:SizeOf.sizeOf d.l<SizeOf.sizeOf d:=APX
  omega) (by rw[Bg] at hf; exact(hf.2).2 x hx)
theorem AA8 (d:DPred) (hf:BD d):Ctr prog 302 [.agg d.c] [.agg d.o]:=Qd _ d (aT _) hf
theorem ZY (d:DQuery) (hf:Eh d):Ctr prog 215 [.agg d.c] [.agg d.o]:=by
 rw[GI] at hf
 obtain⟨f0,f1⟩:=hf
 refine CM call215 func215 ntmps215 results215 fun _=>?_
 simp only[go_sem]
 refine CW (AA8 d.p f0) fun _=>?_
 simp only[go_sem]
 refine CW (PT d.out f1) fun _=>?_
 simp only[go_sem]
 try simp[OwnL,Cf,AB,BJ,DQuery.o_eq]
theorem qm (d:DResult) (hf:KH d):Ctr prog 217 [.agg d.c] [.agg d.o]:=by
 rw[MH] at hf
 obtain⟨f0,f1⟩:=hf
 refine CM call217 func217 ntmps217 results217 fun _=>?_
 simp only[go_sem]
 refine CW (ZX d.rows f0) fun _=>?_
 simp only[go_sem]
 refine CW (KR d.v f1) fun _=>?_
 simp only[go_sem]
 try simp[OwnL,Cf,AB,BJ,DResult.o_eq]
theorem AA9 (d:DSlot) (hf:Kv d):Ctr prog 354 [.agg d.c] [.agg d.o]:=by
 rw[IY] at hf
 have f0:=hf
 refine CM call354 func354 ntmps354 results354 fun _=>?_
 simp only[go_sem]
 refine CW (PU d.l f0.1 fun x hx=>KR x (f0.2 x hx)) fun _=>?_
 simp only[go_sem]
 try simp[OwnL,Cf,AB,BJ,DSlot.o_eq]
theorem xC (xs:List DSlot) (hf:xs.length≤1048576) (hx:∀ x∈xs,Ctr prog 354 [.agg x.c] [.agg x.o]):Ctr prog 300 [.c (.sl (xs.map DSlot.c))] [.own 199 2 (xs.map DSlot.o) true]:=by
 refine CM call300 func300 ntmps300 results300 fun _=>?_
 have hc:(0:Int)≤xs.length∧(xs.length:Int)≤xs.length∧(xs.length:Int)≤2147483648:=AOQ
 simp only[go_sem,ae,hc,bU]
 have hg:=fun k=>@Jc _ DSlot.o DSlot.o_nr [.v (.int .i64 0),.v (.slice none 0 0)] rfl xs k 199 2 true true
 refine ACS 1 0 [0,3,4] (A:=Nat) (fun k=>⟨23,[(0,.c (.sl (xs.map DSlot.c))),(3,.c (.ref 0)),(4,.c (.v (.int .i64 k)))],[⟨199,2,grow (xs.map DSlot.o) [.v (.int .i64 0),.v (.slice none 0 0)] k,true,true⟩]⟩) (fun k=>k≤xs.length) (fun k=>xs.length-k) 0 ⟨⟨rfl,AOX⟩,AOr,aA _⟩ ?_
 intro k hk
 refine AOK (fun h=>?_) fun h=>?_
 ·have hk':k<xs.length:=by simpa using h
  have hset:=@Gz _ DSlot.o xs [.v (.int .i64 0),.v (.slice none 0 0)] k hk'
  simp only[go_sem,AA _ hk',Bq hk,EL hk',hk',wrap_i64 (n:=(k:Int)+1) AOQ AOQ]
  refine CW (hx xs[k] (ax hk')) fun _=>?_
  simp only[go_sem,AA _ hk',Bq hk,EL hk',hk',wrap_i64 (n:=(k:Int)+1) AOQ AOQ]
  refine⟨k+1,.inr ⟨k,grow (xs.map DSlot.o) [.v (.int .i64 0),.v (.slice none 0 0)] k,_,DSlot.o xs[k],_,⟨aaR,rfl,rfl,APR,rfl⟩, ?_,⟨rfl, ?_⟩, ?_⟩,AOQ,AOu⟩
  ·simp[DSlot.o_eq,OwnL,Cf,AB,DD]
  ·exact ANt
  ·rw[BV,hset]; rfl
 ·have hk':k=xs.length:=by simp at h; omega
  subst hk'
  rw[G5]
  simp only[go_sem]
  try simp[ED]
theorem qo (xs:List DSlot) (hf:fitS Kv xs):Ctr prog 300 [.c (.sl (xs.map DSlot.c))] [.own 199 2 (xs.map DSlot.o) true]:=xC xs hf.1 fun x hx=>AA9 x (hf.2 x hx)
theorem xE (d:DChunk) (hf:EI d):Ctr prog 212 [.agg d.c] [.agg d.o]:=by
 rw[CE] at hf
 have f0:=hf
 refine CM call212 func212 ntmps212 results212 fun _=>?_
 simp only[go_sem]
 refine CW (qo d.l f0) fun _=>?_
 simp only[go_sem]
 try simp[OwnL,Cf,AB,BJ,DChunk.o_eq]
theorem ACn (d:DBuf) (hf:E8 d):Ctr prog 98 [.agg d.c] [.agg d.o]:=by
 rw[Fa] at hf
 obtain⟨f0,f1⟩:=hf
 refine CM call98 func98 ntmps98 results98 fun _=>?_
 simp only[go_sem]
 refine CW (xE d.c0 f0) fun _=>?_
 simp only[go_sem]
 refine CW (qW d.g f1) fun _=>?_
 simp only[go_sem]
 try simp[OwnL,Cf,AB,BJ,DBuf.o_eq]
theorem AA_ (xs:List DBuf) (hf:xs.length≤1048576) (hx:∀ x∈xs,Ctr prog 98 [.agg x.c] [.agg x.o]):Ctr prog 34 [.c (.sl (xs.map DBuf.c))] [.own 142 5 (xs.map DBuf.o) true]:=by
 refine CM call34 func34 ntmps34 results34 fun _=>?_
 have hc:(0:Int)≤xs.length∧(xs.length:Int)≤xs.length∧(xs.length:Int)≤2147483648:=AOQ
 simp only[go_sem,ae,hc,bU]
 have hg:=fun k=>@Jc _ DBuf.o DBuf.o_nr [.v (.int .i64 0),.v (.int .i64 0),.v (.int .i64 0),.v (.slice none 0 0),.v (.slice none 0 0)] rfl xs k 142 5 true true
 refine ACS 1 0 [0,3,4] (A:=Nat) (fun k=>⟨23,[(0,.c (.sl (xs.map DBuf.c))),(3,.c (.ref 0)),(4,.c (.v (.int .i64 k)))],[⟨142,5,grow (xs.map DBuf.o) [.v (.int .i64 0),.v (.int .i64 0),.v (.int .i64 0),.v (.slice none 0 0),.v (.slice none 0 0)] k,true,true⟩]⟩) (fun k=>k≤xs.length) (fun k=>xs.length-k) 0 ⟨⟨rfl,AOX⟩,AOr,aA _⟩ ?_
 intro k hk
 refine AOK (fun h=>?_) fun h=>?_
 ·have hk':k<xs.length:=by simpa using h
  have hset:=@Gz _ DBuf.o xs [.v (.int .i64 0),.v (.int .i64 0),.v (.int .i64 0),.v (.slice none 0 0),.v (.slice none 0 0)] k hk'
  simp only[go_sem,AA _ hk',Bq hk,EL hk',hk',wrap_i64 (n:=(k:Int)+1) AOQ AOQ]
  refine CW (hx xs[k] (ax hk')) fun _=>?_
  simp only[go_sem,AA _ hk',Bq hk,EL hk',hk',wrap_i64 (n:=(k:Int)+1) AOQ AOQ]
  refine⟨k+1,.inr ⟨k,grow (xs.map DBuf.o) [.v (.int .i64 0),.v (.int .i64 0),.v (.int .i64 0),.v (.slice none 0 0),.v (.slice none 0 0)] k,_,DBuf.o xs[k],_,⟨aaR,rfl,rfl,APR,rfl⟩, ?_,⟨rfl, ?_⟩, ?_⟩,AOQ,AOu⟩
  ·simp[DBuf.o_eq,OwnL,Cf,AB,DChunk.o_eq,DChunk.c_eq,ED,CQ]
  ·exact ANt
  ·rw[BV,hset]; rfl
 ·have hk':k=xs.length:=by simp at h; omega
  subst hk'
  rw[G5]
  simp only[go_sem]
  try simp[BK]
theorem xG (xs:List DBuf) (hf:fitS E8 xs):Ctr prog 34 [.c (.sl (xs.map DBuf.c))] [.own 142 5 (xs.map DBuf.o) true]:=AA_ xs hf.1 fun x hx=>ACn x (hf.2 x hx)
theorem ACo (d:DDir) (hf:Tf d):Ctr prog 33 [.agg d.c] [.agg d.o]:=by
 rw[IG] at hf
 have f0:=hf
 refine CM call33 func33 ntmps33 results33 fun _=>?_
 simp only[go_sem]
 refine CW (ZW d.l f0 fun x hx=>ZV x) fun _=>?_
 simp only[go_sem]
 try simp[OwnL,Cf,AB,BJ,DDir.o_eq]
theorem ABA (d:DTask) (hf:Gu d):Ctr prog 100 [.agg d.c] [.agg d.o]:=by
 rw[DR] at hf
 obtain⟨f0,f1,f2,f3⟩:=hf
 refine CM call100 func100 ntmps100 results100 fun _=>?_
 simp only[go_sem]
 refine CW (PU d.r f0.1 fun x hx=>KR x (f0.2 x hx)) fun _=>?_
 simp only[go_sem]
 refine CW (ZY d.q f1) fun _=>?_
 simp only[go_sem]
 refine CW (ZW d.l f2 fun x hx=>ZV x) fun _=>?_
 simp only[go_sem]
 refine CW (ZX d.got f3) fun _=>?_
 simp only[go_sem]
 try simp[OwnL,Cf,AB,BJ,DTask.o_eq]
def WO:List Cl:=[.v (.int .i64 0),.v (.int .i64 0),.v (.int .i64 0),.v (.slice none 0 0),.v (.int .i64 0),.v (.int .i64 0),.v (.int .i64 0),.v (.int .i64 0),.v (.int .i64 0),.v (.int .i64 0),.v (.int .i64 0),.v (.string ByteArray.empty),.v (.slice none 0 0),.v (.int .i64 0),.v (.slice none 0 0),.v (.int .i64 0),.v (.int .i64 0),.v (.slice none 0 0),.v (.int .i64 0),.v (.int .i64 0),.v (.int .i64 0),.v (.int .i64 0),.v (.int .i64 0),.v (.bool false),.v (.slice none 0 0)]
theorem xH (xs:List DTask) (hf:xs.length≤1048576) (hx:∀ x∈xs,Ctr prog 100 [.agg x.c] [.agg x.o]):Ctr prog 37 [.c (.sl (xs.map DTask.c))] [.own 72 25 (xs.map DTask.o) true]:=by
 refine CM call37 func37 ntmps37 results37 fun _=>?_
 have hc:(0:Int)≤xs.length∧(xs.length:Int)≤xs.length∧(xs.length:Int)≤2147483648:=AOQ
 simp only[go_sem,ae,hc,bU]
 have hg:=fun k=>@Jc _ DTask.o DTask.o_nr WO rfl xs k 72 25 true true
 refine ACS 1 0 [0,3,4] (A:=Nat) (fun k=>⟨23,[(0,.c (.sl (xs.map DTask.c))),(3,.c (.ref 0)),(4,.c (.v (.int .i64 k)))],[⟨72,25,grow (xs.map DTask.o) WO k,true,true⟩]⟩) (fun k=>k≤xs.length) (fun k=>xs.length-k) 0 ⟨⟨rfl,AOX⟩,AOr,aA _⟩ ?_
 intro k hk
 refine AOK (fun h=>?_) fun h=>?_
 ·have hk':k<xs.length:=by simpa using h
  have hset:=@Gz _ DTask.o xs WO k hk'
  simp only[go_sem,AA _ hk',Bq hk,EL hk',hk',wrap_i64 (n:=(k:Int)+1) AOQ AOQ,WO]
  refine CW (hx xs[k] (ax hk')) fun _=>?_
  simp only[go_sem,AA _ hk',Bq hk,EL hk',hk',wrap_i64 (n:=(k:Int)+1) AOQ AOQ,WO]
  refine⟨k+1,.inr ⟨k,grow (xs.map DTask.o) WO k,_,DTask.o xs[k],_,⟨aaR,rfl,rfl,APR,rfl⟩, ?_,⟨rfl, ?_⟩, ?_⟩,AOQ,AOu⟩
  ·simp[DTask.o_eq,OwnL,Cf,AB,DPred.o_eq,DPred.c_eq,DQuery.o_eq,DQuery.c_eq,DVal.c_eq,BR,BO,BF,DD,AX]
  ·exact ANt
  ·rw[BV,hset]; rfl
 ·have hk':k=xs.length:=by simp at h; omega
  subst hk'
  rw[G5]
  simp only[go_sem]
  try simp[Gw]
theorem qp (xs:List DTask) (hf:fitS Gu xs):Ctr prog 37 [.c (.sl (xs.map DTask.c))] [.own 72 25 (xs.map DTask.o) true]:=xH xs hf.1 fun x hx=>ABA x (hf.2 x hx)
theorem ABB (d:DDeed) (hf:GK d):Ctr prog 101 [.agg d.c] [.agg d.o]:=by
 rw[IZ] at hf
 obtain⟨f0,f1,f2⟩:=hf
 refine CM call101 func101 ntmps101 results101 fun _=>?_
 simp only[go_sem]
 refine CW (PU d.r f0.1 fun x hx=>KR x (f0.2 x hx)) fun _=>?_
 simp only[go_sem]
 refine CW (ZY d.q f1) fun _=>?_
 simp only[go_sem]
 refine CW (qm d.res f2) fun _=>?_
 simp only[go_sem]
 try simp[OwnL,Cf,AB,BJ,DDeed.o_eq]
def WP:List Cl:=[.v (.int .i64 0),.v (.int .i64 0),.v (.slice none 0 0),.v (.int .i64 0),.v (.int .i64 0),.v (.int .i64 0),.v (.int .i64 0),.v (.int .i64 0),.v (.int .i64 0),.v (.int .i64 0),.v (.string ByteArray.empty),.v (.slice none 0 0),.v (.int .i64 0),.v (.slice none 0 0),.v (.slice none 0 0),.v (.int .i64 0),.v (.bool false),.v (.int .i64 0),.v (.int .i64 0),.v (.string ByteArray.empty),.v (.int .i64 0),.v (.int .i64 0),.v (.int .i64 0),.v (.int .i64 0),.v (.int .i64 0)]
theorem xI (xs:List DDeed) (hf:xs.length≤1048576) (hx:∀ x∈xs,Ctr prog 101 [.agg x.c] [.agg x.o]):Ctr prog 38 [.c (.sl (xs.map DDeed.c))] [.own 152 25 (xs.map DDeed.o) true]:=by
 refine CM call38 func38 ntmps38 results38 fun _=>?_
 have hc:(0:Int)≤xs.length∧(xs.length:Int)≤xs.length∧(xs.length:Int)≤2147483648:=AOQ
 simp only[go_sem,ae,hc,bU]
 have hg:=fun k=>@Jc _ DDeed.o DDeed.o_nr WP rfl xs k 152 25 true true
 refine ACS 1 0 [0,3,4] (A:=Nat) (fun k=>⟨23,[(0,.c (.sl (xs.map DDeed.c))),(3,.c (.ref 0)),(4,.c (.v (.int .i64 k)))],[⟨152,25,grow (xs.map DDeed.o) WP k,true,true⟩]⟩) (fun k=>k≤xs.length) (fun k=>xs.length-k) 0 ⟨⟨rfl,AOX⟩,AOr,aA _⟩ ?_
 intro k hk
 refine AOK (fun h=>?_) fun h=>?_
 ·have hk':k<xs.length:=by simpa using h
  have hset:=@Gz _ DDeed.o xs WP k hk'
  simp only[go_sem,AA _ hk',Bq hk,EL hk',hk',wrap_i64 (n:=(k:Int)+1) AOQ AOQ,WP]
  refine CW (hx xs[k] (ax hk')) fun _=>?_
  simp only[go_sem,AA _ hk',Bq hk,EL hk',hk',wrap_i64 (n:=(k:Int)+1) AOQ AOQ,WP]
  refine⟨k+1,.inr ⟨k,grow (xs.map DDeed.o) WP k,_,DDeed.o xs[k],_,⟨aaR,rfl,rfl,APR,rfl⟩, ?_,⟨rfl, ?_⟩, ?_⟩,AOQ,AOu⟩
  ·simp[DDeed.o_eq,OwnL,Cf,AB,DPred.o_eq,DPred.c_eq,DQuery.o_eq,DQuery.c_eq,DResult.o_eq,DResult.c_eq,DVal.c_eq,BR,BF,DD,AX]
  ·exact ANt
  ·rw[BV,hset]; rfl
 ·have hk':k=xs.length:=by simp at h; omega
  subst hk'
  rw[G5]
  simp only[go_sem]
  try simp[DU]
theorem qw (xs:List DDeed) (hf:fitS GK xs):Ctr prog 38 [.c (.sl (xs.map DDeed.c))] [.own 152 25 (xs.map DDeed.o) true]:=xI xs hf.1 fun x hx=>ABB x (hf.2 x hx)
theorem ABC (d:DConf) (hf:PO d):Ctr prog 32 [.agg d.c] [.agg d.o]:=by
 rw[KJ] at hf
 have f0:=hf
 refine CM call32 func32 ntmps32 results32 fun _=>?_
 simp only[go_sem]
 refine CW (PT d.cols f0) fun _=>?_
 simp only[go_sem]
 try simp[OwnL,Cf,AB,BJ,DConf.o_eq]
theorem ZZ (d:DWorld) (hf:Aa d):Ctr prog 9 [.agg d.c] [.agg d.o]:=by
 rw[Ar] at hf
 obtain⟨f0,f1,f2,f3,f4,f5,f6,f7⟩:=hf
 refine CM call9 func9 ntmps9 results9 fun _=>?_
 simp only[go_sem]
 refine CW (ABC d.c0 f0) fun _=>?_
 simp only[go_sem]
 refine CW (ACo d.d f1) fun _=>?_
 simp only[go_sem]
 refine CW (xG d.b f2) fun _=>?_
 simp only[go_sem]
 refine CW (PT d.m f3) fun _=>?_
 simp only[go_sem]
 refine CW (qY d.x f4 fun x hx=>qX x) fun _=>?_
 simp only[go_sem]
 refine CW (PT d.p f5) fun _=>?_
 simp only[go_sem]
 refine CW (qp d.tasks f6) fun _=>?_
 simp only[go_sem]
 refine CW (qw d.deeds f7) fun _=>?_
 simp only[go_sem]
 try simp[OwnL,Cf,AB,BJ,DWorld.o_eq]
theorem Hy (d:DWorld) (hf:Aa d):Ctr prog 9 [.agg d.c] [.val (.agg d.c)]:=(ZZ d hf).aggVal d.o_er
end Go.Proofs.YtnoldekcdlaahaaGreat
