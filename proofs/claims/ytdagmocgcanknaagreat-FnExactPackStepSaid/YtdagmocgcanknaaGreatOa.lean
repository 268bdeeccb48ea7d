/- A part. -/
import Derived.Test.YtdagmocgcanknaaGreatFa
set_option linter.unusedSimpArgs false
set_option linter.unusedVariables false
set_option maxHeartbeats 1000000
set_option maxRecDepth 10000
open Go.Proofs.Tryz
namespace Go.Proofs.YtdagmocgcanknaaGreat
open Go.Vm
@[go_sem] theorem AQ (l:List Int):DR (l.map intC)=true:=Fe (AY intC.pure)
theorem Ad (l:List Int):Qq (l.map intC)=l.map intC:=I_ (AY intC.pure)
@[go_sem] theorem CQ (l:List Int):DR (l.map byteC)=true:=Fe (AY byteC.pure)
theorem AAH (l:List Int):Qq (l.map byteC)=l.map byteC:=I_ (AY byteC.pure)
@[go_sem] theorem Ce (l:List DVal):DR (l.map DVal.c)=true:=Fe (AY DVal.pure)
theorem XR (l:List DVal):Qq (l.map DVal.c)=l.map DVal.c:=I_ (AY DVal.pure)
theorem AAI (d:DVal):Kq d.c=d.c:=Ry (DVal.pure d)
def DRow.o (d:DRow):List Cl:=[.v (.int .i64 d.id)]++([.ow 112 3 (d.l.map DVal.c)])
@[go_sem] theorem DRow.o_eq (d:DRow):d.o = [.v (.int .i64 d.id)]++([.ow 112 3 (d.l.map DVal.c)]):=rfl
theorem DRow.o_nr (d:DRow):d.o.all Ij=true:=by rw[DRow.o_eq];simp[jr,Ij]
@[go_sem] theorem Aj (l:List DRow):DR (l.map DRow.o)=true:=TT DRow.o_nr
theorem DRow.o_er (d:DRow):Kq d.o=d.c:=by rw[DRow.o_eq,DRow.c_eq];simp[JF,Kq,er,XR]
theorem D8 (l:List DRow):Qq (l.map DRow.o)=l.map DRow.c:=Pe DRow.o_er l
mutual
def DPred.o:DPred->List Cl
 | .mk kind col op v l=>[.v (.int .i64 kind)]++([.v (.int .i64 col)]++([.v (.int .i64 op)]++(v.c++([.ow 115 7 (DPred.oL l)]))))
def DPred.oL:List DPred->List (List Cl)
 | []=>[]
 | x::xs=>DPred.o x::DPred.oL xs
end
theorem DPred.oL_eq:∀ l:List DPred,DPred.oL l=l.map DPred.o
 | []=>rfl
 | x::xs=>by simp[DPred.oL,DPred.oL_eq xs]
@[go_sem] theorem DPred.o_eq (d:DPred):d.o = [.v (.int .i64 d.kind)]++([.v (.int .i64 d.col)]++([.v (.int .i64 d.op)]++(d.v.c++([.ow 115 7 (d.l.map DPred.o)])))):=by cases d;simp only[DPred.o,DPred.oL_eq];rfl
theorem DPred.o_nr (d:DPred):d.o.all Ij=true:=by rw[DPred.o_eq];simp[jr,Ij,DVal.c_eq]
@[go_sem] theorem BZ (l:List DPred):DR (l.map DPred.o)=true:=TT DPred.o_nr
theorem DPred.o_er_fuel:∀ (n:Nat) (d:DPred),SizeOf.sizeOf d<=n->Kq d.o=d.c
 | 0,d,h=>AP6
 | n+1,d,h=>by
  have hm:Qq (d.l.map DPred.o)=d.l.map DPred.c:=by rw[oJ];refine aaP fun x hx=>DPred.o_er_fuel n x ?_;exact AMf
  rw[DPred.o_eq,DPred.c_eq];simp[JF,Kq,er,hm,AAI]
theorem DPred.o_er (d:DPred):Kq d.o=d.c:=DPred.o_er_fuel _ d (aG _)
theorem tJ (l:List DPred):Qq (l.map DPred.o)=l.map DPred.c:=Pe DPred.o_er l
def DQuery.o (d:DQuery):List Cl:=[.v (.int .i64 d.kind)]++(d.p.o++([.v (.int .i64 d.col)]++([.ow 3 1 (d.out.map intC)])))
@[go_sem] theorem DQuery.o_eq (d:DQuery):d.o = [.v (.int .i64 d.kind)]++(d.p.o++([.v (.int .i64 d.col)]++([.ow 3 1 (d.out.map intC)]))):=rfl
theorem DQuery.o_nr (d:DQuery):d.o.all Ij=true:=by rw[DQuery.o_eq];simp[jr,Ij,DPred.o_nr]
theorem DQuery.o_er (d:DQuery):Kq d.o=d.c:=by rw[DQuery.o_eq,DQuery.c_eq];simp[JF,Kq,er,DPred.o_er,Ad]
def DResult.o (d:DResult):List Cl:=[.ow 194 2 (d.rows.map DRow.o)]++([.v (.int .i64 d.n)]++([.v (.bool d.has)]++(d.v.c)))
@[go_sem] theorem DResult.o_eq (d:DResult):d.o = [.ow 194 2 (d.rows.map DRow.o)]++([.v (.int .i64 d.n)]++([.v (.bool d.has)]++(d.v.c))):=rfl
theorem DResult.o_nr (d:DResult):d.o.all Ij=true:=by rw[DResult.o_eq];simp[jr,Ij,DVal.c_eq]
theorem DResult.o_er (d:DResult):Kq d.o=d.c:=by rw[DResult.o_eq,DResult.c_eq];simp[JF,Kq,er,D8,AAI]
def DSlot.o (d:DSlot):List Cl:=[.v (.int .i64 d.ins)]++([.ow 112 3 (d.l.map DVal.c)])
@[go_sem] theorem DSlot.o_eq (d:DSlot):d.o = [.v (.int .i64 d.ins)]++([.ow 112 3 (d.l.map DVal.c)]):=rfl
theorem DSlot.o_nr (d:DSlot):d.o.all Ij=true:=by rw[DSlot.o_eq];simp[jr,Ij]
@[go_sem] theorem Gq (l:List DSlot):DR (l.map DSlot.o)=true:=TT DSlot.o_nr
theorem DSlot.o_er (d:DSlot):Kq d.o=d.c:=by rw[DSlot.o_eq,DSlot.c_eq];simp[JF,Kq,er,XR]
theorem VZ (l:List DSlot):Qq (l.map DSlot.o)=l.map DSlot.c:=Pe DSlot.o_er l
def DChunk.o (d:DChunk):List Cl:=[.v (.int .i64 d.next)]++([.ow 189 2 (d.l.map DSlot.o)])
@[go_sem] theorem DChunk.o_eq (d:DChunk):d.o = [.v (.int .i64 d.next)]++([.ow 189 2 (d.l.map DSlot.o)]):=rfl
theorem DChunk.o_nr (d:DChunk):d.o.all Ij=true:=by rw[DChunk.o_eq];simp[jr,Ij]
theorem DChunk.o_er (d:DChunk):Kq d.o=d.c:=by rw[DChunk.o_eq,DChunk.c_eq];simp[JF,Kq,er,VZ]
def DBuf.o (d:DBuf):List Cl:=[.v (.int .i64 d.gen)]++([.v (.int .i64 d.kind)]++(d.c0.o++([.ow 5 1 (d.g.map byteC)])))
@[go_sem] theorem DBuf.o_eq (d:DBuf):d.o = [.v (.int .i64 d.gen)]++([.v (.int .i64 d.kind)]++(d.c0.o++([.ow 5 1 (d.g.map byteC)]))):=rfl
theorem DBuf.o_nr (d:DBuf):d.o.all Ij=true:=by rw[DBuf.o_eq];simp[jr,Ij,DChunk.o_nr]
@[go_sem] theorem A7 (l:List DBuf):DR (l.map DBuf.o)=true:=TT DBuf.o_nr
theorem DBuf.o_er (d:DBuf):Kq d.o=d.c:=by rw[DBuf.o_eq,DBuf.c_eq];simp[JF,Kq,er,DChunk.o_er,AAH]
theorem Ar (l:List DBuf):Qq (l.map DBuf.o)=l.map DBuf.c:=Pe DBuf.o_er l
@[go_sem] theorem Ci (l:List DDead):DR (l.map DDead.c)=true:=Fe (AY DDead.pure)
theorem Bi (l:List DDead):Qq (l.map DDead.c)=l.map DDead.c:=I_ (AY DDead.pure)
@[go_sem] theorem BC (l:List DRef):DR (l.map DRef.c)=true:=Fe (AY DRef.pure)
theorem BV (l:List DRef):Qq (l.map DRef.c)=l.map DRef.c:=I_ (AY DRef.pure)
def DDir.o (d:DDir):List Cl:=[.v (.int .i64 d.ver)]++([.ow 139 5 (d.l.map DRef.c)])
@[go_sem] theorem DDir.o_eq (d:DDir):d.o = [.v (.int .i64 d.ver)]++([.ow 139 5 (d.l.map DRef.c)]):=rfl
theorem DDir.o_nr (d:DDir):d.o.all Ij=true:=by rw[DDir.o_eq];simp[jr,Ij]
theorem DDir.o_er (d:DDir):Kq d.o=d.c:=by rw[DDir.o_eq,DDir.c_eq];simp[JF,Kq,er,BV]
def DTask.o (d:DTask):List Cl:=[.v (.int .i64 d.op)]++([.v (.int .i64 d.pc)]++([.v (.int .i64 d.h)]++([.ow 112 3 (d.r.map DVal.c)]++([.v (.int .i64 d.id)]++(d.q.o++([.v (.int .i64 d.ts)]++([.v (.int .i64 d.ver)]++([.ow 139 5 (d.l.map DRef.c)]++([.v (.int .i64 d.i)]++([.v (.int .i64 d.j)]++([.v (.int .i64 d.s)]++([.v (.int .i64 d.at0)]++([.v (.int .i64 d.own)]++([.v (.bool d.won)]++([.ow 194 2 (d.got.map DRow.o)])))))))))))))))
@[go_sem] theorem DTask.o_eq (d:DTask):d.o = [.v (.int .i64 d.op)]++([.v (.int .i64 d.pc)]++([.v (.int .i64 d.h)]++([.ow 112 3 (d.r.map DVal.c)]++([.v (.int .i64 d.id)]++(d.q.o++([.v (.int .i64 d.ts)]++([.v (.int .i64 d.ver)]++([.ow 139 5 (d.l.map DRef.c)]++([.v (.int .i64 d.i)]++([.v (.int .i64 d.j)]++([.v (.int .i64 d.s)]++([.v (.int .i64 d.at0)]++([.v (.int .i64 d.own)]++([.v (.bool d.won)]++([.ow 194 2 (d.got.map DRow.o)]))))))))))))))):=rfl
theorem DTask.o_nr (d:DTask):d.o.all Ij=true:=by rw[DTask.o_eq];simp[jr,Ij,DQuery.o_nr]
@[go_sem] theorem Ho (l:List DTask):DR (l.map DTask.o)=true:=TT DTask.o_nr
theorem DTask.o_er (d:DTask):Kq d.o=d.c:=by rw[DTask.o_eq,DTask.c_eq];simp[JF,Kq,er,DQuery.o_er,D8,BV,XR]
theorem F5 (l:List DTask):Qq (l.map DTask.o)=l.map DTask.c:=Pe DTask.o_er l
def DDeed.o (d:DDeed):List Cl:=[.v (.int .i64 d.op)]++([.v (.int .i64 d.task)]++([.ow 112 3 (d.r.map DVal.c)]++([.v (.int .i64 d.id)]++(d.q.o++(d.res.o++([.v (.int .i64 d.code)]++([.v (.int .i64 d.stamp)]++([.v (.int .i64 d.inv)]++([.v (.int .i64 d.lin)]++([.v (.int .i64 d.ret)]))))))))))
@[go_sem] theorem DDeed.o_eq (d:DDeed):d.o = [.v (.int .i64 d.op)]++([.v (.int .i64 d.task)]++([.ow 112 3 (d.r.map DVal.c)]++([.v (.int .i64 d.id)]++(d.q.o++(d.res.o++([.v (.int .i64 d.code)]++([.v (.int .i64 d.stamp)]++([.v (.int .i64 d.inv)]++([.v (.int .i64 d.lin)]++([.v (.int .i64 d.ret)])))))))))):=rfl
theorem DDeed.o_nr (d:DDeed):d.o.all Ij=true:=by rw[DDeed.o_eq];simp[jr,Ij,DQuery.o_nr,DResult.o_nr]
@[go_sem] theorem Cb (l:List DDeed):DR (l.map DDeed.o)=true:=TT DDeed.o_nr
theorem DDeed.o_er (d:DDeed):Kq d.o=d.c:=by rw[DDeed.o_eq,DDeed.c_eq];simp[JF,Kq,er,DQuery.o_er,DResult.o_er,XR]
theorem BH (l:List DDeed):Qq (l.map DDeed.o)=l.map DDeed.c:=Pe DDeed.o_er l
def DConf.o (d:DConf):List Cl:=[.ow 3 1 (d.cols.map intC)]++([.v (.int .i64 d.slots)]++([.v (.int .i64 d.bufs)]))
@[go_sem] theorem DConf.o_eq (d:DConf):d.o = [.ow 3 1 (d.cols.map intC)]++([.v (.int .i64 d.slots)]++([.v (.int .i64 d.bufs)])):=rfl
theorem DConf.o_nr (d:DConf):d.o.all Ij=true:=by rw[DConf.o_eq];simp[jr,Ij]
theorem DConf.o_er (d:DConf):Kq d.o=d.c:=by rw[DConf.o_eq,DConf.c_eq];simp[JF,Kq,er,Ad]
def DWorld.o (d:DWorld):List Cl:=d.c0.o++([.v (.int .i64 d.time)]++([.v (.int .i64 d.t)]++([.v (.int .i64 d.e)]++(d.d.o++([.ow 145 5 (d.b.map DBuf.o)]++([.ow 3 1 (d.m.map intC)]++([.ow 152 3 (d.x.map DDead.c)]++([.ow 3 1 (d.p.map intC)]++([.ow 120 25 (d.tasks.map DTask.o)]++([.ow 135 25 (d.deeds.map DDeed.o)]))))))))))
@[go_sem] theorem DWorld.o_eq (d:DWorld):d.o=d.c0.o++([.v (.int .i64 d.time)]++([.v (.int .i64 d.t)]++([.v (.int .i64 d.e)]++(d.d.o++([.ow 145 5 (d.b.map DBuf.o)]++([.ow 3 1 (d.m.map intC)]++([.ow 152 3 (d.x.map DDead.c)]++([.ow 3 1 (d.p.map intC)]++([.ow 120 25 (d.tasks.map DTask.o)]++([.ow 135 25 (d.deeds.map DDeed.o)])))))))))):=rfl
theorem DWorld.o_nr (d:DWorld):d.o.all Ij=true:=by rw[DWorld.o_eq];simp[jr,Ij,DConf.o_nr,DDir.o_nr]
theorem DWorld.o_er (d:DWorld):Kq d.o=d.c:=by rw[DWorld.o_eq,DWorld.c_eq];simp[JF,Kq,er,DConf.o_er,DDir.o_er,Ar,BH,F5,Bi,Ad]
theorem ADF (d:DRow) (hf:Dn d):Ctr prog 247 [.agg d.c] [.agg d.o]:=by rw[JB] at hf;have f0:=hf;refine CM call247 func247 ntmps247 results247 fun _=>?_;simp only[go_sem];refine CW (QF d.l f0.1 fun x hx=>LJ x (f0.2 x hx)) fun _=>?_;simp only[go_sem];try simp[OwnL,DF,AB,DR,DRow.o_eq]
theorem ABW (xs:List DRow) (hf:xs.length<=1048576) (hx:∀ x∈xs,Ctr prog 247 [.agg x.c] [.agg x.o]):Ctr prog 175 [.c (.sl (xs.map DRow.c))] [.own 194 2 (xs.map DRow.o) true]:=by
 refine CM call175 func175 ntmps175 results175 fun _=>?_;have hc:(0:Int)<=xs.length/\(xs.length:Int)<=xs.length/\(xs.length:Int)<=2147483648:=AOl;simp only[go_sem,aa,hc,aaa];have hg:=fun k=>@Jy _ DRow.o DRow.o_nr [.v (.int .i64 0),.v (.slice none 0 0)] rfl xs k 194 2 true true;refine ACd 1 0 [0,3,4] (A:=Nat) (fun k=>⟨23,[(0,.c (.sl (xs.map DRow.c))),(3,.c (.ref 0)),(4,.c (.v (.int .i64 k)))],[⟨194,2,grow (xs.map DRow.o) [.v (.int .i64 0),.v (.slice none 0 0)] k,true,true⟩]⟩) (fun k=>k<=xs.length) (fun k=>xs.length-k) 0 ⟨⟨rfl,AOt⟩,APE,aq _⟩ ?_;intro k hk;refine AOe (fun h=>?_) fun h=>?_
 .have hk':k<xs.length:=by simpa using h
  have hset:=@Ht _ DRow.o xs [.v (.int .i64 0),.v (.slice none 0 0)] k hk';simp only[go_sem,AA _ hk',Bq hk,EP hk',hk',wrap_i64 (n:=(k:Int)+1) AOl AOl];refine CW (hx xs[k] (an hk')) fun _=>?_;simp only[go_sem,AA _ hk',Bq hk,EP hk',hk',wrap_i64 (n:=(k:Int)+1) AOl AOl];refine⟨k+1,.inr ⟨k,grow (xs.map DRow.o) [.v (.int .i64 0),.v (.slice none 0 0)] k,_,DRow.o xs[k],_,⟨aaR,rfl,rfl,APs,rfl⟩, ?_,⟨rfl, ?_⟩, ?_⟩,AOl,APJ⟩
  .simp[DRow.o_eq,OwnL,DF,AB,Ce]
  .exact AN6
  .rw[BJ,hset]; rfl
 .have hk':k=xs.length:=by simp at h; omega
  subst hk';rw[Hu];simp only[go_sem];try simp[Aj]
theorem cu (xs:List DRow) (hf:fitS Dn xs):Ctr prog 175 [.c (.sl (xs.map DRow.c))] [.own 194 2 (xs.map DRow.o) true]:=ABW xs hf.1 fun x hx=>ADF x (hf.2 x hx)
theorem xw (xs:List DPred) (hf:xs.length<=1048576) (hx:∀ x∈xs,Ctr prog 246 [.agg x.c] [.agg x.o]):Ctr prog 289 [.c (.sl (xs.map DPred.c))] [.own 115 7 (xs.map DPred.o) true]:=by
 refine CM call289 func289 ntmps289 results289 fun _=>?_;have hc:(0:Int)<=xs.length/\(xs.length:Int)<=xs.length/\(xs.length:Int)<=2147483648:=AOl;simp only[go_sem,aa,hc,aaa];have hg:=fun k=>@Jy _ DPred.o DPred.o_nr [.v (.int .i64 0),.v (.int .i64 0),.v (.int .i64 0),.v (.int .i64 0),.v (.int .i64 0),.v (.string ByteArray.empty),.v (.slice none 0 0)] rfl xs k 115 7 true true;refine ACd 1 0 [0,3,4] (A:=Nat) (fun k=>⟨23,[(0,.c (.sl (xs.map DPred.c))),(3,.c (.ref 0)),(4,.c (.v (.int .i64 k)))],[⟨115,7,grow (xs.map DPred.o) [.v (.int .i64 0),.v (.int .i64 0),.v (.int .i64 0),.v (.int .i64 0),.v (.int .i64 0),.v (.string ByteArray.empty),.v (.slice none 0 0)] k,true,true⟩]⟩) (fun k=>k<=xs.length) (fun k=>xs.length-k) 0 ⟨⟨rfl,AOt⟩,APE,aq _⟩ ?_;intro k hk;refine AOe (fun h=>?_) fun h=>?_
 .have hk':k<xs.length:=by simpa using h
  have hset:=@Ht _ DPred.o xs [.v (.int .i64 0),.v (.int .i64 0),.v (.int .i64 0),.v (.int .i64 0),.v (.int .i64 0),.v (.string ByteArray.empty),.v (.slice none 0 0)] k hk';simp only[go_sem,AA _ hk',Bq hk,EP hk',hk',wrap_i64 (n:=(k:Int)+1) AOl AOl];refine CW (hx xs[k] (an hk')) fun _=>?_;simp only[go_sem,AA _ hk',Bq hk,EP hk',hk',wrap_i64 (n:=(k:Int)+1) AOl AOl];refine⟨k+1,.inr ⟨k,grow (xs.map DPred.o) [.v (.int .i64 0),.v (.int .i64 0),.v (.int .i64 0),.v (.int .i64 0),.v (.int .i64 0),.v (.string ByteArray.empty),.v (.slice none 0 0)] k,_,DPred.o xs[k],_,⟨aaR,rfl,rfl,APs,rfl⟩, ?_,⟨rfl, ?_⟩, ?_⟩,AOl,APJ⟩
  .simp[DPred.o_eq,OwnL,DF,AB,DVal.c_eq,BZ]
  .exact AN6
  .rw[BJ,hset]; rfl
 .have hk':k=xs.length:=by simp at h; omega
  subst hk';rw[Hu];simp only[go_sem];try simp[BZ]
theorem nU (d:DPred) (hf:BF d) (hx:∀ x∈d.l,Ctr prog 246 [.agg x.c] [.agg x.o]):Ctr prog 246 [.agg d.c] [.agg d.o]:=by rw[Bc] at hf;obtain⟨f0,f1⟩:=hf;refine CM call246 func246 ntmps246 results246 fun _=>?_;simp only[go_sem];refine CW (LJ d.v f0) fun _=>?_;simp only[go_sem];refine CW (xw d.l f1.1 hx) fun _=>?_;simp only[go_sem];try simp[OwnL,DF,AB,DR,DPred.o_eq]
theorem RX:∀ (n:Nat) (d:DPred),SizeOf.sizeOf d<=n->BF d->Ctr prog 246 [.agg d.c] [.agg d.o]
 | 0,d,h,_=>AP6
 | n+1,d,h,hf=>nU d hf fun x hx=>RX n x (by
  have h1:SizeOf.sizeOf x<SizeOf.sizeOf d.l:=aar hx;have h2:SizeOf.sizeOf d.l<SizeOf.sizeOf d:=APy;omega) (by rw[Bc] at hf; exact(hf.2).2 x hx)
theorem ABX (d:DPred) (hf:BF d):Ctr prog 246 [.agg d.c] [.agg d.o]:=RX _ d (aG _) hf
theorem dA (d:DQuery) (hf:En d):Ctr prog 174 [.agg d.c] [.agg d.o]:=by rw[GY] at hf;obtain⟨f0,f1⟩:=hf;refine CM call174 func174 ntmps174 results174 fun _=>?_;simp only[go_sem];refine CW (ABX d.p f0) fun _=>?_;simp only[go_sem];refine CW (QE d.out f1) fun _=>?_;simp only[go_sem];try simp[OwnL,DF,AB,DR,DQuery.o_eq]
theorem tK (d:DResult) (hf:Kw d):Ctr prog 176 [.agg d.c] [.agg d.o]:=by rw[NE] at hf;obtain⟨f0,f1⟩:=hf;refine CM call176 func176 ntmps176 results176 fun _=>?_;simp only[go_sem];refine CW (cu d.rows f0) fun _=>?_;simp only[go_sem];refine CW (LJ d.v f1) fun _=>?_;simp only[go_sem];try simp[OwnL,DF,AB,DR,DResult.o_eq]
theorem ABY (d:DSlot) (hf:OQ d):Ctr prog 288 [.agg d.c] [.agg d.o]:=by rw[Jk] at hf;have f0:=hf;refine CM call288 func288 ntmps288 results288 fun _=>?_;simp only[go_sem];refine CW (QF d.l f0.1 fun x hx=>LJ x (f0.2 x hx)) fun _=>?_;simp only[go_sem];try simp[OwnL,DF,AB,DR,DSlot.o_eq]
theorem xx (xs:List DSlot) (hf:xs.length<=1048576) (hx:∀ x∈xs,Ctr prog 288 [.agg x.c] [.agg x.o]):Ctr prog 244 [.c (.sl (xs.map DSlot.c))] [.own 189 2 (xs.map DSlot.o) true]:=by
 refine CM call244 func244 ntmps244 results244 fun _=>?_;have hc:(0:Int)<=xs.length/\(xs.length:Int)<=xs.length/\(xs.length:Int)<=2147483648:=AOl;simp only[go_sem,aa,hc,aaa];have hg:=fun k=>@Jy _ DSlot.o DSlot.o_nr [.v (.int .i64 0),.v (.slice none 0 0)] rfl xs k 189 2 true true;refine ACd 1 0 [0,3,4] (A:=Nat) (fun k=>⟨23,[(0,.c (.sl (xs.map DSlot.c))),(3,.c (.ref 0)),(4,.c (.v (.int .i64 k)))],[⟨189,2,grow (xs.map DSlot.o) [.v (.int .i64 0),.v (.slice none 0 0)] k,true,true⟩]⟩) (fun k=>k<=xs.length) (fun k=>xs.length-k) 0 ⟨⟨rfl,AOt⟩,APE,aq _⟩ ?_;intro k hk;refine AOe (fun h=>?_) fun h=>?_
 .have hk':k<xs.length:=by simpa using h
  have hset:=@Ht _ DSlot.o xs [.v (.int .i64 0),.v (.slice none 0 0)] k hk';simp only[go_sem,AA _ hk',Bq hk,EP hk',hk',wrap_i64 (n:=(k:Int)+1) AOl AOl];refine CW (hx xs[k] (an hk')) fun _=>?_;simp only[go_sem,AA _ hk',Bq hk,EP hk',hk',wrap_i64 (n:=(k:Int)+1) AOl AOl];refine⟨k+1,.inr ⟨k,grow (xs.map DSlot.o) [.v (.int .i64 0),.v (.slice none 0 0)] k,_,DSlot.o xs[k],_,⟨aaR,rfl,rfl,APs,rfl⟩, ?_,⟨rfl, ?_⟩, ?_⟩,AOl,APJ⟩
  .simp[DSlot.o_eq,OwnL,DF,AB,Ce]
  .exact AN6
  .rw[BJ,hset]; rfl
 .have hk':k=xs.length:=by simp at h; omega
  subst hk';rw[Hu];simp only[go_sem];try simp[Gq]
theorem tN (xs:List DSlot) (hf:fitS OQ xs):Ctr prog 244 [.c (.sl (xs.map DSlot.c))] [.own 189 2 (xs.map DSlot.o) true]:=xx xs hf.1 fun x hx=>ABY x (hf.2 x hx)
theorem xy (d:DChunk) (hf:FD d):Ctr prog 171 [.agg d.c] [.agg d.o]:=by rw[CO] at hf;have f0:=hf;refine CM call171 func171 ntmps171 results171 fun _=>?_;simp only[go_sem];refine CW (tN d.l f0) fun _=>?_;simp only[go_sem];try simp[OwnL,DF,AB,DR,DChunk.o_eq]
theorem ADG (d:DBuf) (hf:Ef d):Ctr prog 82 [.agg d.c] [.agg d.o]:=by rw[GR] at hf;obtain⟨f0,f1⟩:=hf;refine CM call82 func82 ntmps82 results82 fun _=>?_;simp only[go_sem];refine CW (xy d.c0 f0) fun _=>?_;simp only[go_sem];refine CW (rM d.g f1) fun _=>?_;simp only[go_sem];try simp[OwnL,DF,AB,DR,DBuf.o_eq]
theorem ABZ (xs:List DBuf) (hf:xs.length<=1048576) (hx:∀ x∈xs,Ctr prog 82 [.agg x.c] [.agg x.o]):Ctr prog 25 [.c (.sl (xs.map DBuf.c))] [.own 145 5 (xs.map DBuf.o) true]:=by
 refine CM call25 func25 ntmps25 results25 fun _=>?_;have hc:(0:Int)<=xs.length/\(xs.length:Int)<=xs.length/\(xs.length:Int)<=2147483648:=AOl;simp only[go_sem,aa,hc,aaa];have hg:=fun k=>@Jy _ DBuf.o DBuf.o_nr [.v (.int .i64 0),.v (.int .i64 0),.v (.int .i64 0),.v (.slice none 0 0),.v (.slice none 0 0)] rfl xs k 145 5 true true;refine ACd 1 0 [0,3,4] (A:=Nat) (fun k=>⟨23,[(0,.c (.sl (xs.map DBuf.c))),(3,.c (.ref 0)),(4,.c (.v (.int .i64 k)))],[⟨145,5,grow (xs.map DBuf.o) [.v (.int .i64 0),.v (.int .i64 0),.v (.int .i64 0),.v (.slice none 0 0),.v (.slice none 0 0)] k,true,true⟩]⟩) (fun k=>k<=xs.length) (fun k=>xs.length-k) 0 ⟨⟨rfl,AOt⟩,APE,aq _⟩ ?_;intro k hk;refine AOe (fun h=>?_) fun h=>?_
 .have hk':k<xs.length:=by simpa using h
  have hset:=@Ht _ DBuf.o xs [.v (.int .i64 0),.v (.int .i64 0),.v (.int .i64 0),.v (.slice none 0 0),.v (.slice none 0 0)] k hk';simp only[go_sem,AA _ hk',Bq hk,EP hk',hk',wrap_i64 (n:=(k:Int)+1) AOl AOl];refine CW (hx xs[k] (an hk')) fun _=>?_;simp only[go_sem,AA _ hk',Bq hk,EP hk',hk',wrap_i64 (n:=(k:Int)+1) AOl AOl];refine⟨k+1,.inr ⟨k,grow (xs.map DBuf.o) [.v (.int .i64 0),.v (.int .i64 0),.v (.int .i64 0),.v (.slice none 0 0),.v (.slice none 0 0)] k,_,DBuf.o xs[k],_,⟨aaR,rfl,rfl,APs,rfl⟩, ?_,⟨rfl, ?_⟩, ?_⟩,AOl,APJ⟩
  .simp[DBuf.o_eq,OwnL,DF,AB,DChunk.o_eq,DChunk.c_eq,Gq,CQ]
  .exact AN6
  .rw[BJ,hset]; rfl
 .have hk':k=xs.length:=by simp at h; omega
  subst hk';rw[Hu];simp only[go_sem];try simp[A7]
theorem x_ (xs:List DBuf) (hf:fitS Ef xs):Ctr prog 25 [.c (.sl (xs.map DBuf.c))] [.own 145 5 (xs.map DBuf.o) true]:=ABZ xs hf.1 fun x hx=>ADG x (hf.2 x hx)
theorem ADH (d:DDir) (hf:UX d):Ctr prog 24 [.agg d.c] [.agg d.o]:=by rw[GU] at hf;have f0:=hf;refine CM call24 func24 ntmps24 results24 fun _=>?_;simp only[go_sem];refine CW (bH d.l f0 fun x hx=>bG x) fun _=>?_;simp only[go_sem];try simp[OwnL,DF,AB,DR,DDir.o_eq]
theorem ABa (d:DTask) (hf:Ei d):Ctr prog 84 [.agg d.c] [.agg d.o]:=by rw[Dy] at hf;obtain⟨f0,f1,f2,f3⟩:=hf;refine CM call84 func84 ntmps84 results84 fun _=>?_;simp only[go_sem];refine CW (QF d.r f0.1 fun x hx=>LJ x (f0.2 x hx)) fun _=>?_;simp only[go_sem];refine CW (dA d.q f1) fun _=>?_;simp only[go_sem];refine CW (bH d.l f2 fun x hx=>bG x) fun _=>?_;simp only[go_sem];refine CW (cu d.got f3) fun _=>?_;simp only[go_sem];try simp[OwnL,DF,AB,DR,DTask.o_eq]
def XT:List Cl:=[.v (.int .i64 0),.v (.int .i64 0),.v (.int .i64 0),.v (.slice none 0 0),.v (.int .i64 0),.v (.int .i64 0),.v (.int .i64 0),.v (.int .i64 0),.v (.int .i64 0),.v (.int .i64 0),.v (.int .i64 0),.v (.string ByteArray.empty),.v (.slice none 0 0),.v (.int .i64 0),.v (.slice none 0 0),.v (.int .i64 0),.v (.int .i64 0),.v (.slice none 0 0),.v (.int .i64 0),.v (.int .i64 0),.v (.int .i64 0),.v (.int .i64 0),.v (.int .i64 0),.v (.bool false),.v (.slice none 0 0)]
theorem yA (xs:List DTask) (hf:xs.length<=1048576) (hx:∀ x∈xs,Ctr prog 84 [.agg x.c] [.agg x.o]):Ctr prog 28 [.c (.sl (xs.map DTask.c))] [.own 120 25 (xs.map DTask.o) true]:=by
 refine CM call28 func28 ntmps28 results28 fun _=>?_;have hc:(0:Int)<=xs.length/\(xs.length:Int)<=xs.length/\(xs.length:Int)<=2147483648:=AOl;simp only[go_sem,aa,hc,aaa];have hg:=fun k=>@Jy _ DTask.o DTask.o_nr XT rfl xs k 120 25 true true;refine ACd 1 0 [0,3,4] (A:=Nat) (fun k=>⟨23,[(0,.c (.sl (xs.map DTask.c))),(3,.c (.ref 0)),(4,.c (.v (.int .i64 k)))],[⟨120,25,grow (xs.map DTask.o) XT k,true,true⟩]⟩) (fun k=>k<=xs.length) (fun k=>xs.length-k) 0 ⟨⟨rfl,AOt⟩,APE,aq _⟩ ?_;intro k hk;refine AOe (fun h=>?_) fun h=>?_
 .have hk':k<xs.length:=by simpa using h
  have hset:=@Ht _ DTask.o xs XT k hk';simp only[go_sem,AA _ hk',Bq hk,EP hk',hk',wrap_i64 (n:=(k:Int)+1) AOl AOl,XT];refine CW (hx xs[k] (an hk')) fun _=>?_;simp only[go_sem,AA _ hk',Bq hk,EP hk',hk',wrap_i64 (n:=(k:Int)+1) AOl AOl,XT];refine⟨k+1,.inr ⟨k,grow (xs.map DTask.o) XT k,_,DTask.o xs[k],_,⟨aaR,rfl,rfl,APs,rfl⟩, ?_,⟨rfl, ?_⟩, ?_⟩,AOl,APJ⟩
  .simp[DTask.o_eq,OwnL,DF,AB,DPred.o_eq,DPred.c_eq,DQuery.o_eq,DQuery.c_eq,DVal.c_eq,BZ,BC,Aj,Ce,AQ]
  .exact AN6
  .rw[BJ,hset]; rfl
 .have hk':k=xs.length:=by simp at h; omega
  subst hk';rw[Hu];simp only[go_sem];try simp[Ho]
theorem tV (xs:List DTask) (hf:fitS Ei xs):Ctr prog 28 [.c (.sl (xs.map DTask.c))] [.own 120 25 (xs.map DTask.o) true]:=yA xs hf.1 fun x hx=>ABa x (hf.2 x hx)
theorem ABb (d:DDeed) (hf:Ej d):Ctr prog 85 [.agg d.c] [.agg d.o]:=by rw[G8] at hf;obtain⟨f0,f1,f2⟩:=hf;refine CM call85 func85 ntmps85 results85 fun _=>?_;simp only[go_sem];refine CW (QF d.r f0.1 fun x hx=>LJ x (f0.2 x hx)) fun _=>?_;simp only[go_sem];refine CW (dA d.q f1) fun _=>?_;simp only[go_sem];refine CW (tK d.res f2) fun _=>?_;simp only[go_sem];try simp[OwnL,DF,AB,DR,DDeed.o_eq]
def XU:List Cl:=[.v (.int .i64 0),.v (.int .i64 0),.v (.slice none 0 0),.v (.int .i64 0),.v (.int .i64 0),.v (.int .i64 0),.v (.int .i64 0),.v (.int .i64 0),.v (.int .i64 0),.v (.int .i64 0),.v (.string ByteArray.empty),.v (.slice none 0 0),.v (.int .i64 0),.v (.slice none 0 0),.v (.slice none 0 0),.v (.int .i64 0),.v (.bool false),.v (.int .i64 0),.v (.int .i64 0),.v (.string ByteArray.empty),.v (.int .i64 0),.v (.int .i64 0),.v (.int .i64 0),.v (.int .i64 0),.v (.int .i64 0)]
theorem yB (xs:List DDeed) (hf:xs.length<=1048576) (hx:∀ x∈xs,Ctr prog 85 [.agg x.c] [.agg x.o]):Ctr prog 29 [.c (.sl (xs.map DDeed.c))] [.own 135 25 (xs.map DDeed.o) true]:=by
 refine CM call29 func29 ntmps29 results29 fun _=>?_;have hc:(0:Int)<=xs.length/\(xs.length:Int)<=xs.length/\(xs.length:Int)<=2147483648:=AOl;simp only[go_sem,aa,hc,aaa];have hg:=fun k=>@Jy _ DDeed.o DDeed.o_nr XU rfl xs k 135 25 true true;refine ACd 1 0 [0,3,4] (A:=Nat) (fun k=>⟨23,[(0,.c (.sl (xs.map DDeed.c))),(3,.c (.ref 0)),(4,.c (.v (.int .i64 k)))],[⟨135,25,grow (xs.map DDeed.o) XU k,true,true⟩]⟩) (fun k=>k<=xs.length) (fun k=>xs.length-k) 0 ⟨⟨rfl,AOt⟩,APE,aq _⟩ ?_;intro k hk;refine AOe (fun h=>?_) fun h=>?_
 .have hk':k<xs.length:=by simpa using h
  have hset:=@Ht _ DDeed.o xs XU k hk';simp only[go_sem,AA _ hk',Bq hk,EP hk',hk',wrap_i64 (n:=(k:Int)+1) AOl AOl,XU];refine CW (hx xs[k] (an hk')) fun _=>?_;simp only[go_sem,AA _ hk',Bq hk,EP hk',hk',wrap_i64 (n:=(k:Int)+1) AOl AOl,XU];refine⟨k+1,.inr ⟨k,grow (xs.map DDeed.o) XU k,_,DDeed.o xs[k],_,⟨aaR,rfl,rfl,APs,rfl⟩, ?_,⟨rfl, ?_⟩, ?_⟩,AOl,APJ⟩
  .simp[DDeed.o_eq,OwnL,DF,AB,DPred.o_eq,DPred.c_eq,DQuery.o_eq,DQuery.c_eq,DResult.o_eq,DResult.c_eq,DVal.c_eq,BZ,Aj,Ce,AQ]
  .exact AN6
  .rw[BJ,hset]; rfl
 .have hk':k=xs.length:=by simp at h; omega
  subst hk';rw[Hu];simp only[go_sem];try simp[Cb]
theorem tX (xs:List DDeed) (hf:fitS Ej xs):Ctr prog 29 [.c (.sl (xs.map DDeed.c))] [.own 135 25 (xs.map DDeed.o) true]:=yB xs hf.1 fun x hx=>ABb x (hf.2 x hx)
theorem ABc (d:DConf) (hf:P9 d):Ctr prog 23 [.agg d.c] [.agg d.o]:=by rw[Jm] at hf;have f0:=hf;refine CM call23 func23 ntmps23 results23 fun _=>?_;simp only[go_sem];refine CW (QE d.cols f0) fun _=>?_;simp only[go_sem];try simp[OwnL,DF,AB,DR,DConf.o_eq]
theorem dB (d:DWorld) (hf:AU d):Ctr prog 6 [.agg d.c] [.agg d.o]:=by rw[AZ] at hf;obtain⟨f0,f1,f2,f3,f4,f5,f6,f7⟩:=hf;refine CM call6 func6 ntmps6 results6 fun _=>?_;simp only[go_sem];refine CW (ABc d.c0 f0) fun _=>?_;simp only[go_sem];refine CW (ADH d.d f1) fun _=>?_;simp only[go_sem];refine CW (x_ d.b f2) fun _=>?_;simp only[go_sem];refine CW (QE d.m f3) fun _=>?_;simp only[go_sem];refine CW (rP d.x f4 fun x hx=>rO x) fun _=>?_;simp only[go_sem];refine CW (QE d.p f5) fun _=>?_;simp only[go_sem];refine CW (tV d.tasks f6) fun _=>?_;simp only[go_sem];refine CW (tX d.deeds f7) fun _=>?_;simp only[go_sem];try simp[OwnL,DF,AB,DR,DWorld.o_eq]
theorem H_ (d:DWorld) (hf:AU d):Ctr prog 6 [.agg d.c] [.val (.agg d.c)]:=(dB d hf).aggVal d.o_er
