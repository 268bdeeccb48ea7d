/- A part. -/
import Derived.Test.YtnoldekcdlaahaaGreatFa
set_option linter.unusedSimpArgs false
set_option linter.unusedVariables false
set_option maxHeartbeats 1000000
set_option maxRecDepth 10000
open Go.Proofs.Tryz
namespace Go.Proofs.YtnoldekcdlaahaaGreat
open Go.Vm
@[go_sem] theorem AQ (l:List Int):DI (l.map intC)=true:=FW (AY intC.pure)
theorem Ac (l:List Int):Qa (l.map intC)=l.map intC:=Ik (AY intC.pure)
@[go_sem] theorem Bv (l:List Int):DI (l.map byteC)=true:=FW (AY byteC.pure)
theorem AAZ (l:List Int):Qa (l.map byteC)=l.map byteC:=Ik (AY byteC.pure)
@[go_sem] theorem DD (l:List DVal):DI (l.map DVal.c)=true:=FW (AY DVal.pure)
theorem L8 (l:List DVal):Qa (l.map DVal.c)=l.map DVal.c:=Ik (AY DVal.pure)
theorem AAa (d:DVal):KI d.c=d.c:=RQ (DVal.pure d)
def DRow.o (d:DRow):List Cl:=[.v (.int .i64 d.id)]++([.ow 64 3 (d.l.map DVal.c)])
@[go_sem] theorem DRow.o_eq (d:DRow):d.o = [.v (.int .i64 d.id)]++([.ow 64 3 (d.l.map DVal.c)]):=rfl
theorem DRow.o_nr (d:DRow):d.o.all Hr=true:=by
 rw[DRow.o_eq]
 simp[kM,Hr]
@[go_sem] theorem BF (l:List DRow):DI (l.map DRow.o)=true:=S9 DRow.o_nr
theorem DRow.o_er (d:DRow):KI d.o=d.c:=by
 rw[DRow.o_eq,DRow.c_eq]
 simp[Iy,KI,er,L8]
theorem Jo (l:List DRow):Qa (l.map DRow.o)=l.map DRow.c:=PM DRow.o_er l
mutual
def DPred.o:DPred→List Cl
 | .mk kind col op v l=>[.v (.int .i64 kind)]++([.v (.int .i64 col)]++([.v (.int .i64 op)]++(v.c++([.ow 67 7 (DPred.oL l)]))))
def DPred.oL:List DPred→List (List Cl)
 | []=>[]
 | x::xs=>DPred.o x::DPred.oL xs
end
theorem DPred.oL_eq:∀ l:List DPred,DPred.oL l=l.map DPred.o
 | []=>rfl
 | x::xs=>by simp[DPred.oL,DPred.oL_eq xs]
@[go_sem] theorem DPred.o_eq (d:DPred):d.o = [.v (.int .i64 d.kind)]++([.v (.int .i64 d.col)]++([.v (.int .i64 d.op)]++(d.v.c++([.ow 67 7 (d.l.map DPred.o)])))):=by
 cases d
 simp only[DPred.o,DPred.oL_eq]
 rfl
theorem DPred.o_nr (d:DPred):d.o.all Hr=true:=by
 rw[DPred.o_eq]
 simp[kM,Hr,DVal.c_eq]
@[go_sem] theorem BL (l:List DPred):DI (l.map DPred.o)=true:=S9 DPred.o_nr
theorem DPred.o_er_fuel:∀ (n:Nat) (d:DPred),SizeOf.sizeOf d≤n→KI d.o=d.c
 | 0,d,h=>APp
 | n+1,d,h=>by
  have hm:Qa (d.l.map DPred.o)=d.l.map DPred.c:=by
   rw[oq]
   refine aaM fun x hx=>DPred.o_er_fuel n x ?_
   exact AMp
  rw[DPred.o_eq,DPred.c_eq]
  simp[Iy,KI,er,hm,AAa]
theorem DPred.o_er (d:DPred):KI d.o=d.c:=DPred.o_er_fuel _ d (aT _)
theorem JE (l:List DPred):Qa (l.map DPred.o)=l.map DPred.c:=PM DPred.o_er l
def DQuery.o (d:DQuery):List Cl:=[.v (.int .i64 d.kind)]++(d.p.o++([.v (.int .i64 d.col)]++([.ow 3 1 (d.out.map intC)])))
@[go_sem] theorem DQuery.o_eq (d:DQuery):d.o = [.v (.int .i64 d.kind)]++(d.p.o++([.v (.int .i64 d.col)]++([.ow 3 1 (d.out.map intC)]))):=rfl
theorem DQuery.o_nr (d:DQuery):d.o.all Hr=true:=by
 rw[DQuery.o_eq]
 simp[kM,Hr,DPred.o_nr]
theorem DQuery.o_er (d:DQuery):KI d.o=d.c:=by
 rw[DQuery.o_eq,DQuery.c_eq]
 simp[Iy,KI,er,DPred.o_er,Ac]
def DResult.o (d:DResult):List Cl:=[.ow 204 2 (d.rows.map DRow.o)]++([.v (.int .i64 d.n)]++([.v (.bool d.has)]++(d.v.c)))
@[go_sem] theorem DResult.o_eq (d:DResult):d.o = [.ow 204 2 (d.rows.map DRow.o)]++([.v (.int .i64 d.n)]++([.v (.bool d.has)]++(d.v.c))):=rfl
theorem DResult.o_nr (d:DResult):d.o.all Hr=true:=by
 rw[DResult.o_eq]
 simp[kM,Hr,DVal.c_eq]
theorem DResult.o_er (d:DResult):KI d.o=d.c:=by
 rw[DResult.o_eq,DResult.c_eq]
 simp[Iy,KI,er,Jo,AAa]
def DSlot.o (d:DSlot):List Cl:=[.v (.int .i64 d.ins)]++([.ow 64 3 (d.l.map DVal.c)])
@[go_sem] theorem DSlot.o_eq (d:DSlot):d.o = [.v (.int .i64 d.ins)]++([.ow 64 3 (d.l.map DVal.c)]):=rfl
theorem DSlot.o_nr (d:DSlot):d.o.all Hr=true:=by
 rw[DSlot.o_eq]
 simp[kM,Hr]
@[go_sem] theorem FO (l:List DSlot):DI (l.map DSlot.o)=true:=S9 DSlot.o_nr
theorem DSlot.o_er (d:DSlot):KI d.o=d.c:=by
 rw[DSlot.o_eq,DSlot.c_eq]
 simp[Iy,KI,er,L8]
theorem Ia (l:List DSlot):Qa (l.map DSlot.o)=l.map DSlot.c:=PM DSlot.o_er l
def DChunk.o (d:DChunk):List Cl:=[.v (.int .i64 d.next)]++([.ow 199 2 (d.l.map DSlot.o)])
@[go_sem] theorem DChunk.o_eq (d:DChunk):d.o = [.v (.int .i64 d.next)]++([.ow 199 2 (d.l.map DSlot.o)]):=rfl
theorem DChunk.o_nr (d:DChunk):d.o.all Hr=true:=by
 rw[DChunk.o_eq]
 simp[kM,Hr]
theorem DChunk.o_er (d:DChunk):KI d.o=d.c:=by
 rw[DChunk.o_eq,DChunk.c_eq]
 simp[Iy,KI,er,Ia]
def DBuf.o (d:DBuf):List Cl:=[.v (.int .i64 d.gen)]++([.v (.int .i64 d.kind)]++(d.c0.o++([.ow 5 1 (d.g.map byteC)])))
@[go_sem] theorem DBuf.o_eq (d:DBuf):d.o = [.v (.int .i64 d.gen)]++([.v (.int .i64 d.kind)]++(d.c0.o++([.ow 5 1 (d.g.map byteC)]))):=rfl
theorem DBuf.o_nr (d:DBuf):d.o.all Hr=true:=by
 rw[DBuf.o_eq]
 simp[kM,Hr,DChunk.o_nr]
@[go_sem] theorem BG (l:List DBuf):DI (l.map DBuf.o)=true:=S9 DBuf.o_nr
theorem DBuf.o_er (d:DBuf):KI d.o=d.c:=by
 rw[DBuf.o_eq,DBuf.c_eq]
 simp[Iy,KI,er,DChunk.o_er,AAZ]
theorem DX (l:List DBuf):Qa (l.map DBuf.o)=l.map DBuf.c:=PM DBuf.o_er l
@[go_sem] theorem Bj (l:List DDead):DI (l.map DDead.c)=true:=FW (AY DDead.pure)
theorem BZ (l:List DDead):Qa (l.map DDead.c)=l.map DDead.c:=Ik (AY DDead.pure)
@[go_sem] theorem Ba (l:List DRef):DI (l.map DRef.c)=true:=FW (AY DRef.pure)
theorem Ci (l:List DRef):Qa (l.map DRef.c)=l.map DRef.c:=Ik (AY DRef.pure)
def DDir.o (d:DDir):List Cl:=[.v (.int .i64 d.ver)]++([.ow 133 5 (d.l.map DRef.c)])
@[go_sem] theorem DDir.o_eq (d:DDir):d.o = [.v (.int .i64 d.ver)]++([.ow 133 5 (d.l.map DRef.c)]):=rfl
theorem DDir.o_nr (d:DDir):d.o.all Hr=true:=by
 rw[DDir.o_eq]
 simp[kM,Hr]
theorem DDir.o_er (d:DDir):KI d.o=d.c:=by
 rw[DDir.o_eq,DDir.c_eq]
 simp[Iy,KI,er,Ci]
def DTask.o (d:DTask):List Cl:=[.v (.int .i64 d.op)]++([.v (.int .i64 d.pc)]++([.v (.int .i64 d.h)]++([.ow 64 3 (d.r.map DVal.c)]++([.v (.int .i64 d.id)]++(d.q.o++([.v (.int .i64 d.ts)]++([.v (.int .i64 d.ver)]++([.ow 133 5 (d.l.map DRef.c)]++([.v (.int .i64 d.i)]++([.v (.int .i64 d.j)]++([.v (.int .i64 d.s)]++([.v (.int .i64 d.at0)]++([.v (.int .i64 d.own)]++([.v (.bool d.won)]++([.ow 204 2 (d.got.map DRow.o)])))))))))))))))
@[go_sem] theorem DTask.o_eq (d:DTask):d.o = [.v (.int .i64 d.op)]++([.v (.int .i64 d.pc)]++([.v (.int .i64 d.h)]++([.ow 64 3 (d.r.map DVal.c)]++([.v (.int .i64 d.id)]++(d.q.o++([.v (.int .i64 d.ts)]++([.v (.int .i64 d.ver)]++([.ow 133 5 (d.l.map DRef.c)]++([.v (.int .i64 d.i)]++([.v (.int .i64 d.j)]++([.v (.int .i64 d.s)]++([.v (.int .i64 d.at0)]++([.v (.int .i64 d.own)]++([.v (.bool d.won)]++([.ow 204 2 (d.got.map DRow.o)]))))))))))))))):=rfl
theorem DTask.o_nr (d:DTask):d.o.all Hr=true:=by
 rw[DTask.o_eq]
 simp[kM,Hr,DQuery.o_nr]
@[go_sem] theorem Gp (l:List DTask):DI (l.map DTask.o)=true:=S9 DTask.o_nr
theorem DTask.o_er (d:DTask):KI d.o=d.c:=by
 rw[DTask.o_eq,DTask.c_eq]
 simp[Iy,KI,er,DQuery.o_er,Jo,Ci,L8]
theorem GH (l:List DTask):Qa (l.map DTask.o)=l.map DTask.c:=PM DTask.o_er l
def DDeed.o (d:DDeed):List Cl:=[.v (.int .i64 d.op)]++([.v (.int .i64 d.task)]++([.ow 64 3 (d.r.map DVal.c)]++([.v (.int .i64 d.id)]++(d.q.o++(d.res.o++([.v (.int .i64 d.code)]++([.v (.int .i64 d.stamp)]++([.v (.int .i64 d.inv)]++([.v (.int .i64 d.lin)]++([.v (.int .i64 d.ret)]))))))))))
@[go_sem] theorem DDeed.o_eq (d:DDeed):d.o = [.v (.int .i64 d.op)]++([.v (.int .i64 d.task)]++([.ow 64 3 (d.r.map DVal.c)]++([.v (.int .i64 d.id)]++(d.q.o++(d.res.o++([.v (.int .i64 d.code)]++([.v (.int .i64 d.stamp)]++([.v (.int .i64 d.inv)]++([.v (.int .i64 d.lin)]++([.v (.int .i64 d.ret)])))))))))):=rfl
theorem DDeed.o_nr (d:DDeed):d.o.all Hr=true:=by
 rw[DDeed.o_eq]
 simp[kM,Hr,DQuery.o_nr,DResult.o_nr]
@[go_sem] theorem Cc (l:List DDeed):DI (l.map DDeed.o)=true:=S9 DDeed.o_nr
theorem DDeed.o_er (d:DDeed):KI d.o=d.c:=by
 rw[DDeed.o_eq,DDeed.c_eq]
 simp[Iy,KI,er,DQuery.o_er,DResult.o_er,L8]
theorem Ai (l:List DDeed):Qa (l.map DDeed.o)=l.map DDeed.c:=PM DDeed.o_er l
def DConf.o (d:DConf):List Cl:=[.ow 3 1 (d.cols.map intC)]++([.v (.int .i64 d.slots)]++([.v (.int .i64 d.bufs)]))
@[go_sem] theorem DConf.o_eq (d:DConf):d.o = [.ow 3 1 (d.cols.map intC)]++([.v (.int .i64 d.slots)]++([.v (.int .i64 d.bufs)])):=rfl
theorem DConf.o_nr (d:DConf):d.o.all Hr=true:=by
 rw[DConf.o_eq]
 simp[kM,Hr]
theorem DConf.o_er (d:DConf):KI d.o=d.c:=by
 rw[DConf.o_eq,DConf.c_eq]
 simp[Iy,KI,er,Ac]
def DWorld.o (d:DWorld):List Cl:=d.c0.o++([.v (.int .i64 d.time)]++([.v (.int .i64 d.t)]++([.v (.int .i64 d.e)]++(d.d.o++([.ow 142 5 (d.b.map DBuf.o)]++([.ow 3 1 (d.m.map intC)]++([.ow 145 3 (d.x.map DDead.c)]++([.ow 3 1 (d.p.map intC)]++([.ow 72 25 (d.tasks.map DTask.o)]++([.ow 152 25 (d.deeds.map DDeed.o)]))))))))))
@[go_sem] theorem DWorld.o_eq (d:DWorld):d.o=d.c0.o++([.v (.int .i64 d.time)]++([.v (.int .i64 d.t)]++([.v (.int .i64 d.e)]++(d.d.o++([.ow 142 5 (d.b.map DBuf.o)]++([.ow 3 1 (d.m.map intC)]++([.ow 145 3 (d.x.map DDead.c)]++([.ow 3 1 (d.p.map intC)]++([.ow 72 25 (d.tasks.map DTask.o)]++([.ow 152 25 (d.deeds.map DDeed.o)])))))))))):=rfl
theorem DWorld.o_nr (d:DWorld):d.o.all Hr=true:=by
 rw[DWorld.o_eq]
 simp[kM,Hr,DConf.o_nr,DDir.o_nr]
theorem DWorld.o_er (d:DWorld):KI d.o=d.c:=by
 rw[DWorld.o_eq,DWorld.c_eq]
 simp[Iy,KI,er,DConf.o_er,DDir.o_er,DX,Ai,GH,BZ,Ac]
theorem ADP (d:DRow) (hf:Gu d):Ctr prog 303 [.agg d.c] [.agg d.o]:=by
 rw[Ja] at hf
 have f0:=hf
 refine CM call303 func303 ntmps303 results303 fun _=>?_
 simp only[go_sem]
 refine CW (Px d.l f0.1 fun x hx=>KX x (f0.2 x hx)) fun _=>?_
 simp only[go_sem]
 try simp[OwnL,DT,AB,DI,DRow.o_eq]
theorem ABq (xs:List DRow) (hf:xs.length≤1048576) (hx:∀ x∈xs,Ctr prog 303 [.agg x.c] [.agg x.o]):Ctr prog 216 [.c (.sl (xs.map DRow.c))] [.own 204 2 (xs.map DRow.o) true]:=by
 refine CM call216 func216 ntmps216 results216 fun _=>?_
 have hc:(0:Int)≤xs.length∧(xs.length:Int)≤xs.length∧(xs.length:Int)≤2147483648:=AOh
 simp only[go_sem,ae,hc,xX]
 have hg:=fun k=>@Jg _ DRow.o DRow.o_nr [.v (.int .i64 0),.v (.slice none 0 0)] rfl xs k 204 2 true true
 refine ACz 1 0 [0,3,4] (A:=Nat) (fun k=>⟨23,[(0,.c (.sl (xs.map DRow.c))),(3,.c (.ref 0)),(4,.c (.v (.int .i64 k)))],[⟨204,2,grow (xs.map DRow.o) [.v (.int .i64 0),.v (.slice none 0 0)] k,true,true⟩]⟩) (fun k=>k≤xs.length) (fun k=>xs.length-k) 0 ⟨⟨rfl,AOn⟩,AO4,az _⟩ ?_
 intro k hk
 refine AOc (fun h=>?_) fun h=>?_
 ·have hk':k<xs.length:=by simpa using h
  have hset:=@Gv _ DRow.o xs [.v (.int .i64 0),.v (.slice none 0 0)] k hk'
  simp only[go_sem,AA _ hk',Bg hk,EH hk',hk',wrap_i64 (n:=(k:Int)+1) AOh AOh]
  refine CW (hx xs[k] (ax hk')) fun _=>?_
  simp only[go_sem,AA _ hk',Bg hk,EH hk',hk',wrap_i64 (n:=(k:Int)+1) AOh AOh]
  refine⟨k+1,.inr ⟨k,grow (xs.map DRow.o) [.v (.int .i64 0),.v (.slice none 0 0)] k,_,DRow.o xs[k],_,⟨aaR,rfl,rfl,APf,rfl⟩, ?_,⟨rfl, ?_⟩, ?_⟩,AOh,AO8⟩
  ·simp[DRow.o_eq,OwnL,DT,AB,DD]
  ·exact AN8
  ·rw[BO,hset]; rfl
 ·have hk':k=xs.length:=by simp at h; omega
  subst hk'
  rw[Gw]
  simp only[go_sem]
  try simp[BF]
theorem Zq (xs:List DRow) (hf:fitS Gu xs):Ctr prog 216 [.c (.sl (xs.map DRow.c))] [.own 204 2 (xs.map DRow.o) true]:=ABq xs hf.1 fun x hx=>ADP x (hf.2 x hx)
theorem yK (xs:List DPred) (hf:xs.length≤1048576) (hx:∀ x∈xs,Ctr prog 302 [.agg x.c] [.agg x.o]):Ctr prog 355 [.c (.sl (xs.map DPred.c))] [.own 67 7 (xs.map DPred.o) true]:=by
 refine CM call355 func355 ntmps355 results355 fun _=>?_
 have hc:(0:Int)≤xs.length∧(xs.length:Int)≤xs.length∧(xs.length:Int)≤2147483648:=AOh
 simp only[go_sem,ae,hc,xX]
 have hg:=fun k=>@Jg _ DPred.o DPred.o_nr [.v (.int .i64 0),.v (.int .i64 0),.v (.int .i64 0),.v (.int .i64 0),.v (.int .i64 0),.v (.string ByteArray.empty),.v (.slice none 0 0)] rfl xs k 67 7 true true
 refine ACz 1 0 [0,3,4] (A:=Nat) (fun k=>⟨23,[(0,.c (.sl (xs.map DPred.c))),(3,.c (.ref 0)),(4,.c (.v (.int .i64 k)))],[⟨67,7,grow (xs.map DPred.o) [.v (.int .i64 0),.v (.int .i64 0),.v (.int .i64 0),.v (.int .i64 0),.v (.int .i64 0),.v (.string ByteArray.empty),.v (.slice none 0 0)] k,true,true⟩]⟩) (fun k=>k≤xs.length) (fun k=>xs.length-k) 0 ⟨⟨rfl,AOn⟩,AO4,az _⟩ ?_
 intro k hk
 refine AOc (fun h=>?_) fun h=>?_
 ·have hk':k<xs.length:=by simpa using h
  have hset:=@Gv _ DPred.o xs [.v (.int .i64 0),.v (.int .i64 0),.v (.int .i64 0),.v (.int .i64 0),.v (.int .i64 0),.v (.string ByteArray.empty),.v (.slice none 0 0)] k hk'
  simp only[go_sem,AA _ hk',Bg hk,EH hk',hk',wrap_i64 (n:=(k:Int)+1) AOh AOh]
  refine CW (hx xs[k] (ax hk')) fun _=>?_
  simp only[go_sem,AA _ hk',Bg hk,EH hk',hk',wrap_i64 (n:=(k:Int)+1) AOh AOh]
  refine⟨k+1,.inr ⟨k,grow (xs.map DPred.o) [.v (.int .i64 0),.v (.int .i64 0),.v (.int .i64 0),.v (.int .i64 0),.v (.int .i64 0),.v (.string ByteArray.empty),.v (.slice none 0 0)] k,_,DPred.o xs[k],_,⟨aaR,rfl,rfl,APf,rfl⟩, ?_,⟨rfl, ?_⟩, ?_⟩,AOh,AO8⟩
  ·simp[DPred.o_eq,OwnL,DT,AB,DVal.c_eq,BL]
  ·exact AN8
  ·rw[BO,hset]; rfl
 ·have hk':k=xs.length:=by simp at h; omega
  subst hk'
  rw[Gw]
  simp only[go_sem]
  try simp[BL]
theorem nN (d:DPred) (hf:A_ d) (hx:∀ x∈d.l,Ctr prog 302 [.agg x.c] [.agg x.o]):Ctr prog 302 [.agg d.c] [.agg d.o]:=by
 rw[BP] at hf
 obtain⟨f0,f1⟩:=hf
 refine CM call302 func302 ntmps302 results302 fun _=>?_
 simp only[go_sem]
 refine CW (KX d.v f0) fun _=>?_
 simp only[go_sem]
 refine CW (yK d.l f1.1 hx) fun _=>?_
 simp only[go_sem]
 try simp[OwnL,DT,AB,DI,DPred.o_eq]
theorem Qr:∀ (n:Nat) (d:DPred),SizeOf.sizeOf d≤n→A_ d→Ctr prog 302 [.agg d.c] [.agg d.o]
 | 0,d,h,_=>APp
 | n+1,d,h,hf=>nN d hf fun x hx=>Qr n x (by
  have h1:SizeOf.sizeOf x<SizeOf.sizeOf d.l:=aao hx
  have h2:SizeOf.sizeOf d.l<SizeOf.sizeOf d:=APl
  omega) (by rw[BP] at hf; exact(hf.2).2 x hx)
theorem ABr (d:DPred) (hf:A_ d):Ctr prog 302 [.agg d.c] [.agg d.o]:=Qr _ d (aT _) hf
theorem Zr (d:DQuery) (hf:Ee d):Ctr prog 215 [.agg d.c] [.agg d.o]:=by
 rw[F9] at hf
 obtain⟨f0,f1⟩:=hf
 refine CM call215 func215 ntmps215 results215 fun _=>?_
 simp only[go_sem]
 refine CW (ABr d.p f0) fun _=>?_
 simp only[go_sem]
 refine CW (Pv d.out f1) fun _=>?_
 simp only[go_sem]
 try simp[OwnL,DT,AB,DI,DQuery.o_eq]
theorem sJ (d:DResult) (hf:KT d):Ctr prog 217 [.agg d.c] [.agg d.o]:=by
 rw[MV] at hf
 obtain⟨f0,f1⟩:=hf
 refine CM call217 func217 ntmps217 results217 fun _=>?_
 simp only[go_sem]
 refine CW (Zq d.rows f0) fun _=>?_
 simp only[go_sem]
 refine CW (KX d.v f1) fun _=>?_
 simp only[go_sem]
 try simp[OwnL,DT,AB,DI,DResult.o_eq]
theorem ABs (d:DSlot) (hf:K_ d):Ctr prog 354 [.agg d.c] [.agg d.o]:=by
 rw[KU] at hf
 have f0:=hf
 refine CM call354 func354 ntmps354 results354 fun _=>?_
 simp only[go_sem]
 refine CW (Px d.l f0.1 fun x hx=>KX x (f0.2 x hx)) fun _=>?_
 simp only[go_sem]
 try simp[OwnL,DT,AB,DI,DSlot.o_eq]
theorem yL (xs:List DSlot) (hf:xs.length≤1048576) (hx:∀ x∈xs,Ctr prog 354 [.agg x.c] [.agg x.o]):Ctr prog 300 [.c (.sl (xs.map DSlot.c))] [.own 199 2 (xs.map DSlot.o) true]:=by
 refine CM call300 func300 ntmps300 results300 fun _=>?_
 have hc:(0:Int)≤xs.length∧(xs.length:Int)≤xs.length∧(xs.length:Int)≤2147483648:=AOh
 simp only[go_sem,ae,hc,xX]
 have hg:=fun k=>@Jg _ DSlot.o DSlot.o_nr [.v (.int .i64 0),.v (.slice none 0 0)] rfl xs k 199 2 true true
 refine ACz 1 0 [0,3,4] (A:=Nat) (fun k=>⟨23,[(0,.c (.sl (xs.map DSlot.c))),(3,.c (.ref 0)),(4,.c (.v (.int .i64 k)))],[⟨199,2,grow (xs.map DSlot.o) [.v (.int .i64 0),.v (.slice none 0 0)] k,true,true⟩]⟩) (fun k=>k≤xs.length) (fun k=>xs.length-k) 0 ⟨⟨rfl,AOn⟩,AO4,az _⟩ ?_
 intro k hk
 refine AOc (fun h=>?_) fun h=>?_
 ·have hk':k<xs.length:=by simpa using h
  have hset:=@Gv _ DSlot.o xs [.v (.int .i64 0),.v (.slice none 0 0)] k hk'
  simp only[go_sem,AA _ hk',Bg hk,EH hk',hk',wrap_i64 (n:=(k:Int)+1) AOh AOh]
  refine CW (hx xs[k] (ax hk')) fun _=>?_
  simp only[go_sem,AA _ hk',Bg hk,EH hk',hk',wrap_i64 (n:=(k:Int)+1) AOh AOh]
  refine⟨k+1,.inr ⟨k,grow (xs.map DSlot.o) [.v (.int .i64 0),.v (.slice none 0 0)] k,_,DSlot.o xs[k],_,⟨aaR,rfl,rfl,APf,rfl⟩, ?_,⟨rfl, ?_⟩, ?_⟩,AOh,AO8⟩
  ·simp[DSlot.o_eq,OwnL,DT,AB,DD]
  ·exact AN8
  ·rw[BO,hset]; rfl
 ·have hk':k=xs.length:=by simp at h; omega
  subst hk'
  rw[Gw]
  simp only[go_sem]
  try simp[FO]
theorem sK (xs:List DSlot) (hf:fitS K_ xs):Ctr prog 300 [.c (.sl (xs.map DSlot.c))] [.own 199 2 (xs.map DSlot.o) true]:=yL xs hf.1 fun x hx=>ABs x (hf.2 x hx)
theorem yM (d:DChunk) (hf:F_ d):Ctr prog 212 [.agg d.c] [.agg d.o]:=by
 rw[EE] at hf
 have f0:=hf
 refine CM call212 func212 ntmps212 results212 fun _=>?_
 simp only[go_sem]
 refine CW (sK d.l f0) fun _=>?_
 simp only[go_sem]
 try simp[OwnL,DT,AB,DI,DChunk.o_eq]
theorem ADQ (d:DBuf) (hf:IE d):Ctr prog 98 [.agg d.c] [.agg d.o]:=by
 rw[H9] at hf
 obtain⟨f0,f1⟩:=hf
 refine CM call98 func98 ntmps98 results98 fun _=>?_
 simp only[go_sem]
 refine CW (yM d.c0 f0) fun _=>?_
 simp only[go_sem]
 refine CW (rZ d.g f1) fun _=>?_
 simp only[go_sem]
 try simp[OwnL,DT,AB,DI,DBuf.o_eq]
theorem ABt (xs:List DBuf) (hf:xs.length≤1048576) (hx:∀ x∈xs,Ctr prog 98 [.agg x.c] [.agg x.o]):Ctr prog 34 [.c (.sl (xs.map DBuf.c))] [.own 142 5 (xs.map DBuf.o) true]:=by
 refine CM call34 func34 ntmps34 results34 fun _=>?_
 have hc:(0:Int)≤xs.length∧(xs.length:Int)≤xs.length∧(xs.length:Int)≤2147483648:=AOh
 simp only[go_sem,ae,hc,xX]
 have hg:=fun k=>@Jg _ DBuf.o DBuf.o_nr [.v (.int .i64 0),.v (.int .i64 0),.v (.int .i64 0),.v (.slice none 0 0),.v (.slice none 0 0)] rfl xs k 142 5 true true
 refine ACz 1 0 [0,3,4] (A:=Nat) (fun k=>⟨23,[(0,.c (.sl (xs.map DBuf.c))),(3,.c (.ref 0)),(4,.c (.v (.int .i64 k)))],[⟨142,5,grow (xs.map DBuf.o) [.v (.int .i64 0),.v (.int .i64 0),.v (.int .i64 0),.v (.slice none 0 0),.v (.slice none 0 0)] k,true,true⟩]⟩) (fun k=>k≤xs.length) (fun k=>xs.length-k) 0 ⟨⟨rfl,AOn⟩,AO4,az _⟩ ?_
 intro k hk
 refine AOc (fun h=>?_) fun h=>?_
 ·have hk':k<xs.length:=by simpa using h
  have hset:=@Gv _ DBuf.o xs [.v (.int .i64 0),.v (.int .i64 0),.v (.int .i64 0),.v (.slice none 0 0),.v (.slice none 0 0)] k hk'
  simp only[go_sem,AA _ hk',Bg hk,EH hk',hk',wrap_i64 (n:=(k:Int)+1) AOh AOh]
  refine CW (hx xs[k] (ax hk')) fun _=>?_
  simp only[go_sem,AA _ hk',Bg hk,EH hk',hk',wrap_i64 (n:=(k:Int)+1) AOh AOh]
  refine⟨k+1,.inr ⟨k,grow (xs.map DBuf.o) [.v (.int .i64 0),.v (.int .i64 0),.v (.int .i64 0),.v (.slice none 0 0),.v (.slice none 0 0)] k,_,DBuf.o xs[k],_,⟨aaR,rfl,rfl,APf,rfl⟩, ?_,⟨rfl, ?_⟩, ?_⟩,AOh,AO8⟩
  ·simp[DBuf.o_eq,OwnL,DT,AB,DChunk.o_eq,DChunk.c_eq,FO,Bv]
  ·exact AN8
  ·rw[BO,hset]; rfl
 ·have hk':k=xs.length:=by simp at h; omega
  subst hk'
  rw[Gw]
  simp only[go_sem]
  try simp[BG]
theorem yN (xs:List DBuf) (hf:fitS IE xs):Ctr prog 34 [.c (.sl (xs.map DBuf.c))] [.own 142 5 (xs.map DBuf.o) true]:=ABt xs hf.1 fun x hx=>ADQ x (hf.2 x hx)
theorem ADR (d:DDir) (hf:UI d):Ctr prog 33 [.agg d.c] [.agg d.o]:=by
 rw[H_] at hf
 have f0:=hf
 refine CM call33 func33 ntmps33 results33 fun _=>?_
 simp only[go_sem]
 refine CW (Zp d.l f0 fun x hx=>Zo x) fun _=>?_
 simp only[go_sem]
 try simp[OwnL,DT,AB,DI,DDir.o_eq]
theorem ABu (d:DTask) (hf:GG d):Ctr prog 100 [.agg d.c] [.agg d.o]:=by
 rw[EC] at hf
 obtain⟨f0,f1,f2,f3⟩:=hf
 refine CM call100 func100 ntmps100 results100 fun _=>?_
 simp only[go_sem]
 refine CW (Px d.r f0.1 fun x hx=>KX x (f0.2 x hx)) fun _=>?_
 simp only[go_sem]
 refine CW (Zr d.q f1) fun _=>?_
 simp only[go_sem]
 refine CW (Zp d.l f2 fun x hx=>Zo x) fun _=>?_
 simp only[go_sem]
 refine CW (Zq d.got f3) fun _=>?_
 simp only[go_sem]
 try simp[OwnL,DT,AB,DI,DTask.o_eq]
def Wp:List Cl:=[.v (.int .i64 0),.v (.int .i64 0),.v (.int .i64 0),.v (.slice none 0 0),.v (.int .i64 0),.v (.int .i64 0),.v (.int .i64 0),.v (.int .i64 0),.v (.int .i64 0),.v (.int .i64 0),.v (.int .i64 0),.v (.string ByteArray.empty),.v (.slice none 0 0),.v (.int .i64 0),.v (.slice none 0 0),.v (.int .i64 0),.v (.int .i64 0),.v (.slice none 0 0),.v (.int .i64 0),.v (.int .i64 0),.v (.int .i64 0),.v (.int .i64 0),.v (.int .i64 0),.v (.bool false),.v (.slice none 0 0)]
theorem yO (xs:List DTask) (hf:xs.length≤1048576) (hx:∀ x∈xs,Ctr prog 100 [.agg x.c] [.agg x.o]):Ctr prog 37 [.c (.sl (xs.map DTask.c))] [.own 72 25 (xs.map DTask.o) true]:=by
 refine CM call37 func37 ntmps37 results37 fun _=>?_
 have hc:(0:Int)≤xs.length∧(xs.length:Int)≤xs.length∧(xs.length:Int)≤2147483648:=AOh
 simp only[go_sem,ae,hc,xX]
 have hg:=fun k=>@Jg _ DTask.o DTask.o_nr Wp rfl xs k 72 25 true true
 refine ACz 1 0 [0,3,4] (A:=Nat) (fun k=>⟨23,[(0,.c (.sl (xs.map DTask.c))),(3,.c (.ref 0)),(4,.c (.v (.int .i64 k)))],[⟨72,25,grow (xs.map DTask.o) Wp k,true,true⟩]⟩) (fun k=>k≤xs.length) (fun k=>xs.length-k) 0 ⟨⟨rfl,AOn⟩,AO4,az _⟩ ?_
 intro k hk
 refine AOc (fun h=>?_) fun h=>?_
 ·have hk':k<xs.length:=by simpa using h
  have hset:=@Gv _ DTask.o xs Wp k hk'
  simp only[go_sem,AA _ hk',Bg hk,EH hk',hk',wrap_i64 (n:=(k:Int)+1) AOh AOh,Wp]
  refine CW (hx xs[k] (ax hk')) fun _=>?_
  simp only[go_sem,AA _ hk',Bg hk,EH hk',hk',wrap_i64 (n:=(k:Int)+1) AOh AOh,Wp]
  refine⟨k+1,.inr ⟨k,grow (xs.map DTask.o) Wp k,_,DTask.o xs[k],_,⟨aaR,rfl,rfl,APf,rfl⟩, ?_,⟨rfl, ?_⟩, ?_⟩,AOh,AO8⟩
  ·simp[DTask.o_eq,OwnL,DT,AB,DPred.o_eq,DPred.c_eq,DQuery.o_eq,DQuery.c_eq,DVal.c_eq,BL,Ba,BF,DD,AQ]
  ·exact AN8
  ·rw[BO,hset]; rfl
 ·have hk':k=xs.length:=by simp at h; omega
  subst hk'
  rw[Gw]
  simp only[go_sem]
  try simp[Gp]
theorem sN (xs:List DTask) (hf:fitS GG xs):Ctr prog 37 [.c (.sl (xs.map DTask.c))] [.own 72 25 (xs.map DTask.o) true]:=yO xs hf.1 fun x hx=>ABu x (hf.2 x hx)
theorem ABv (d:DDeed) (hf:Fj d):Ctr prog 101 [.agg d.c] [.agg d.o]:=by
 rw[Hg] at hf
 obtain⟨f0,f1,f2⟩:=hf
 refine CM call101 func101 ntmps101 results101 fun _=>?_
 simp only[go_sem]
 refine CW (Px d.r f0.1 fun x hx=>KX x (f0.2 x hx)) fun _=>?_
 simp only[go_sem]
 refine CW (Zr d.q f1) fun _=>?_
 simp only[go_sem]
 refine CW (sJ d.res f2) fun _=>?_
 simp only[go_sem]
 try simp[OwnL,DT,AB,DI,DDeed.o_eq]
def Wq:List Cl:=[.v (.int .i64 0),.v (.int .i64 0),.v (.slice none 0 0),.v (.int .i64 0),.v (.int .i64 0),.v (.int .i64 0),.v (.int .i64 0),.v (.int .i64 0),.v (.int .i64 0),.v (.int .i64 0),.v (.string ByteArray.empty),.v (.slice none 0 0),.v (.int .i64 0),.v (.slice none 0 0),.v (.slice none 0 0),.v (.int .i64 0),.v (.bool false),.v (.int .i64 0),.v (.int .i64 0),.v (.string ByteArray.empty),.v (.int .i64 0),.v (.int .i64 0),.v (.int .i64 0),.v (.int .i64 0),.v (.int .i64 0)]
theorem yP (xs:List DDeed) (hf:xs.length≤1048576) (hx:∀ x∈xs,Ctr prog 101 [.agg x.c] [.agg x.o]):Ctr prog 38 [.c (.sl (xs.map DDeed.c))] [.own 152 25 (xs.map DDeed.o) true]:=by
 refine CM call38 func38 ntmps38 results38 fun _=>?_
 have hc:(0:Int)≤xs.length∧(xs.length:Int)≤xs.length∧(xs.length:Int)≤2147483648:=AOh
 simp only[go_sem,ae,hc,xX]
 have hg:=fun k=>@Jg _ DDeed.o DDeed.o_nr Wq rfl xs k 152 25 true true
 refine ACz 1 0 [0,3,4] (A:=Nat) (fun k=>⟨23,[(0,.c (.sl (xs.map DDeed.c))),(3,.c (.ref 0)),(4,.c (.v (.int .i64 k)))],[⟨152,25,grow (xs.map DDeed.o) Wq k,true,true⟩]⟩) (fun k=>k≤xs.length) (fun k=>xs.length-k) 0 ⟨⟨rfl,AOn⟩,AO4,az _⟩ ?_
 intro k hk
 refine AOc (fun h=>?_) fun h=>?_
 ·have hk':k<xs.length:=by simpa using h
  have hset:=@Gv _ DDeed.o xs Wq k hk'
  simp only[go_sem,AA _ hk',Bg hk,EH hk',hk',wrap_i64 (n:=(k:Int)+1) AOh AOh,Wq]
  refine CW (hx xs[k] (ax hk')) fun _=>?_
  simp only[go_sem,AA _ hk',Bg hk,EH hk',hk',wrap_i64 (n:=(k:Int)+1) AOh AOh,Wq]
  refine⟨k+1,.inr ⟨k,grow (xs.map DDeed.o) Wq k,_,DDeed.o xs[k],_,⟨aaR,rfl,rfl,APf,rfl⟩, ?_,⟨rfl, ?_⟩, ?_⟩,AOh,AO8⟩
  ·simp[DDeed.o_eq,OwnL,DT,AB,DPred.o_eq,DPred.c_eq,DQuery.o_eq,DQuery.c_eq,DResult.o_eq,DResult.c_eq,DVal.c_eq,BL,BF,DD,AQ]
  ·exact AN8
  ·rw[BO,hset]; rfl
 ·have hk':k=xs.length:=by simp at h; omega
  subst hk'
  rw[Gw]
  simp only[go_sem]
  try simp[Cc]
theorem sO (xs:List DDeed) (hf:fitS Fj xs):Ctr prog 38 [.c (.sl (xs.map DDeed.c))] [.own 152 25 (xs.map DDeed.o) true]:=yP xs hf.1 fun x hx=>ABv x (hf.2 x hx)
theorem ABw (d:DConf) (hf:Po d):Ctr prog 32 [.agg d.c] [.agg d.o]:=by
 rw[IZ] at hf
 have f0:=hf
 refine CM call32 func32 ntmps32 results32 fun _=>?_
 simp only[go_sem]
 refine CW (Pv d.cols f0) fun _=>?_
 simp only[go_sem]
 try simp[OwnL,DT,AB,DI,DConf.o_eq]
theorem Zt (d:DWorld) (hf:AX d):Ctr prog 9 [.agg d.c] [.agg d.o]:=by
 rw[A8] at hf
 obtain⟨f0,f1,f2,f3,f4,f5,f6,f7⟩:=hf
 refine CM call9 func9 ntmps9 results9 fun _=>?_
 simp only[go_sem]
 refine CW (ABw d.c0 f0) fun _=>?_
 simp only[go_sem]
 refine CW (ADR d.d f1) fun _=>?_
 simp only[go_sem]
 refine CW (yN d.b f2) fun _=>?_
 simp only[go_sem]
 refine CW (Pv d.m f3) fun _=>?_
 simp only[go_sem]
 refine CW (rq d.x f4 fun x hx=>rf x) fun _=>?_
 simp only[go_sem]
 refine CW (Pv d.p f5) fun _=>?_
 simp only[go_sem]
 refine CW (sN d.tasks f6) fun _=>?_
 simp only[go_sem]
 refine CW (sO d.deeds f7) fun _=>?_
 simp only[go_sem]
 try simp[OwnL,DT,AB,DI,DWorld.o_eq]
theorem ES (d:DWorld) (hf:AX d):Ctr prog 9 [.agg d.c] [.val (.agg d.c)]:=(Zt d hf).aggVal d.o_er
end Go.Proofs.YtnoldekcdlaahaaGreat
