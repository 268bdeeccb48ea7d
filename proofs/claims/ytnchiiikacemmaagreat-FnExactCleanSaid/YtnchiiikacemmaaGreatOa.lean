/- A part. -/
import Derived.Test.YtnchiiikacemmaaGreatFa
set_option linter.unusedSimpArgs false
set_option linter.unusedVariables false
set_option maxHeartbeats 1000000
set_option maxRecDepth 10000
open Go.Proofs.Tryz
namespace Go.Proofs.YtnchiiikacemmaaGreat
open Go.Vm
@[go_sem] theorem Aq (l:List Int):FT (l.map intC)=true:=CS (AO intC.pure)
theorem MJ (l:List Int):Oq (l.map intC)=l.map intC:=Hm (AO intC.pure)
@[go_sem] theorem B_ (l:List Int):FT (l.map byteC)=true:=CS (AO byteC.pure)
theorem ACW (l:List Int):Oq (l.map byteC)=l.map byteC:=Hm (AO byteC.pure)
@[go_sem] theorem CX (l:List DVal):FT (l.map DVal.c)=true:=CS (AO DVal.pure)
theorem iW (l:List DVal):Oq (l.map DVal.c)=l.map DVal.c:=Hm (AO DVal.pure)
theorem wP (d:DVal):J5 d.c=d.c:=PS (DVal.pure d)
def DRow.o (d:DRow):List Cl:=[.v (.int .i64 d.id)]++([.ow 119 3 (d.l.map DVal.c)])
@[go_sem] theorem DRow.o_eq (d:DRow):d.o = [.v (.int .i64 d.id)]++([.ow 119 3 (d.l.map DVal.c)]):=rfl
theorem DRow.o_nr (d:DRow):d.o.all NG=true:=by
 rw[DRow.o_eq]
 simp[NG]
@[go_sem] theorem A8 (l:List DRow):FT (l.map DRow.o)=true:=QO DRow.o_nr
theorem DRow.o_er (d:DRow):J5 d.o=d.c:=by
 rw[DRow.o_eq,DRow.c_eq]
 simp[J5,er,iW]
theorem KL (l:List DRow):Oq (l.map DRow.o)=l.map DRow.c:=PT DRow.o_er l
mutual
def DPred.o:DPred→List Cl
 | .mk kind col op v l=>[.v (.int .i64 kind)]++([.v (.int .i64 col)]++([.v (.int .i64 op)]++(v.c++([.ow 122 7 (DPred.oL l)]))))
def DPred.oL:List DPred→List (List Cl)
 | []=>[]
 | x::xs=>DPred.o x::DPred.oL xs
end
theorem DPred.oL_eq:∀ l:List DPred,DPred.oL l=l.map DPred.o
 | []=>rfl
 | x::xs=>by simp[DPred.oL,DPred.oL_eq xs]
@[go_sem] theorem DPred.o_eq (d:DPred):d.o = [.v (.int .i64 d.kind)]++([.v (.int .i64 d.col)]++([.v (.int .i64 d.op)]++(d.v.c++([.ow 122 7 (d.l.map DPred.o)])))):=by
 cases d
 simp only[DPred.o,DPred.oL_eq]
 rfl
theorem DPred.o_nr (d:DPred):d.o.all NG=true:=by
 rw[DPred.o_eq]
 simp[NG,DVal.c_eq]
@[go_sem] theorem BL (l:List DPred):FT (l.map DPred.o)=true:=QO DPred.o_nr
theorem DPred.o_er_fuel:∀ (n:Nat) (d:DPred),SizeOf.sizeOf d≤n→J5 d.o=d.c
 | 0,d,h=>by cases d; simp at h
 | n+1,d,h=>by
  have hm:Oq (d.l.map DPred.o)=d.l.map DPred.c:=by
   rw[jQ]
   refine aaM fun x hx=>DPred.o_er_fuel n x ?_
   have h1:SizeOf.sizeOf x<SizeOf.sizeOf d.l:=uC hx
   have h2:SizeOf.sizeOf d.l<SizeOf.sizeOf d:=by cases d; simp[DPred.l]; omega
   omega
  rw[DPred.o_eq,DPred.c_eq]
  simp[N_,J5,er,hm,wP]
theorem DPred.o_er (d:DPred):J5 d.o=d.c:=DPred.o_er_fuel _ d (aK _)
def DQuery.o (d:DQuery):List Cl:=[.v (.int .i64 d.kind)]++(d.p.o++([.v (.int .i64 d.col)]++([.ow 3 1 (d.out.map intC)])))
@[go_sem] theorem DQuery.o_eq (d:DQuery):d.o = [.v (.int .i64 d.kind)]++(d.p.o++([.v (.int .i64 d.col)]++([.ow 3 1 (d.out.map intC)]))):=rfl
theorem DQuery.o_nr (d:DQuery):d.o.all NG=true:=by
 rw[DQuery.o_eq]
 simp[aaY,NG,DPred.o_nr]
theorem DQuery.o_er (d:DQuery):J5 d.o=d.c:=by
 rw[DQuery.o_eq,DQuery.c_eq]
 simp[N_,J5,er,DPred.o_er,MJ]
def DResult.o (d:DResult):List Cl:=[.ow 193 2 (d.rows.map DRow.o)]++([.v (.int .i64 d.n)]++([.v (.bool d.has)]++(d.v.c)))
@[go_sem] theorem DResult.o_eq (d:DResult):d.o = [.ow 193 2 (d.rows.map DRow.o)]++([.v (.int .i64 d.n)]++([.v (.bool d.has)]++(d.v.c))):=rfl
theorem DResult.o_nr (d:DResult):d.o.all NG=true:=by
 rw[DResult.o_eq]
 simp[NG,DVal.c_eq]
theorem DResult.o_er (d:DResult):J5 d.o=d.c:=by
 rw[DResult.o_eq,DResult.c_eq]
 simp[J5,er,KL,wP]
def DSlot.o (d:DSlot):List Cl:=[.v (.int .i64 d.ins)]++([.ow 119 3 (d.l.map DVal.c)])
@[go_sem] theorem DSlot.o_eq (d:DSlot):d.o = [.v (.int .i64 d.ins)]++([.ow 119 3 (d.l.map DVal.c)]):=rfl
theorem DSlot.o_nr (d:DSlot):d.o.all NG=true:=by
 rw[DSlot.o_eq]
 simp[NG]
@[go_sem] theorem GG (l:List DSlot):FT (l.map DSlot.o)=true:=QO DSlot.o_nr
theorem DSlot.o_er (d:DSlot):J5 d.o=d.c:=by
 rw[DSlot.o_eq,DSlot.c_eq]
 simp[J5,er,iW]
theorem AAq (l:List DSlot):Oq (l.map DSlot.o)=l.map DSlot.c:=PT DSlot.o_er l
def DChunk.o (d:DChunk):List Cl:=[.v (.int .i64 d.next)]++([.ow 188 2 (d.l.map DSlot.o)])
@[go_sem] theorem DChunk.o_eq (d:DChunk):d.o = [.v (.int .i64 d.next)]++([.ow 188 2 (d.l.map DSlot.o)]):=rfl
theorem DChunk.o_nr (d:DChunk):d.o.all NG=true:=by
 rw[DChunk.o_eq]
 simp[NG]
theorem DChunk.o_er (d:DChunk):J5 d.o=d.c:=by
 rw[DChunk.o_eq,DChunk.c_eq]
 simp[J5,er,AAq]
def DBuf.o (d:DBuf):List Cl:=[.v (.int .i64 d.gen)]++([.v (.int .i64 d.kind)]++(d.c0.o++([.ow 5 1 (d.g.map byteC)])))
@[go_sem] theorem DBuf.o_eq (d:DBuf):d.o = [.v (.int .i64 d.gen)]++([.v (.int .i64 d.kind)]++(d.c0.o++([.ow 5 1 (d.g.map byteC)]))):=rfl
theorem DBuf.o_nr (d:DBuf):d.o.all NG=true:=by
 rw[DBuf.o_eq]
 simp[aaY,NG,DChunk.o_nr]
@[go_sem] theorem CE (l:List DBuf):FT (l.map DBuf.o)=true:=QO DBuf.o_nr
theorem DBuf.o_er (d:DBuf):J5 d.o=d.c:=by
 rw[DBuf.o_eq,DBuf.c_eq]
 simp[N_,J5,er,DChunk.o_er,ACW]
theorem KN (l:List DBuf):Oq (l.map DBuf.o)=l.map DBuf.c:=PT DBuf.o_er l
@[go_sem] theorem G6 (l:List DDead):FT (l.map DDead.c)=true:=CS (AO DDead.pure)
theorem Lr (l:List DDead):Oq (l.map DDead.c)=l.map DDead.c:=Hm (AO DDead.pure)
@[go_sem] theorem Et (l:List DRef):FT (l.map DRef.c)=true:=CS (AO DRef.pure)
theorem Np (l:List DRef):Oq (l.map DRef.c)=l.map DRef.c:=Hm (AO DRef.pure)
def DDir.o (d:DDir):List Cl:=[.v (.int .i64 d.ver)]++([.ow 165 5 (d.l.map DRef.c)])
@[go_sem] theorem DDir.o_eq (d:DDir):d.o = [.v (.int .i64 d.ver)]++([.ow 165 5 (d.l.map DRef.c)]):=rfl
theorem DDir.o_nr (d:DDir):d.o.all NG=true:=by
 rw[DDir.o_eq]
 simp[NG]
theorem DDir.o_er (d:DDir):J5 d.o=d.c:=by
 rw[DDir.o_eq,DDir.c_eq]
 simp[J5,er,Np]
def DTask.o (d:DTask):List Cl:=[.v (.int .i64 d.op)]++([.v (.int .i64 d.pc)]++([.v (.int .i64 d.h)]++([.ow 119 3 (d.r.map DVal.c)]++([.v (.int .i64 d.id)]++(d.q.o++([.v (.int .i64 d.ts)]++([.v (.int .i64 d.ver)]++([.ow 165 5 (d.l.map DRef.c)]++([.v (.int .i64 d.i)]++([.v (.int .i64 d.j)]++([.v (.int .i64 d.s)]++([.v (.int .i64 d.at0)]++([.v (.int .i64 d.own)]++([.v (.bool d.won)]++([.ow 193 2 (d.got.map DRow.o)])))))))))))))))
@[go_sem] theorem DTask.o_eq (d:DTask):d.o = [.v (.int .i64 d.op)]++([.v (.int .i64 d.pc)]++([.v (.int .i64 d.h)]++([.ow 119 3 (d.r.map DVal.c)]++([.v (.int .i64 d.id)]++(d.q.o++([.v (.int .i64 d.ts)]++([.v (.int .i64 d.ver)]++([.ow 165 5 (d.l.map DRef.c)]++([.v (.int .i64 d.i)]++([.v (.int .i64 d.j)]++([.v (.int .i64 d.s)]++([.v (.int .i64 d.at0)]++([.v (.int .i64 d.own)]++([.v (.bool d.won)]++([.ow 193 2 (d.got.map DRow.o)]))))))))))))))):=rfl
theorem DTask.o_nr (d:DTask):d.o.all NG=true:=by
 rw[DTask.o_eq]
 simp[aaY,NG,DQuery.o_nr]
@[go_sem] theorem GH (l:List DTask):FT (l.map DTask.o)=true:=QO DTask.o_nr
theorem DTask.o_er (d:DTask):J5 d.o=d.c:=by
 rw[DTask.o_eq,DTask.c_eq]
 simp[N_,J5,er,DQuery.o_er,KL,Np,iW]
theorem Jl (l:List DTask):Oq (l.map DTask.o)=l.map DTask.c:=PT DTask.o_er l
def DDeed.o (d:DDeed):List Cl:=[.v (.int .i64 d.op)]++([.v (.int .i64 d.task)]++([.ow 119 3 (d.r.map DVal.c)]++([.v (.int .i64 d.id)]++(d.q.o++(d.res.o++([.v (.int .i64 d.code)]++([.v (.int .i64 d.stamp)]++([.v (.int .i64 d.inv)]++([.v (.int .i64 d.lin)]++([.v (.int .i64 d.ret)]))))))))))
@[go_sem] theorem DDeed.o_eq (d:DDeed):d.o = [.v (.int .i64 d.op)]++([.v (.int .i64 d.task)]++([.ow 119 3 (d.r.map DVal.c)]++([.v (.int .i64 d.id)]++(d.q.o++(d.res.o++([.v (.int .i64 d.code)]++([.v (.int .i64 d.stamp)]++([.v (.int .i64 d.inv)]++([.v (.int .i64 d.lin)]++([.v (.int .i64 d.ret)])))))))))):=rfl
theorem DDeed.o_nr (d:DDeed):d.o.all NG=true:=by
 rw[DDeed.o_eq]
 simp[aaY,NG,DQuery.o_nr,DResult.o_nr]
@[go_sem] theorem Jb (l:List DDeed):FT (l.map DDeed.o)=true:=QO DDeed.o_nr
theorem DDeed.o_er (d:DDeed):J5 d.o=d.c:=by
 rw[DDeed.o_eq,DDeed.c_eq]
 simp[N_,J5,er,DQuery.o_er,DResult.o_er,iW]
theorem Jm (l:List DDeed):Oq (l.map DDeed.o)=l.map DDeed.c:=PT DDeed.o_er l
def DConf.o (d:DConf):List Cl:=[.ow 3 1 (d.cols.map intC)]++([.v (.int .i64 d.slots)]++([.v (.int .i64 d.bufs)]))
@[go_sem] theorem DConf.o_eq (d:DConf):d.o = [.ow 3 1 (d.cols.map intC)]++([.v (.int .i64 d.slots)]++([.v (.int .i64 d.bufs)])):=rfl
theorem DConf.o_nr (d:DConf):d.o.all NG=true:=by
 rw[DConf.o_eq]
 simp[NG]
theorem DConf.o_er (d:DConf):J5 d.o=d.c:=by
 rw[DConf.o_eq,DConf.c_eq]
 simp[J5,er,MJ]
def DWorld.o (d:DWorld):List Cl:=d.c0.o++([.v (.int .i64 d.time)]++([.v (.int .i64 d.t)]++([.v (.int .i64 d.e)]++(d.d.o++([.ow 112 5 (d.b.map DBuf.o)]++([.ow 3 1 (d.m.map intC)]++([.ow 115 3 (d.x.map DDead.c)]++([.ow 3 1 (d.p.map intC)]++([.ow 127 25 (d.tasks.map DTask.o)]++([.ow 132 25 (d.deeds.map DDeed.o)]))))))))))
@[go_sem] theorem DWorld.o_eq (d:DWorld):d.o=d.c0.o++([.v (.int .i64 d.time)]++([.v (.int .i64 d.t)]++([.v (.int .i64 d.e)]++(d.d.o++([.ow 112 5 (d.b.map DBuf.o)]++([.ow 3 1 (d.m.map intC)]++([.ow 115 3 (d.x.map DDead.c)]++([.ow 3 1 (d.p.map intC)]++([.ow 127 25 (d.tasks.map DTask.o)]++([.ow 132 25 (d.deeds.map DDeed.o)])))))))))):=rfl
theorem DWorld.o_nr (d:DWorld):d.o.all NG=true:=by
 rw[DWorld.o_eq]
 simp[aaY,NG,DConf.o_nr,DDir.o_nr]
theorem DWorld.o_er (d:DWorld):J5 d.o=d.c:=by
 rw[DWorld.o_eq,DWorld.c_eq]
 simp[N_,J5,er,DConf.o_er,DDir.o_er,KN,Jm,Jl,Lr,MJ]
theorem AAr (d:DRow) (hf:G_ d):Ctr prog 192 [.agg d.c] [.agg d.o]:=by
 rw[KY] at hf
 have f0:=hf
 refine CM call192 func192 ntmps192 results192 fun _=>?_
 simp only[go_sem]
 refine CW (Kw d.l f0.1 fun x hx=>F9 x (f0.2 x hx)) fun _=>?_
 simp only[go_sem]
 try simp[AY]
theorem yg (xs:List DRow) (hf:xs.length≤1048576) (hx:∀ x∈xs,Ctr prog 192 [.agg x.c] [.agg x.o]):Ctr prog 132 [.c (.sl (xs.map DRow.c))] [.own 193 2 (xs.map DRow.o) true]:=by
 refine CM call132 func132 ntmps132 results132 fun _=>?_
 have hc:(0:Int)≤xs.length∧(xs.length:Int)≤xs.length∧(xs.length:Int)≤2147483648:=by omega
 simp only[go_sem,ae,hc]
 have hg:=fun k=>@Ij _ DRow.o DRow.o_nr [.v (.int .i64 0),.v (.slice none 0 0)] rfl xs k 193 2 true true
 refine LoopA.mk 1 0 [0,3,4] (A:=Nat) (fun k=>⟨23,[(0,.c (.sl (xs.map DRow.c))),(3,.c (.ref 0)),(4,.c (.v (.int .i64 k)))],[⟨193,2,grow (xs.map DRow.o) [.v (.int .i64 0),.v (.slice none 0 0)] k,true,true⟩]⟩) (fun k=>k≤xs.length) (fun k=>xs.length-k) 0 ⟨⟨rfl,by have:=hg 0; simp only[Ap,ae] at this; exact this⟩,by simp only[Ap,ae]; rfl,ak _⟩ ?_
 intro k hk
 simp only[go_sem,ae]
 refine cndC.mk (fun h=>?_) (fun h=>?_)
 ·have hk':k<xs.length:=by simpa using h
  have hset:=@DX _ DRow.o xs [.v (.int .i64 0),.v (.slice none 0 0)] k hk'
  simp only[go_sem,AA _ hk']
  refine CW (hx xs[k] (aj hk')) fun _=>?_
  simp only[go_sem,Bl hk,EG hk',hk',wrap_i64 (n:=(k:Int)+1) (by omega) (by omega)]
  refine⟨k+1,.inr ⟨k,grow (xs.map DRow.o) [.v (.int .i64 0),.v (.slice none 0 0)] k,_,DRow.o xs[k],_,⟨aaT,rfl,rfl,by rw[Bl hk]; exact hk',rfl⟩, ?_,⟨rfl, ?_⟩, ?_⟩,by omega,by first | omega | (simp only; omega)⟩
  ·simp[DRow.o_eq,BX,ES,AY,CX]
  ·rw[Az,hset]; exact hg _
  ·rw[Az,hset]; rfl
 ·have hk':k=xs.length:=by simp at h; omega
  subst hk'
  rw[DY]
  simp only[go_sem]
  try simp
theorem X3 (xs:List DRow) (hf:fitS G_ xs):Ctr prog 132 [.c (.sl (xs.map DRow.c))] [.own 193 2 (xs.map DRow.o) true]:=yg xs hf.1 fun x hx=>AAr x (hf.2 x hx)
theorem tH (xs:List DPred) (hf:xs.length≤1048576) (hx:∀ x∈xs,Ctr prog 191 [.agg x.c] [.agg x.o]):Ctr prog 226 [.c (.sl (xs.map DPred.c))] [.own 122 7 (xs.map DPred.o) true]:=by
 refine CM call226 func226 ntmps226 results226 fun _=>?_
 have hc:(0:Int)≤xs.length∧(xs.length:Int)≤xs.length∧(xs.length:Int)≤2147483648:=by omega
 simp only[go_sem,ae,hc]
 have hg:=fun k=>@Ij _ DPred.o DPred.o_nr [.v (.int .i64 0),.v (.int .i64 0),.v (.int .i64 0),.v (.int .i64 0),.v (.int .i64 0),.v (.string ByteArray.empty),.v (.slice none 0 0)] rfl xs k 122 7 true true
 refine LoopA.mk 1 0 [0,3,4] (A:=Nat) (fun k=>⟨23,[(0,.c (.sl (xs.map DPred.c))),(3,.c (.ref 0)),(4,.c (.v (.int .i64 k)))],[⟨122,7,grow (xs.map DPred.o) [.v (.int .i64 0),.v (.int .i64 0),.v (.int .i64 0),.v (.int .i64 0),.v (.int .i64 0),.v (.string ByteArray.empty),.v (.slice none 0 0)] k,true,true⟩]⟩) (fun k=>k≤xs.length) (fun k=>xs.length-k) 0 ⟨⟨rfl,by have:=hg 0; simp only[Ap,ae] at this; exact this⟩,by simp only[Ap,ae]; rfl,ak _⟩ ?_
 intro k hk
 simp only[go_sem,ae]
 refine cndC.mk (fun h=>?_) (fun h=>?_)
 ·have hk':k<xs.length:=by simpa using h
  have hset:=@DX _ DPred.o xs [.v (.int .i64 0),.v (.int .i64 0),.v (.int .i64 0),.v (.int .i64 0),.v (.int .i64 0),.v (.string ByteArray.empty),.v (.slice none 0 0)] k hk'
  simp only[go_sem,AA _ hk']
  refine CW (hx xs[k] (aj hk')) fun _=>?_
  simp only[go_sem,Bl hk,EG hk',hk',wrap_i64 (n:=(k:Int)+1) (by omega) (by omega)]
  refine⟨k+1,.inr ⟨k,grow (xs.map DPred.o) [.v (.int .i64 0),.v (.int .i64 0),.v (.int .i64 0),.v (.int .i64 0),.v (.int .i64 0),.v (.string ByteArray.empty),.v (.slice none 0 0)] k,_,DPred.o xs[k],_,⟨aaT,rfl,rfl,by rw[Bl hk]; exact hk',rfl⟩, ?_,⟨rfl, ?_⟩, ?_⟩,by omega,by first | omega | (simp only; omega)⟩
  ·simp[DPred.o_eq,BX,ES,AY,DVal.c_eq,BL]
  ·rw[Az,hset]; exact hg _
  ·rw[Az,hset]; rfl
 ·have hk':k=xs.length:=by simp at h; omega
  subst hk'
  rw[DY]
  simp only[go_sem]
  try simp
theorem iY (d:DPred) (hf:Ak d) (hx:∀ x∈d.l,Ctr prog 191 [.agg x.c] [.agg x.o]):Ctr prog 191 [.agg d.c] [.agg d.o]:=by
 rw[BG] at hf
 obtain⟨f0,f1⟩:=hf
 refine CM call191 func191 ntmps191 results191 fun _=>?_
 simp only[go_sem]
 refine CW (F9 d.v f0) fun _=>?_
 simp only[go_sem]
 refine CW (tH d.l f1.1 hx) fun _=>?_
 simp only[go_sem]
 try simp[AY]
theorem O7:∀ (n:Nat) (d:DPred),SizeOf.sizeOf d≤n→Ak d→Ctr prog 191 [.agg d.c] [.agg d.o]
 | 0,d,h,_=>by cases d; simp at h
 | n+1,d,h,hf=>iY d hf fun x hx=>O7 n x (by
  have h1:SizeOf.sizeOf x<SizeOf.sizeOf d.l:=uC hx
  have h2:SizeOf.sizeOf d.l<SizeOf.sizeOf d:=by cases d; simp[DPred.l]; omega
  omega) (by rw[BG] at hf; exact(hf.2).2 x hx)
theorem yh (d:DPred) (hf:Ak d):Ctr prog 191 [.agg d.c] [.agg d.o]:=O7 _ d (aK _) hf
theorem X4 (d:DQuery) (hf:Dl d):Ctr prog 131 [.agg d.c] [.agg d.o]:=by
 rw[Ea] at hf
 obtain⟨f0,f1⟩:=hf
 refine CM call131 func131 ntmps131 results131 fun _=>?_
 simp only[go_sem]
 refine CW (yh d.p f0) fun _=>?_
 simp only[go_sem]
 refine CW (Kv d.out f1) fun _=>?_
 simp only[go_sem]
 try simp[AY]
theorem nM (d:DResult) (hf:Ig d):Ctr prog 133 [.agg d.c] [.agg d.o]:=by
 rw[Ir] at hf
 obtain⟨f0,f1⟩:=hf
 refine CM call133 func133 ntmps133 results133 fun _=>?_
 simp only[go_sem]
 refine CW (X3 d.rows f0) fun _=>?_
 simp only[go_sem]
 refine CW (F9 d.v f1) fun _=>?_
 simp only[go_sem]
 try simp[AY]
theorem yj (d:DSlot) (hf:JZ d):Ctr prog 225 [.agg d.c] [.agg d.o]:=by
 rw[JL] at hf
 have f0:=hf
 refine CM call225 func225 ntmps225 results225 fun _=>?_
 simp only[go_sem]
 refine CW (Kw d.l f0.1 fun x hx=>F9 x (f0.2 x hx)) fun _=>?_
 simp only[go_sem]
 try simp[AY]
theorem tJ (xs:List DSlot) (hf:xs.length≤1048576) (hx:∀ x∈xs,Ctr prog 225 [.agg x.c] [.agg x.o]):Ctr prog 189 [.c (.sl (xs.map DSlot.c))] [.own 188 2 (xs.map DSlot.o) true]:=by
 refine CM call189 func189 ntmps189 results189 fun _=>?_
 have hc:(0:Int)≤xs.length∧(xs.length:Int)≤xs.length∧(xs.length:Int)≤2147483648:=by omega
 simp only[go_sem,ae,hc]
 have hg:=fun k=>@Ij _ DSlot.o DSlot.o_nr [.v (.int .i64 0),.v (.slice none 0 0)] rfl xs k 188 2 true true
 refine LoopA.mk 1 0 [0,3,4] (A:=Nat) (fun k=>⟨23,[(0,.c (.sl (xs.map DSlot.c))),(3,.c (.ref 0)),(4,.c (.v (.int .i64 k)))],[⟨188,2,grow (xs.map DSlot.o) [.v (.int .i64 0),.v (.slice none 0 0)] k,true,true⟩]⟩) (fun k=>k≤xs.length) (fun k=>xs.length-k) 0 ⟨⟨rfl,by have:=hg 0; simp only[Ap,ae] at this; exact this⟩,by simp only[Ap,ae]; rfl,ak _⟩ ?_
 intro k hk
 simp only[go_sem,ae]
 refine cndC.mk (fun h=>?_) (fun h=>?_)
 ·have hk':k<xs.length:=by simpa using h
  have hset:=@DX _ DSlot.o xs [.v (.int .i64 0),.v (.slice none 0 0)] k hk'
  simp only[go_sem,AA _ hk']
  refine CW (hx xs[k] (aj hk')) fun _=>?_
  simp only[go_sem,Bl hk,EG hk',hk',wrap_i64 (n:=(k:Int)+1) (by omega) (by omega)]
  refine⟨k+1,.inr ⟨k,grow (xs.map DSlot.o) [.v (.int .i64 0),.v (.slice none 0 0)] k,_,DSlot.o xs[k],_,⟨aaT,rfl,rfl,by rw[Bl hk]; exact hk',rfl⟩, ?_,⟨rfl, ?_⟩, ?_⟩,by omega,by first | omega | (simp only; omega)⟩
  ·simp[DSlot.o_eq,BX,ES,AY,CX]
  ·rw[Az,hset]; exact hg _
  ·rw[Az,hset]; rfl
 ·have hk':k=xs.length:=by simp at h; omega
  subst hk'
  rw[DY]
  simp only[go_sem]
  try simp
theorem nN (xs:List DSlot) (hf:fitS JZ xs):Ctr prog 189 [.c (.sl (xs.map DSlot.c))] [.own 188 2 (xs.map DSlot.o) true]:=tJ xs hf.1 fun x hx=>yj x (hf.2 x hx)
theorem tK (d:DChunk) (hf:FY d):Ctr prog 128 [.agg d.c] [.agg d.o]:=by
 rw[Eb] at hf
 have f0:=hf
 refine CM call128 func128 ntmps128 results128 fun _=>?_
 simp only[go_sem]
 refine CW (nN d.l f0) fun _=>?_
 simp only[go_sem]
 try simp[AY]
theorem AAs (d:DBuf) (hf:F6 d):Ctr prog 60 [.agg d.c] [.agg d.o]:=by
 rw[Gp] at hf
 obtain⟨f0,f1⟩:=hf
 refine CM call60 func60 ntmps60 results60 fun _=>?_
 simp only[go_sem]
 refine CW (tK d.c0 f0) fun _=>?_
 simp only[go_sem]
 refine CW (Vk d.g f1) fun _=>?_
 simp only[go_sem]
 try simp[AY]
theorem yl (xs:List DBuf) (hf:xs.length≤1048576) (hx:∀ x∈xs,Ctr prog 60 [.agg x.c] [.agg x.o]):Ctr prog 23 [.c (.sl (xs.map DBuf.c))] [.own 112 5 (xs.map DBuf.o) true]:=by
 refine CM call23 func23 ntmps23 results23 fun _=>?_
 have hc:(0:Int)≤xs.length∧(xs.length:Int)≤xs.length∧(xs.length:Int)≤2147483648:=by omega
 simp only[go_sem,ae,hc]
 have hg:=fun k=>@Ij _ DBuf.o DBuf.o_nr [.v (.int .i64 0),.v (.int .i64 0),.v (.int .i64 0),.v (.slice none 0 0),.v (.slice none 0 0)] rfl xs k 112 5 true true
 refine LoopA.mk 1 0 [0,3,4] (A:=Nat) (fun k=>⟨23,[(0,.c (.sl (xs.map DBuf.c))),(3,.c (.ref 0)),(4,.c (.v (.int .i64 k)))],[⟨112,5,grow (xs.map DBuf.o) [.v (.int .i64 0),.v (.int .i64 0),.v (.int .i64 0),.v (.slice none 0 0),.v (.slice none 0 0)] k,true,true⟩]⟩) (fun k=>k≤xs.length) (fun k=>xs.length-k) 0 ⟨⟨rfl,by have:=hg 0; simp only[Ap,ae] at this; exact this⟩,by simp only[Ap,ae]; rfl,ak _⟩ ?_
 intro k hk
 simp only[go_sem,ae]
 refine cndC.mk (fun h=>?_) (fun h=>?_)
 ·have hk':k<xs.length:=by simpa using h
  have hset:=@DX _ DBuf.o xs [.v (.int .i64 0),.v (.int .i64 0),.v (.int .i64 0),.v (.slice none 0 0),.v (.slice none 0 0)] k hk'
  simp only[go_sem,AA _ hk']
  refine CW (hx xs[k] (aj hk')) fun _=>?_
  simp only[go_sem,Bl hk,EG hk',hk',wrap_i64 (n:=(k:Int)+1) (by omega) (by omega)]
  refine⟨k+1,.inr ⟨k,grow (xs.map DBuf.o) [.v (.int .i64 0),.v (.int .i64 0),.v (.int .i64 0),.v (.slice none 0 0),.v (.slice none 0 0)] k,_,DBuf.o xs[k],_,⟨aaT,rfl,rfl,by rw[Bl hk]; exact hk',rfl⟩, ?_,⟨rfl, ?_⟩, ?_⟩,by omega,by first | omega | (simp only; omega)⟩
  ·simp[DBuf.o_eq,BX,ES,AY,DChunk.o_eq,GG,B_]
  ·rw[Az,hset]; exact hg _
  ·rw[Az,hset]; rfl
 ·have hk':k=xs.length:=by simp at h; omega
  subst hk'
  rw[DY]
  simp only[go_sem]
  try simp
theorem tN (xs:List DBuf) (hf:fitS F6 xs):Ctr prog 23 [.c (.sl (xs.map DBuf.c))] [.own 112 5 (xs.map DBuf.o) true]:=yl xs hf.1 fun x hx=>AAs x (hf.2 x hx)
theorem AAt (d:DDir) (hf:Oz d):Ctr prog 22 [.agg d.c] [.agg d.o]:=by
 rw[Ht] at hf
 have f0:=hf
 refine CM call22 func22 ntmps22 results22 fun _=>?_
 simp only[go_sem]
 refine CW (RQ d.l f0 fun x hx=>RP x) fun _=>?_
 simp only[go_sem]
 try simp[AY]
theorem yu (d:DTask) (hf:FW d):Ctr prog 62 [.agg d.c] [.agg d.o]:=by
 rw[D6] at hf
 obtain⟨f0,f1,f2,f3⟩:=hf
 refine CM call62 func62 ntmps62 results62 fun _=>?_
 simp only[go_sem]
 refine CW (Kw d.r f0.1 fun x hx=>F9 x (f0.2 x hx)) fun _=>?_
 simp only[go_sem]
 refine CW (X4 d.q f1) fun _=>?_
 simp only[go_sem]
 refine CW (RQ d.l f2 fun x hx=>RP x) fun _=>?_
 simp only[go_sem]
 refine CW (X3 d.got f3) fun _=>?_
 simp only[go_sem]
 try simp[AY]
theorem tV (xs:List DTask) (hf:xs.length≤1048576) (hx:∀ x∈xs,Ctr prog 62 [.agg x.c] [.agg x.o]):Ctr prog 26 [.c (.sl (xs.map DTask.c))] [.own 127 25 (xs.map DTask.o) true]:=by
 refine CM call26 func26 ntmps26 results26 fun _=>?_
 have hc:(0:Int)≤xs.length∧(xs.length:Int)≤xs.length∧(xs.length:Int)≤2147483648:=by omega
 simp only[go_sem,ae,hc]
 have hg:=fun k=>@Ij _ DTask.o DTask.o_nr [.v (.int .i64 0),.v (.int .i64 0),.v (.int .i64 0),.v (.slice none 0 0),.v (.int .i64 0),.v (.int .i64 0),.v (.int .i64 0),.v (.int .i64 0),.v (.int .i64 0),.v (.int .i64 0),.v (.int .i64 0),.v (.string ByteArray.empty),.v (.slice none 0 0),.v (.int .i64 0),.v (.slice none 0 0),.v (.int .i64 0),.v (.int .i64 0),.v (.slice none 0 0),.v (.int .i64 0),.v (.int .i64 0),.v (.int .i64 0),.v (.int .i64 0),.v (.int .i64 0),.v (.bool false),.v (.slice none 0 0)] rfl xs k 127 25 true true
 refine LoopA.mk 1 0 [0,3,4] (A:=Nat) (fun k=>⟨23,[(0,.c (.sl (xs.map DTask.c))),(3,.c (.ref 0)),(4,.c (.v (.int .i64 k)))],[⟨127,25,grow (xs.map DTask.o) [.v (.int .i64 0),.v (.int .i64 0),.v (.int .i64 0),.v (.slice none 0 0),.v (.int .i64 0),.v (.int .i64 0),.v (.int .i64 0),.v (.int .i64 0),.v (.int .i64 0),.v (.int .i64 0),.v (.int .i64 0),.v (.string ByteArray.empty),.v (.slice none 0 0),.v (.int .i64 0),.v (.slice none 0 0),.v (.int .i64 0),.v (.int .i64 0),.v (.slice none 0 0),.v (.int .i64 0),.v (.int .i64 0),.v (.int .i64 0),.v (.int .i64 0),.v (.int .i64 0),.v (.bool false),.v (.slice none 0 0)] k,true,true⟩]⟩) (fun k=>k≤xs.length) (fun k=>xs.length-k) 0 ⟨⟨rfl,by have:=hg 0; simp only[Ap,ae] at this; exact this⟩,by simp only[Ap,ae]; rfl,ak _⟩ ?_
 intro k hk
 simp only[go_sem,ae]
 refine cndC.mk (fun h=>?_) (fun h=>?_)
 ·have hk':k<xs.length:=by simpa using h
  have hset:=@DX _ DTask.o xs [.v (.int .i64 0),.v (.int .i64 0),.v (.int .i64 0),.v (.slice none 0 0),.v (.int .i64 0),.v (.int .i64 0),.v (.int .i64 0),.v (.int .i64 0),.v (.int .i64 0),.v (.int .i64 0),.v (.int .i64 0),.v (.string ByteArray.empty),.v (.slice none 0 0),.v (.int .i64 0),.v (.slice none 0 0),.v (.int .i64 0),.v (.int .i64 0),.v (.slice none 0 0),.v (.int .i64 0),.v (.int .i64 0),.v (.int .i64 0),.v (.int .i64 0),.v (.int .i64 0),.v (.bool false),.v (.slice none 0 0)] k hk'
  simp only[go_sem,AA _ hk']
  refine CW (hx xs[k] (aj hk')) fun _=>?_
  simp only[go_sem,Bl hk,EG hk',hk',wrap_i64 (n:=(k:Int)+1) (by omega) (by omega)]
  refine⟨k+1,.inr ⟨k,grow (xs.map DTask.o) [.v (.int .i64 0),.v (.int .i64 0),.v (.int .i64 0),.v (.slice none 0 0),.v (.int .i64 0),.v (.int .i64 0),.v (.int .i64 0),.v (.int .i64 0),.v (.int .i64 0),.v (.int .i64 0),.v (.int .i64 0),.v (.string ByteArray.empty),.v (.slice none 0 0),.v (.int .i64 0),.v (.slice none 0 0),.v (.int .i64 0),.v (.int .i64 0),.v (.slice none 0 0),.v (.int .i64 0),.v (.int .i64 0),.v (.int .i64 0),.v (.int .i64 0),.v (.int .i64 0),.v (.bool false),.v (.slice none 0 0)] k,_,DTask.o xs[k],_,⟨aaT,rfl,rfl,by rw[Bl hk]; exact hk',rfl⟩, ?_,⟨rfl, ?_⟩, ?_⟩,by omega,by first | omega | (simp only; omega)⟩
  ·simp[DTask.o_eq,BX,ES,AY,DPred.o_eq,DQuery.o_eq,DVal.c_eq,BL,Et,A8,CX,Aq]
  ·rw[Az,hset]; exact hg _
  ·rw[Az,hset]; rfl
 ·have hk':k=xs.length:=by simp at h; omega
  subst hk'
  rw[DY]
  simp only[go_sem]
  try simp
theorem nO (xs:List DTask) (hf:fitS FW xs):Ctr prog 26 [.c (.sl (xs.map DTask.c))] [.own 127 25 (xs.map DTask.o) true]:=tV xs hf.1 fun x hx=>yu x (hf.2 x hx)
theorem yw (d:DDeed) (hf:E8 d):Ctr prog 63 [.agg d.c] [.agg d.o]:=by
 rw[F7] at hf
 obtain⟨f0,f1,f2⟩:=hf
 refine CM call63 func63 ntmps63 results63 fun _=>?_
 simp only[go_sem]
 refine CW (Kw d.r f0.1 fun x hx=>F9 x (f0.2 x hx)) fun _=>?_
 simp only[go_sem]
 refine CW (X4 d.q f1) fun _=>?_
 simp only[go_sem]
 refine CW (nM d.res f2) fun _=>?_
 simp only[go_sem]
 try simp[AY]
theorem tX (xs:List DDeed) (hf:xs.length≤1048576) (hx:∀ x∈xs,Ctr prog 63 [.agg x.c] [.agg x.o]):Ctr prog 27 [.c (.sl (xs.map DDeed.c))] [.own 132 25 (xs.map DDeed.o) true]:=by
 refine CM call27 func27 ntmps27 results27 fun _=>?_
 have hc:(0:Int)≤xs.length∧(xs.length:Int)≤xs.length∧(xs.length:Int)≤2147483648:=by omega
 simp only[go_sem,ae,hc]
 have hg:=fun k=>@Ij _ DDeed.o DDeed.o_nr [.v (.int .i64 0),.v (.int .i64 0),.v (.slice none 0 0),.v (.int .i64 0),.v (.int .i64 0),.v (.int .i64 0),.v (.int .i64 0),.v (.int .i64 0),.v (.int .i64 0),.v (.int .i64 0),.v (.string ByteArray.empty),.v (.slice none 0 0),.v (.int .i64 0),.v (.slice none 0 0),.v (.slice none 0 0),.v (.int .i64 0),.v (.bool false),.v (.int .i64 0),.v (.int .i64 0),.v (.string ByteArray.empty),.v (.int .i64 0),.v (.int .i64 0),.v (.int .i64 0),.v (.int .i64 0),.v (.int .i64 0)] rfl xs k 132 25 true true
 refine LoopA.mk 1 0 [0,3,4] (A:=Nat) (fun k=>⟨23,[(0,.c (.sl (xs.map DDeed.c))),(3,.c (.ref 0)),(4,.c (.v (.int .i64 k)))],[⟨132,25,grow (xs.map DDeed.o) [.v (.int .i64 0),.v (.int .i64 0),.v (.slice none 0 0),.v (.int .i64 0),.v (.int .i64 0),.v (.int .i64 0),.v (.int .i64 0),.v (.int .i64 0),.v (.int .i64 0),.v (.int .i64 0),.v (.string ByteArray.empty),.v (.slice none 0 0),.v (.int .i64 0),.v (.slice none 0 0),.v (.slice none 0 0),.v (.int .i64 0),.v (.bool false),.v (.int .i64 0),.v (.int .i64 0),.v (.string ByteArray.empty),.v (.int .i64 0),.v (.int .i64 0),.v (.int .i64 0),.v (.int .i64 0),.v (.int .i64 0)] k,true,true⟩]⟩) (fun k=>k≤xs.length) (fun k=>xs.length-k) 0 ⟨⟨rfl,by have:=hg 0; simp only[Ap,ae] at this; exact this⟩,by simp only[Ap,ae]; rfl,ak _⟩ ?_
 intro k hk
 simp only[go_sem,ae]
 refine cndC.mk (fun h=>?_) (fun h=>?_)
 ·have hk':k<xs.length:=by simpa using h
  have hset:=@DX _ DDeed.o xs [.v (.int .i64 0),.v (.int .i64 0),.v (.slice none 0 0),.v (.int .i64 0),.v (.int .i64 0),.v (.int .i64 0),.v (.int .i64 0),.v (.int .i64 0),.v (.int .i64 0),.v (.int .i64 0),.v (.string ByteArray.empty),.v (.slice none 0 0),.v (.int .i64 0),.v (.slice none 0 0),.v (.slice none 0 0),.v (.int .i64 0),.v (.bool false),.v (.int .i64 0),.v (.int .i64 0),.v (.string ByteArray.empty),.v (.int .i64 0),.v (.int .i64 0),.v (.int .i64 0),.v (.int .i64 0),.v (.int .i64 0)] k hk'
  simp only[go_sem,AA _ hk']
  refine CW (hx xs[k] (aj hk')) fun _=>?_
  simp only[go_sem,Bl hk,EG hk',hk',wrap_i64 (n:=(k:Int)+1) (by omega) (by omega)]
  refine⟨k+1,.inr ⟨k,grow (xs.map DDeed.o) [.v (.int .i64 0),.v (.int .i64 0),.v (.slice none 0 0),.v (.int .i64 0),.v (.int .i64 0),.v (.int .i64 0),.v (.int .i64 0),.v (.int .i64 0),.v (.int .i64 0),.v (.int .i64 0),.v (.string ByteArray.empty),.v (.slice none 0 0),.v (.int .i64 0),.v (.slice none 0 0),.v (.slice none 0 0),.v (.int .i64 0),.v (.bool false),.v (.int .i64 0),.v (.int .i64 0),.v (.string ByteArray.empty),.v (.int .i64 0),.v (.int .i64 0),.v (.int .i64 0),.v (.int .i64 0),.v (.int .i64 0)] k,_,DDeed.o xs[k],_,⟨aaT,rfl,rfl,by rw[Bl hk]; exact hk',rfl⟩, ?_,⟨rfl, ?_⟩, ?_⟩,by omega,by first | omega | (simp only; omega)⟩
  ·simp[DDeed.o_eq,BX,ES,AY,DPred.o_eq,DQuery.o_eq,DResult.o_eq,DVal.c_eq,BL,A8,CX,Aq]
  ·rw[Az,hset]; exact hg _
  ·rw[Az,hset]; rfl
 ·have hk':k=xs.length:=by simp at h; omega
  subst hk'
  rw[DY]
  simp only[go_sem]
  try simp
theorem nP (xs:List DDeed) (hf:fitS E8 xs):Ctr prog 27 [.c (.sl (xs.map DDeed.c))] [.own 132 25 (xs.map DDeed.o) true]:=tX xs hf.1 fun x hx=>yw x (hf.2 x hx)
theorem yx (d:DConf) (hf:La d):Ctr prog 21 [.agg d.c] [.agg d.o]:=by
 rw[F8] at hf
 have f0:=hf
 refine CM call21 func21 ntmps21 results21 fun _=>?_
 simp only[go_sem]
 refine CW (Kv d.cols f0) fun _=>?_
 simp only[go_sem]
 try simp[AY]
theorem tY (d:DWorld) (hf:AU d):Ctr prog 7 [.agg d.c] [.agg d.o]:=by
 rw[BH] at hf
 obtain⟨f0,f1,f2,f3,f4,f5,f6,f7⟩:=hf
 refine CM call7 func7 ntmps7 results7 fun _=>?_
 simp only[go_sem]
 refine CW (yx d.c0 f0) fun _=>?_
 simp only[go_sem]
 refine CW (AAt d.d f1) fun _=>?_
 simp only[go_sem]
 refine CW (tN d.b f2) fun _=>?_
 simp only[go_sem]
 refine CW (Kv d.m f3) fun _=>?_
 simp only[go_sem]
 refine CW (Vq d.x f4 fun x hx=>Vp x) fun _=>?_
 simp only[go_sem]
 refine CW (Kv d.p f5) fun _=>?_
 simp only[go_sem]
 refine CW (nO d.tasks f6) fun _=>?_
 simp only[go_sem]
 refine CW (nP d.deeds f7) fun _=>?_
 simp only[go_sem]
 try simp[AY]
end Go.Proofs.YtnchiiikacemmaaGreat
