/- A part. -/
import Derived.Test.YtnfbaclikokapaaGreatFa
set_option linter.unusedSimpArgs false
set_option linter.unusedVariables false
set_option maxHeartbeats 1000000
set_option maxRecDepth 10000
open Go.Proofs.Tryz
namespace Go.Proofs.YtnfbaclikokapaaGreat
open Go.Vm
@[go_sem] theorem Am (l:List Int):Df (l.map intC)=true:=EW (AQ intC.pure)
theorem HY (l:List Int):Pg (l.map intC)=l.map intC:=Ho (AQ intC.pure)
@[go_sem] theorem Bg (l:List Int):Df (l.map byteC)=true:=EW (AQ byteC.pure)
theorem ACK (l:List Int):Pg (l.map byteC)=l.map byteC:=Ho (AQ byteC.pure)
@[go_sem] theorem CV (l:List DVal):Df (l.map DVal.c)=true:=EW (AQ DVal.pure)
theorem iR (l:List DVal):Pg (l.map DVal.c)=l.map DVal.c:=Ho (AQ DVal.pure)
theorem vg (d:DVal):J_ d.c=d.c:=Px (DVal.pure d)
def DRow.o (d:DRow):List Cl:=[.v (.int .i64 d.id)]++([.ow 68 3 (d.l.map DVal.c)])
@[go_sem] theorem DRow.o_eq (d:DRow):d.o = [.v (.int .i64 d.id)]++([.ow 68 3 (d.l.map DVal.c)]):=rfl
theorem DRow.o_nr (d:DRow):d.o.all Nh=true:=by
 rw[DRow.o_eq]
 simp[Zi,Nh]
@[go_sem] theorem A7 (l:List DRow):Df (l.map DRow.o)=true:=Qg DRow.o_nr
theorem DRow.o_er (d:DRow):J_ d.o=d.c:=by
 rw[DRow.o_eq,DRow.c_eq]
 simp[Hy,J_,er,iR]
theorem KX (l:List DRow):Pg (l.map DRow.o)=l.map DRow.c:=Py DRow.o_er l
mutual
def DPred.o:DPred→List Cl
 | .mk kind col op v l=>[.v (.int .i64 kind)]++([.v (.int .i64 col)]++([.v (.int .i64 op)]++(v.c++([.ow 71 7 (DPred.oL l)]))))
def DPred.oL:List DPred→List (List Cl)
 | []=>[]
 | x::xs=>DPred.o x::DPred.oL xs
end
theorem DPred.oL_eq:∀ l:List DPred,DPred.oL l=l.map DPred.o
 | []=>rfl
 | x::xs=>by simp[DPred.oL,DPred.oL_eq xs]
@[go_sem] theorem DPred.o_eq (d:DPred):d.o = [.v (.int .i64 d.kind)]++([.v (.int .i64 d.col)]++([.v (.int .i64 d.op)]++(d.v.c++([.ow 71 7 (d.l.map DPred.o)])))):=by
 cases d
 simp only[DPred.o,DPred.oL_eq]
 rfl
theorem DPred.o_nr (d:DPred):d.o.all Nh=true:=by
 rw[DPred.o_eq]
 simp[Zi,Nh,DVal.c_eq]
@[go_sem] theorem BG (l:List DPred):Df (l.map DPred.o)=true:=Qg DPred.o_nr
theorem DPred.o_er_fuel:∀ (n:Nat) (d:DPred),SizeOf.sizeOf d≤n→J_ d.o=d.c
 | 0,d,h=>by cases d; simp at h
 | n+1,d,h=>by
  have hm:Pg (d.l.map DPred.o)=d.l.map DPred.c:=by
   rw[jE]
   refine aaM fun x hx=>DPred.o_er_fuel n x ?_
   have h1:SizeOf.sizeOf x<SizeOf.sizeOf d.l:=v_ hx
   have h2:SizeOf.sizeOf d.l<SizeOf.sizeOf d:=by cases d; simp[DPred.l]; omega
   omega
  rw[DPred.o_eq,DPred.c_eq]
  simp[Hy,J_,er,hm,vg]
theorem DPred.o_er (d:DPred):J_ d.o=d.c:=DPred.o_er_fuel _ d (aN _)
def DQuery.o (d:DQuery):List Cl:=[.v (.int .i64 d.kind)]++(d.p.o++([.v (.int .i64 d.col)]++([.ow 3 1 (d.out.map intC)])))
@[go_sem] theorem DQuery.o_eq (d:DQuery):d.o = [.v (.int .i64 d.kind)]++(d.p.o++([.v (.int .i64 d.col)]++([.ow 3 1 (d.out.map intC)]))):=rfl
theorem DQuery.o_nr (d:DQuery):d.o.all Nh=true:=by
 rw[DQuery.o_eq]
 simp[Zi,Nh,DPred.o_nr]
theorem DQuery.o_er (d:DQuery):J_ d.o=d.c:=by
 rw[DQuery.o_eq,DQuery.c_eq]
 simp[Hy,J_,er,DPred.o_er,HY]
def DResult.o (d:DResult):List Cl:=[.ow 204 2 (d.rows.map DRow.o)]++([.v (.int .i64 d.n)]++([.v (.bool d.has)]++(d.v.c)))
@[go_sem] theorem DResult.o_eq (d:DResult):d.o = [.ow 204 2 (d.rows.map DRow.o)]++([.v (.int .i64 d.n)]++([.v (.bool d.has)]++(d.v.c))):=rfl
theorem DResult.o_nr (d:DResult):d.o.all Nh=true:=by
 rw[DResult.o_eq]
 simp[Zi,Nh,DVal.c_eq]
theorem DResult.o_er (d:DResult):J_ d.o=d.c:=by
 rw[DResult.o_eq,DResult.c_eq]
 simp[Hy,J_,er,KX,vg]
def DSlot.o (d:DSlot):List Cl:=[.v (.int .i64 d.ins)]++([.ow 68 3 (d.l.map DVal.c)])
@[go_sem] theorem DSlot.o_eq (d:DSlot):d.o = [.v (.int .i64 d.ins)]++([.ow 68 3 (d.l.map DVal.c)]):=rfl
theorem DSlot.o_nr (d:DSlot):d.o.all Nh=true:=by
 rw[DSlot.o_eq]
 simp[Zi,Nh]
@[go_sem] theorem FY (l:List DSlot):Df (l.map DSlot.o)=true:=Qg DSlot.o_nr
theorem DSlot.o_er (d:DSlot):J_ d.o=d.c:=by
 rw[DSlot.o_eq,DSlot.c_eq]
 simp[Hy,J_,er,iR]
theorem AAe (l:List DSlot):Pg (l.map DSlot.o)=l.map DSlot.c:=Py DSlot.o_er l
def DChunk.o (d:DChunk):List Cl:=[.v (.int .i64 d.next)]++([.ow 199 2 (d.l.map DSlot.o)])
@[go_sem] theorem DChunk.o_eq (d:DChunk):d.o = [.v (.int .i64 d.next)]++([.ow 199 2 (d.l.map DSlot.o)]):=rfl
theorem DChunk.o_nr (d:DChunk):d.o.all Nh=true:=by
 rw[DChunk.o_eq]
 simp[Zi,Nh]
theorem DChunk.o_er (d:DChunk):J_ d.o=d.c:=by
 rw[DChunk.o_eq,DChunk.c_eq]
 simp[Hy,J_,er,AAe]
def DBuf.o (d:DBuf):List Cl:=[.v (.int .i64 d.gen)]++([.v (.int .i64 d.kind)]++(d.c0.o++([.ow 5 1 (d.g.map byteC)])))
@[go_sem] theorem DBuf.o_eq (d:DBuf):d.o = [.v (.int .i64 d.gen)]++([.v (.int .i64 d.kind)]++(d.c0.o++([.ow 5 1 (d.g.map byteC)]))):=rfl
theorem DBuf.o_nr (d:DBuf):d.o.all Nh=true:=by
 rw[DBuf.o_eq]
 simp[Zi,Nh,DChunk.o_nr]
@[go_sem] theorem DY (l:List DBuf):Df (l.map DBuf.o)=true:=Qg DBuf.o_nr
theorem DBuf.o_er (d:DBuf):J_ d.o=d.c:=by
 rw[DBuf.o_eq,DBuf.c_eq]
 simp[Hy,J_,er,DChunk.o_er,ACK]
theorem KY (l:List DBuf):Pg (l.map DBuf.o)=l.map DBuf.c:=Py DBuf.o_er l
@[go_sem] theorem Jh (l:List DDead):Df (l.map DDead.c)=true:=EW (AQ DDead.pure)
theorem KZ (l:List DDead):Pg (l.map DDead.c)=l.map DDead.c:=Ho (AQ DDead.pure)
@[go_sem] theorem ER (l:List DRef):Df (l.map DRef.c)=true:=EW (AQ DRef.pure)
theorem NE (l:List DRef):Pg (l.map DRef.c)=l.map DRef.c:=Ho (AQ DRef.pure)
def DDir.o (d:DDir):List Cl:=[.v (.int .i64 d.ver)]++([.ow 196 5 (d.l.map DRef.c)])
@[go_sem] theorem DDir.o_eq (d:DDir):d.o = [.v (.int .i64 d.ver)]++([.ow 196 5 (d.l.map DRef.c)]):=rfl
theorem DDir.o_nr (d:DDir):d.o.all Nh=true:=by
 rw[DDir.o_eq]
 simp[Zi,Nh]
theorem DDir.o_er (d:DDir):J_ d.o=d.c:=by
 rw[DDir.o_eq,DDir.c_eq]
 simp[Hy,J_,er,NE]
def DTask.o (d:DTask):List Cl:=[.v (.int .i64 d.op)]++([.v (.int .i64 d.pc)]++([.v (.int .i64 d.h)]++([.ow 68 3 (d.r.map DVal.c)]++([.v (.int .i64 d.id)]++(d.q.o++([.v (.int .i64 d.ts)]++([.v (.int .i64 d.ver)]++([.ow 196 5 (d.l.map DRef.c)]++([.v (.int .i64 d.i)]++([.v (.int .i64 d.j)]++([.v (.int .i64 d.s)]++([.v (.int .i64 d.at0)]++([.v (.int .i64 d.own)]++([.v (.bool d.won)]++([.ow 204 2 (d.got.map DRow.o)])))))))))))))))
@[go_sem] theorem DTask.o_eq (d:DTask):d.o = [.v (.int .i64 d.op)]++([.v (.int .i64 d.pc)]++([.v (.int .i64 d.h)]++([.ow 68 3 (d.r.map DVal.c)]++([.v (.int .i64 d.id)]++(d.q.o++([.v (.int .i64 d.ts)]++([.v (.int .i64 d.ver)]++([.ow 196 5 (d.l.map DRef.c)]++([.v (.int .i64 d.i)]++([.v (.int .i64 d.j)]++([.v (.int .i64 d.s)]++([.v (.int .i64 d.at0)]++([.v (.int .i64 d.own)]++([.v (.bool d.won)]++([.ow 204 2 (d.got.map DRow.o)]))))))))))))))):=rfl
theorem DTask.o_nr (d:DTask):d.o.all Nh=true:=by
 rw[DTask.o_eq]
 simp[Zi,Nh,DQuery.o_nr]
@[go_sem] theorem FZ (l:List DTask):Df (l.map DTask.o)=true:=Qg DTask.o_nr
theorem DTask.o_er (d:DTask):J_ d.o=d.c:=by
 rw[DTask.o_eq,DTask.c_eq]
 simp[Hy,J_,er,DQuery.o_er,KX,NE,iR]
theorem Iw (l:List DTask):Pg (l.map DTask.o)=l.map DTask.c:=Py DTask.o_er l
def DDeed.o (d:DDeed):List Cl:=[.v (.int .i64 d.op)]++([.v (.int .i64 d.task)]++([.ow 68 3 (d.r.map DVal.c)]++([.v (.int .i64 d.id)]++(d.q.o++(d.res.o++([.v (.int .i64 d.code)]++([.v (.int .i64 d.stamp)]++([.v (.int .i64 d.inv)]++([.v (.int .i64 d.lin)]++([.v (.int .i64 d.ret)]))))))))))
@[go_sem] theorem DDeed.o_eq (d:DDeed):d.o = [.v (.int .i64 d.op)]++([.v (.int .i64 d.task)]++([.ow 68 3 (d.r.map DVal.c)]++([.v (.int .i64 d.id)]++(d.q.o++(d.res.o++([.v (.int .i64 d.code)]++([.v (.int .i64 d.stamp)]++([.v (.int .i64 d.inv)]++([.v (.int .i64 d.lin)]++([.v (.int .i64 d.ret)])))))))))):=rfl
theorem DDeed.o_nr (d:DDeed):d.o.all Nh=true:=by
 rw[DDeed.o_eq]
 simp[Zi,Nh,DQuery.o_nr,DResult.o_nr]
@[go_sem] theorem Iy (l:List DDeed):Df (l.map DDeed.o)=true:=Qg DDeed.o_nr
theorem DDeed.o_er (d:DDeed):J_ d.o=d.c:=by
 rw[DDeed.o_eq,DDeed.c_eq]
 simp[Hy,J_,er,DQuery.o_er,DResult.o_er,iR]
theorem Iz (l:List DDeed):Pg (l.map DDeed.o)=l.map DDeed.c:=Py DDeed.o_er l
def DConf.o (d:DConf):List Cl:=[.ow 3 1 (d.cols.map intC)]++([.v (.int .i64 d.slots)]++([.v (.int .i64 d.bufs)]))
@[go_sem] theorem DConf.o_eq (d:DConf):d.o = [.ow 3 1 (d.cols.map intC)]++([.v (.int .i64 d.slots)]++([.v (.int .i64 d.bufs)])):=rfl
theorem DConf.o_nr (d:DConf):d.o.all Nh=true:=by
 rw[DConf.o_eq]
 simp[Zi,Nh]
theorem DConf.o_er (d:DConf):J_ d.o=d.c:=by
 rw[DConf.o_eq,DConf.c_eq]
 simp[Hy,J_,er,HY]
def DWorld.o (d:DWorld):List Cl:=d.c0.o++([.v (.int .i64 d.time)]++([.v (.int .i64 d.t)]++([.v (.int .i64 d.e)]++(d.d.o++([.ow 160 5 (d.b.map DBuf.o)]++([.ow 3 1 (d.m.map intC)]++([.ow 163 3 (d.x.map DDead.c)]++([.ow 3 1 (d.p.map intC)]++([.ow 142 25 (d.tasks.map DTask.o)]++([.ow 153 25 (d.deeds.map DDeed.o)]))))))))))
@[go_sem] theorem DWorld.o_eq (d:DWorld):d.o=d.c0.o++([.v (.int .i64 d.time)]++([.v (.int .i64 d.t)]++([.v (.int .i64 d.e)]++(d.d.o++([.ow 160 5 (d.b.map DBuf.o)]++([.ow 3 1 (d.m.map intC)]++([.ow 163 3 (d.x.map DDead.c)]++([.ow 3 1 (d.p.map intC)]++([.ow 142 25 (d.tasks.map DTask.o)]++([.ow 153 25 (d.deeds.map DDeed.o)])))))))))):=rfl
theorem DWorld.o_nr (d:DWorld):d.o.all Nh=true:=by
 rw[DWorld.o_eq]
 simp[Zi,Nh,DConf.o_nr,DDir.o_nr]
theorem DWorld.o_er (d:DWorld):J_ d.o=d.c:=by
 rw[DWorld.o_eq,DWorld.c_eq]
 simp[Hy,J_,er,DConf.o_er,DDir.o_er,KY,Iz,Iw,KZ,HY]
theorem AAf (d:DRow) (hf:IR d):Ctr prog 222 [.agg d.c] [.agg d.o]:=by
 rw[NP] at hf
 have f0:=hf
 refine CM call222 func222 ntmps222 results222 fun _=>?_
 simp only[go_sem]
 refine CW (OH d.l f0.1 fun x hx=>JU x (f0.2 x hx)) fun _=>?_
 simp only[go_sem]
 try simp[AU,CO,AO,Df,DRow.o_eq]
theorem yH (xs:List DRow) (hf:xs.length≤1048576) (hx:∀ x∈xs,Ctr prog 222 [.agg x.c] [.agg x.o]):Ctr prog 174 [.c (.sl (xs.map DRow.c))] [.own 204 2 (xs.map DRow.o) true]:=by
 refine CM call174 func174 ntmps174 results174 fun _=>?_
 have hc:(0:Int)≤xs.length∧(xs.length:Int)≤xs.length∧(xs.length:Int)≤2147483648:=by omega
 simp only[go_sem,ae,hc,qx]
 have hg:=fun k=>@Ie _ DRow.o DRow.o_nr [.v (.int .i64 0),.v (.slice none 0 0)] rfl xs k 204 2 true true
 refine LoopA.mk 1 0 [0,3,4] (A:=Nat) (fun k=>⟨23,[(0,.c (.sl (xs.map DRow.c))),(3,.c (.ref 0)),(4,.c (.v (.int .i64 k)))],[⟨204,2,grow (xs.map DRow.o) [.v (.int .i64 0),.v (.slice none 0 0)] k,true,true⟩]⟩) (fun k=>k≤xs.length) (fun k=>xs.length-k) 0 ⟨⟨rfl,by have:=hg 0; simp only[Bv,ae] at this; exact this⟩,by simp only[Bv,ae]; rfl,ax _⟩ ?_
 intro k hk
 simp only[go_sem,ae]
 refine cndC.mk (fun h=>?_) (fun h=>?_)
 ·have hk':k<xs.length:=by simpa using h
  have hset:=@Fj _ DRow.o xs [.v (.int .i64 0),.v (.slice none 0 0)] k hk'
  simp only[go_sem,AA _ hk',BU hk,DN hk',hk',wrap_i64 (n:=(k:Int)+1) (by omega) (by omega)]
  refine CW (hx xs[k] (aj hk')) fun _=>?_
  simp only[go_sem,AA _ hk',BU hk,DN hk',hk',wrap_i64 (n:=(k:Int)+1) (by omega) (by omega)]
  refine⟨k+1,.inr ⟨k,grow (xs.map DRow.o) [.v (.int .i64 0),.v (.slice none 0 0)] k,_,DRow.o xs[k],_,⟨aaU,rfl,rfl,by rw[BU hk]; exact hk',rfl⟩, ?_,⟨rfl, ?_⟩, ?_⟩,by omega,by first | omega | (simp only; omega)⟩
  ·simp[DRow.o_eq,AU,CO,AO,CV]
  ·rw[A8,hset]; exact hg _
  ·rw[A8,hset]; rfl
 ·have hk':k=xs.length:=by simp at h; omega
  subst hk'
  rw[Fq]
  simp only[go_sem]
  try simp[A7]
theorem Xz (xs:List DRow) (hf:fitS IR xs):Ctr prog 174 [.c (.sl (xs.map DRow.c))] [.own 204 2 (xs.map DRow.o) true]:=yH xs hf.1 fun x hx=>AAf x (hf.2 x hx)
theorem sJ (xs:List DPred) (hf:xs.length≤1048576) (hx:∀ x∈xs,Ctr prog 76 [.agg x.c] [.agg x.o]):Ctr prog 144 [.c (.sl (xs.map DPred.c))] [.own 71 7 (xs.map DPred.o) true]:=by
 refine CM call144 func144 ntmps144 results144 fun _=>?_
 have hc:(0:Int)≤xs.length∧(xs.length:Int)≤xs.length∧(xs.length:Int)≤2147483648:=by omega
 simp only[go_sem,ae,hc,qx]
 have hg:=fun k=>@Ie _ DPred.o DPred.o_nr [.v (.int .i64 0),.v (.int .i64 0),.v (.int .i64 0),.v (.int .i64 0),.v (.int .i64 0),.v (.string ByteArray.empty),.v (.slice none 0 0)] rfl xs k 71 7 true true
 refine LoopA.mk 1 0 [0,3,4] (A:=Nat) (fun k=>⟨23,[(0,.c (.sl (xs.map DPred.c))),(3,.c (.ref 0)),(4,.c (.v (.int .i64 k)))],[⟨71,7,grow (xs.map DPred.o) [.v (.int .i64 0),.v (.int .i64 0),.v (.int .i64 0),.v (.int .i64 0),.v (.int .i64 0),.v (.string ByteArray.empty),.v (.slice none 0 0)] k,true,true⟩]⟩) (fun k=>k≤xs.length) (fun k=>xs.length-k) 0 ⟨⟨rfl,by have:=hg 0; simp only[Bv,ae] at this; exact this⟩,by simp only[Bv,ae]; rfl,ax _⟩ ?_
 intro k hk
 simp only[go_sem,ae]
 refine cndC.mk (fun h=>?_) (fun h=>?_)
 ·have hk':k<xs.length:=by simpa using h
  have hset:=@Fj _ DPred.o xs [.v (.int .i64 0),.v (.int .i64 0),.v (.int .i64 0),.v (.int .i64 0),.v (.int .i64 0),.v (.string ByteArray.empty),.v (.slice none 0 0)] k hk'
  simp only[go_sem,AA _ hk',BU hk,DN hk',hk',wrap_i64 (n:=(k:Int)+1) (by omega) (by omega)]
  refine CW (hx xs[k] (aj hk')) fun _=>?_
  simp only[go_sem,AA _ hk',BU hk,DN hk',hk',wrap_i64 (n:=(k:Int)+1) (by omega) (by omega)]
  refine⟨k+1,.inr ⟨k,grow (xs.map DPred.o) [.v (.int .i64 0),.v (.int .i64 0),.v (.int .i64 0),.v (.int .i64 0),.v (.int .i64 0),.v (.string ByteArray.empty),.v (.slice none 0 0)] k,_,DPred.o xs[k],_,⟨aaU,rfl,rfl,by rw[BU hk]; exact hk',rfl⟩, ?_,⟨rfl, ?_⟩, ?_⟩,by omega,by first | omega | (simp only; omega)⟩
  ·simp[DPred.o_eq,AU,CO,AO,DVal.c_eq,BG]
  ·rw[A8,hset]; exact hg _
  ·rw[A8,hset]; rfl
 ·have hk':k=xs.length:=by simp at h; omega
  subst hk'
  rw[Fq]
  simp only[go_sem]
  try simp[BG]
theorem iT (d:DPred) (hf:Aq d) (hx:∀ x∈d.l,Ctr prog 76 [.agg x.c] [.agg x.o]):Ctr prog 76 [.agg d.c] [.agg d.o]:=by
 rw[BP] at hf
 obtain⟨f0,f1⟩:=hf
 refine CM call76 func76 ntmps76 results76 fun _=>?_
 simp only[go_sem]
 refine CW (JU d.v f0) fun _=>?_
 simp only[go_sem]
 refine CW (sJ d.l f1.1 hx) fun _=>?_
 simp only[go_sem]
 try simp[AU,CO,AO,Df,DPred.o_eq]
theorem PT:∀ (n:Nat) (d:DPred),SizeOf.sizeOf d≤n→Aq d→Ctr prog 76 [.agg d.c] [.agg d.o]
 | 0,d,h,_=>by cases d; simp at h
 | n+1,d,h,hf=>iT d hf fun x hx=>PT n x (by
  have h1:SizeOf.sizeOf x<SizeOf.sizeOf d.l:=v_ hx
  have h2:SizeOf.sizeOf d.l<SizeOf.sizeOf d:=by cases d; simp[DPred.l]; omega
  omega) (by rw[BP] at hf; exact(hf.2).2 x hx)
theorem yI (d:DPred) (hf:Aq d):Ctr prog 76 [.agg d.c] [.agg d.o]:=PT _ d (aN _) hf
theorem X0 (d:DQuery) (hf:Dv d):Ctr prog 21 [.agg d.c] [.agg d.o]:=by
 rw[Ey] at hf
 obtain⟨f0,f1⟩:=hf
 refine CM call21 func21 ntmps21 results21 fun _=>?_
 simp only[go_sem]
 refine CW (yI d.p f0) fun _=>?_
 simp only[go_sem]
 refine CW (OG d.out f1) fun _=>?_
 simp only[go_sem]
 try simp[AU,CO,AO,Df,DQuery.o_eq]
theorem mg (d:DResult) (hf:JM d):Ctr prog 175 [.agg d.c] [.agg d.o]:=by
 rw[KR] at hf
 obtain⟨f0,f1⟩:=hf
 refine CM call175 func175 ntmps175 results175 fun _=>?_
 simp only[go_sem]
 refine CW (Xz d.rows f0) fun _=>?_
 simp only[go_sem]
 refine CW (JU d.v f1) fun _=>?_
 simp only[go_sem]
 try simp[AU,CO,AO,Df,DResult.o_eq]
theorem yJ (d:DSlot) (hf:MF d):Ctr prog 248 [.agg d.c] [.agg d.o]:=by
 rw[LM] at hf
 have f0:=hf
 refine CM call248 func248 ntmps248 results248 fun _=>?_
 simp only[go_sem]
 refine CW (OH d.l f0.1 fun x hx=>JU x (f0.2 x hx)) fun _=>?_
 simp only[go_sem]
 try simp[AU,CO,AO,Df,DSlot.o_eq]
theorem sK (xs:List DSlot) (hf:xs.length≤1048576) (hx:∀ x∈xs,Ctr prog 248 [.agg x.c] [.agg x.o]):Ctr prog 221 [.c (.sl (xs.map DSlot.c))] [.own 199 2 (xs.map DSlot.o) true]:=by
 refine CM call221 func221 ntmps221 results221 fun _=>?_
 have hc:(0:Int)≤xs.length∧(xs.length:Int)≤xs.length∧(xs.length:Int)≤2147483648:=by omega
 simp only[go_sem,ae,hc,qx]
 have hg:=fun k=>@Ie _ DSlot.o DSlot.o_nr [.v (.int .i64 0),.v (.slice none 0 0)] rfl xs k 199 2 true true
 refine LoopA.mk 1 0 [0,3,4] (A:=Nat) (fun k=>⟨23,[(0,.c (.sl (xs.map DSlot.c))),(3,.c (.ref 0)),(4,.c (.v (.int .i64 k)))],[⟨199,2,grow (xs.map DSlot.o) [.v (.int .i64 0),.v (.slice none 0 0)] k,true,true⟩]⟩) (fun k=>k≤xs.length) (fun k=>xs.length-k) 0 ⟨⟨rfl,by have:=hg 0; simp only[Bv,ae] at this; exact this⟩,by simp only[Bv,ae]; rfl,ax _⟩ ?_
 intro k hk
 simp only[go_sem,ae]
 refine cndC.mk (fun h=>?_) (fun h=>?_)
 ·have hk':k<xs.length:=by simpa using h
  have hset:=@Fj _ DSlot.o xs [.v (.int .i64 0),.v (.slice none 0 0)] k hk'
  simp only[go_sem,AA _ hk',BU hk,DN hk',hk',wrap_i64 (n:=(k:Int)+1) (by omega) (by omega)]
  refine CW (hx xs[k] (aj hk')) fun _=>?_
  simp only[go_sem,AA _ hk',BU hk,DN hk',hk',wrap_i64 (n:=(k:Int)+1) (by omega) (by omega)]
  refine⟨k+1,.inr ⟨k,grow (xs.map DSlot.o) [.v (.int .i64 0),.v (.slice none 0 0)] k,_,DSlot.o xs[k],_,⟨aaU,rfl,rfl,by rw[BU hk]; exact hk',rfl⟩, ?_,⟨rfl, ?_⟩, ?_⟩,by omega,by first | omega | (simp only; omega)⟩
  ·simp[DSlot.o_eq,AU,CO,AO,CV]
  ·rw[A8,hset]; exact hg _
  ·rw[A8,hset]; rfl
 ·have hk':k=xs.length:=by simp at h; omega
  subst hk'
  rw[Fq]
  simp only[go_sem]
  try simp[FY]
theorem mi (xs:List DSlot) (hf:fitS MF xs):Ctr prog 221 [.c (.sl (xs.map DSlot.c))] [.own 199 2 (xs.map DSlot.o) true]:=sK xs hf.1 fun x hx=>yJ x (hf.2 x hx)
theorem sN (d:DChunk) (hf:Gg d):Ctr prog 172 [.agg d.c] [.agg d.o]:=by
 rw[Ez] at hf
 have f0:=hf
 refine CM call172 func172 ntmps172 results172 fun _=>?_
 simp only[go_sem]
 refine CW (mi d.l f0) fun _=>?_
 simp only[go_sem]
 try simp[AU,CO,AO,Df,DChunk.o_eq]
theorem AAg (d:DBuf) (hf:Io d):Ctr prog 101 [.agg d.c] [.agg d.o]:=by
 rw[Ht] at hf
 obtain⟨f0,f1⟩:=hf
 refine CM call101 func101 ntmps101 results101 fun _=>?_
 simp only[go_sem]
 refine CW (sN d.c0 f0) fun _=>?_
 simp only[go_sem]
 refine CW (l_ d.g f1) fun _=>?_
 simp only[go_sem]
 try simp[AU,CO,AO,Df,DBuf.o_eq]
theorem yK (xs:List DBuf) (hf:xs.length≤1048576) (hx:∀ x∈xs,Ctr prog 101 [.agg x.c] [.agg x.o]):Ctr prog 39 [.c (.sl (xs.map DBuf.c))] [.own 160 5 (xs.map DBuf.o) true]:=by
 refine CM call39 func39 ntmps39 results39 fun _=>?_
 have hc:(0:Int)≤xs.length∧(xs.length:Int)≤xs.length∧(xs.length:Int)≤2147483648:=by omega
 simp only[go_sem,ae,hc,qx]
 have hg:=fun k=>@Ie _ DBuf.o DBuf.o_nr [.v (.int .i64 0),.v (.int .i64 0),.v (.int .i64 0),.v (.slice none 0 0),.v (.slice none 0 0)] rfl xs k 160 5 true true
 refine LoopA.mk 1 0 [0,3,4] (A:=Nat) (fun k=>⟨23,[(0,.c (.sl (xs.map DBuf.c))),(3,.c (.ref 0)),(4,.c (.v (.int .i64 k)))],[⟨160,5,grow (xs.map DBuf.o) [.v (.int .i64 0),.v (.int .i64 0),.v (.int .i64 0),.v (.slice none 0 0),.v (.slice none 0 0)] k,true,true⟩]⟩) (fun k=>k≤xs.length) (fun k=>xs.length-k) 0 ⟨⟨rfl,by have:=hg 0; simp only[Bv,ae] at this; exact this⟩,by simp only[Bv,ae]; rfl,ax _⟩ ?_
 intro k hk
 simp only[go_sem,ae]
 refine cndC.mk (fun h=>?_) (fun h=>?_)
 ·have hk':k<xs.length:=by simpa using h
  have hset:=@Fj _ DBuf.o xs [.v (.int .i64 0),.v (.int .i64 0),.v (.int .i64 0),.v (.slice none 0 0),.v (.slice none 0 0)] k hk'
  simp only[go_sem,AA _ hk',BU hk,DN hk',hk',wrap_i64 (n:=(k:Int)+1) (by omega) (by omega)]
  refine CW (hx xs[k] (aj hk')) fun _=>?_
  simp only[go_sem,AA _ hk',BU hk,DN hk',hk',wrap_i64 (n:=(k:Int)+1) (by omega) (by omega)]
  refine⟨k+1,.inr ⟨k,grow (xs.map DBuf.o) [.v (.int .i64 0),.v (.int .i64 0),.v (.int .i64 0),.v (.slice none 0 0),.v (.slice none 0 0)] k,_,DBuf.o xs[k],_,⟨aaU,rfl,rfl,by rw[BU hk]; exact hk',rfl⟩, ?_,⟨rfl, ?_⟩, ?_⟩,by omega,by first | omega | (simp only; omega)⟩
  ·simp[DBuf.o_eq,AU,CO,AO,DChunk.o_eq,DChunk.c_eq,FY,Bg]
  ·rw[A8,hset]; exact hg _
  ·rw[A8,hset]; rfl
 ·have hk':k=xs.length:=by simp at h; omega
  subst hk'
  rw[Fq]
  simp only[go_sem]
  try simp[DY]
theorem sO (xs:List DBuf) (hf:fitS Io xs):Ctr prog 39 [.c (.sl (xs.map DBuf.c))] [.own 160 5 (xs.map DBuf.o) true]:=yK xs hf.1 fun x hx=>AAg x (hf.2 x hx)
theorem AAh (d:DDir) (hf:RY d):Ctr prog 38 [.agg d.c] [.agg d.o]:=by
 rw[K_] at hf
 have f0:=hf
 refine CM call38 func38 ntmps38 results38 fun _=>?_
 simp only[go_sem]
 refine CW (Xr d.l f0 fun x hx=>Xq x) fun _=>?_
 simp only[go_sem]
 try simp[AU,CO,AO,Df,DDir.o_eq]
theorem yL (d:DTask) (hf:Ef d):Ctr prog 103 [.agg d.c] [.agg d.o]:=by
 rw[Di] at hf
 obtain⟨f0,f1,f2,f3⟩:=hf
 refine CM call103 func103 ntmps103 results103 fun _=>?_
 simp only[go_sem]
 refine CW (OH d.r f0.1 fun x hx=>JU x (f0.2 x hx)) fun _=>?_
 simp only[go_sem]
 refine CW (X0 d.q f1) fun _=>?_
 simp only[go_sem]
 refine CW (Xr d.l f2 fun x hx=>Xq x) fun _=>?_
 simp only[go_sem]
 refine CW (Xz d.got f3) fun _=>?_
 simp only[go_sem]
 try simp[AU,CO,AO,Df,DTask.o_eq]
def Uy:List Cl:=[.v (.int .i64 0),.v (.int .i64 0),.v (.int .i64 0),.v (.slice none 0 0),.v (.int .i64 0),.v (.int .i64 0),.v (.int .i64 0),.v (.int .i64 0),.v (.int .i64 0),.v (.int .i64 0),.v (.int .i64 0),.v (.string ByteArray.empty),.v (.slice none 0 0),.v (.int .i64 0),.v (.slice none 0 0),.v (.int .i64 0),.v (.int .i64 0),.v (.slice none 0 0),.v (.int .i64 0),.v (.int .i64 0),.v (.int .i64 0),.v (.int .i64 0),.v (.int .i64 0),.v (.bool false),.v (.slice none 0 0)]
theorem sQ (xs:List DTask) (hf:xs.length≤1048576) (hx:∀ x∈xs,Ctr prog 103 [.agg x.c] [.agg x.o]):Ctr prog 42 [.c (.sl (xs.map DTask.c))] [.own 142 25 (xs.map DTask.o) true]:=by
 refine CM call42 func42 ntmps42 results42 fun _=>?_
 have hc:(0:Int)≤xs.length∧(xs.length:Int)≤xs.length∧(xs.length:Int)≤2147483648:=by omega
 simp only[go_sem,ae,hc,qx]
 have hg:=fun k=>@Ie _ DTask.o DTask.o_nr Uy rfl xs k 142 25 true true
 refine LoopA.mk 1 0 [0,3,4] (A:=Nat) (fun k=>⟨23,[(0,.c (.sl (xs.map DTask.c))),(3,.c (.ref 0)),(4,.c (.v (.int .i64 k)))],[⟨142,25,grow (xs.map DTask.o) Uy k,true,true⟩]⟩) (fun k=>k≤xs.length) (fun k=>xs.length-k) 0 ⟨⟨rfl,by have:=hg 0; simp only[Bv,ae] at this; exact this⟩,by simp only[Bv,ae]; rfl,ax _⟩ ?_
 intro k hk
 simp only[go_sem,ae]
 refine cndC.mk (fun h=>?_) (fun h=>?_)
 ·have hk':k<xs.length:=by simpa using h
  have hset:=@Fj _ DTask.o xs Uy k hk'
  simp only[go_sem,AA _ hk',BU hk,DN hk',hk',wrap_i64 (n:=(k:Int)+1) (by omega) (by omega),Uy]
  refine CW (hx xs[k] (aj hk')) fun _=>?_
  simp only[go_sem,AA _ hk',BU hk,DN hk',hk',wrap_i64 (n:=(k:Int)+1) (by omega) (by omega),Uy]
  refine⟨k+1,.inr ⟨k,grow (xs.map DTask.o) Uy k,_,DTask.o xs[k],_,⟨aaU,rfl,rfl,by rw[BU hk]; exact hk',rfl⟩, ?_,⟨rfl, ?_⟩, ?_⟩,by omega,by first | omega | (simp only; omega)⟩
  ·simp[DTask.o_eq,AU,CO,AO,DPred.o_eq,DPred.c_eq,DQuery.o_eq,DQuery.c_eq,DVal.c_eq,BG,ER,A7,CV,Am]
  ·rw[A8,hset]; exact hg _
  ·rw[A8,hset]; rfl
 ·have hk':k=xs.length:=by simp at h; omega
  subst hk'
  rw[Fq]
  simp only[go_sem]
  try simp[FZ]
theorem mr (xs:List DTask) (hf:fitS Ef xs):Ctr prog 42 [.c (.sl (xs.map DTask.c))] [.own 142 25 (xs.map DTask.o) true]:=sQ xs hf.1 fun x hx=>yL x (hf.2 x hx)
theorem yM (d:DDeed) (hf:ED d):Ctr prog 104 [.agg d.c] [.agg d.o]:=by
 rw[FP] at hf
 obtain⟨f0,f1,f2⟩:=hf
 refine CM call104 func104 ntmps104 results104 fun _=>?_
 simp only[go_sem]
 refine CW (OH d.r f0.1 fun x hx=>JU x (f0.2 x hx)) fun _=>?_
 simp only[go_sem]
 refine CW (X0 d.q f1) fun _=>?_
 simp only[go_sem]
 refine CW (mg d.res f2) fun _=>?_
 simp only[go_sem]
 try simp[AU,CO,AO,Df,DDeed.o_eq]
def Uz:List Cl:=[.v (.int .i64 0),.v (.int .i64 0),.v (.slice none 0 0),.v (.int .i64 0),.v (.int .i64 0),.v (.int .i64 0),.v (.int .i64 0),.v (.int .i64 0),.v (.int .i64 0),.v (.int .i64 0),.v (.string ByteArray.empty),.v (.slice none 0 0),.v (.int .i64 0),.v (.slice none 0 0),.v (.slice none 0 0),.v (.int .i64 0),.v (.bool false),.v (.int .i64 0),.v (.int .i64 0),.v (.string ByteArray.empty),.v (.int .i64 0),.v (.int .i64 0),.v (.int .i64 0),.v (.int .i64 0),.v (.int .i64 0)]
theorem sS (xs:List DDeed) (hf:xs.length≤1048576) (hx:∀ x∈xs,Ctr prog 104 [.agg x.c] [.agg x.o]):Ctr prog 43 [.c (.sl (xs.map DDeed.c))] [.own 153 25 (xs.map DDeed.o) true]:=by
 refine CM call43 func43 ntmps43 results43 fun _=>?_
 have hc:(0:Int)≤xs.length∧(xs.length:Int)≤xs.length∧(xs.length:Int)≤2147483648:=by omega
 simp only[go_sem,ae,hc,qx]
 have hg:=fun k=>@Ie _ DDeed.o DDeed.o_nr Uz rfl xs k 153 25 true true
 refine LoopA.mk 1 0 [0,3,4] (A:=Nat) (fun k=>⟨23,[(0,.c (.sl (xs.map DDeed.c))),(3,.c (.ref 0)),(4,.c (.v (.int .i64 k)))],[⟨153,25,grow (xs.map DDeed.o) Uz k,true,true⟩]⟩) (fun k=>k≤xs.length) (fun k=>xs.length-k) 0 ⟨⟨rfl,by have:=hg 0; simp only[Bv,ae] at this; exact this⟩,by simp only[Bv,ae]; rfl,ax _⟩ ?_
 intro k hk
 simp only[go_sem,ae]
 refine cndC.mk (fun h=>?_) (fun h=>?_)
 ·have hk':k<xs.length:=by simpa using h
  have hset:=@Fj _ DDeed.o xs Uz k hk'
  simp only[go_sem,AA _ hk',BU hk,DN hk',hk',wrap_i64 (n:=(k:Int)+1) (by omega) (by omega),Uz]
  refine CW (hx xs[k] (aj hk')) fun _=>?_
  simp only[go_sem,AA _ hk',BU hk,DN hk',hk',wrap_i64 (n:=(k:Int)+1) (by omega) (by omega),Uz]
  refine⟨k+1,.inr ⟨k,grow (xs.map DDeed.o) Uz k,_,DDeed.o xs[k],_,⟨aaU,rfl,rfl,by rw[BU hk]; exact hk',rfl⟩, ?_,⟨rfl, ?_⟩, ?_⟩,by omega,by first | omega | (simp only; omega)⟩
  ·simp[DDeed.o_eq,AU,CO,AO,DPred.o_eq,DPred.c_eq,DQuery.o_eq,DQuery.c_eq,DResult.o_eq,DResult.c_eq,DVal.c_eq,BG,A7,CV,Am]
  ·rw[A8,hset]; exact hg _
  ·rw[A8,hset]; rfl
 ·have hk':k=xs.length:=by simp at h; omega
  subst hk'
  rw[Fq]
  simp only[go_sem]
  try simp[Iy]
theorem m_ (xs:List DDeed) (hf:fitS ED xs):Ctr prog 43 [.c (.sl (xs.map DDeed.c))] [.own 153 25 (xs.map DDeed.o) true]:=sS xs hf.1 fun x hx=>yM x (hf.2 x hx)
theorem yN (d:DConf) (hf:OA d):Ctr prog 37 [.agg d.c] [.agg d.o]:=by
 rw[JO] at hf
 have f0:=hf
 refine CM call37 func37 ntmps37 results37 fun _=>?_
 simp only[go_sem]
 refine CW (OG d.cols f0) fun _=>?_
 simp only[go_sem]
 try simp[AU,CO,AO,Df,DConf.o_eq]
theorem X3 (d:DWorld) (hf:Aa d):Ctr prog 8 [.agg d.c] [.agg d.o]:=by
 rw[BI] at hf
 obtain⟨f0,f1,f2,f3,f4,f5,f6,f7⟩:=hf
 refine CM call8 func8 ntmps8 results8 fun _=>?_
 simp only[go_sem]
 refine CW (yN d.c0 f0) fun _=>?_
 simp only[go_sem]
 refine CW (AAh d.d f1) fun _=>?_
 simp only[go_sem]
 refine CW (sO d.b f2) fun _=>?_
 simp only[go_sem]
 refine CW (OG d.m f3) fun _=>?_
 simp only[go_sem]
 refine CW (mF d.x f4 fun x hx=>mD x) fun _=>?_
 simp only[go_sem]
 refine CW (OG d.p f5) fun _=>?_
 simp only[go_sem]
 refine CW (mr d.tasks f6) fun _=>?_
 simp only[go_sem]
 refine CW (m_ d.deeds f7) fun _=>?_
 simp only[go_sem]
 try simp[AU,CO,AO,Df,DWorld.o_eq]
theorem GN (d:DWorld) (hf:Aa d):Ctr prog 8 [.agg d.c] [.val (.agg d.c)]:=(X3 d hf).aggVal d.o_er
end Go.Proofs.YtnfbaclikokapaaGreat
