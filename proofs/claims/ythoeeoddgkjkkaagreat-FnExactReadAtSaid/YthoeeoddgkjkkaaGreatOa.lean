/- The laws' arguments as memory of their own: by program (gen_data.py). -/
import Derived.Test.YthoeeoddgkjkkaaGreatFa
namespace Go.Proofs.YthoeeoddgkjkkaaGreat
set_option linter.unusedSimpArgs false
set_option linter.unusedVariables false
open Go.Vm
set_option maxHeartbeats 1000000
set_option maxRecDepth 10000
@[go_sem] theorem Bj (l:List Int):CY (l.map intC)=true:=BZ (AL intC.pure)
theorem D9 (l:List Int):Kz (l.map intC)=l.map intC:=Fe (AL intC.pure)
@[go_sem] theorem Bz (l:List Int):CY (l.map byteC)=true:=BZ (AL byteC.pure)
theorem nY (l:List Int):Kz (l.map byteC)=l.map byteC:=Fe (AL byteC.pure)
@[go_sem] theorem Bl (l:List DVal):CY (l.map DVal.c)=true:=BZ (AL DVal.pure)
theorem FW (l:List DVal):Kz (l.map DVal.c)=l.map DVal.c:=Fe (AL DVal.pure)
theorem eY (d:DVal):IK d.c=d.c:=Ls (DVal.pure d)
def DRow.o (d:DRow):List Cl:=[.v (.int .i64 d.id)]++([.ow 72 3 (d.l.map DVal.c)])
@[go_sem] theorem DRow.o_eq (d:DRow):d.o = [.v (.int .i64 d.id)]++([.ow 72 3 (d.l.map DVal.c)]):=rfl
theorem DRow.o_nr (d:DRow):d.o.all Jq=true:=by
 rw[DRow.o_eq]
 simp[List.all_append,Jq]
@[go_sem] theorem AX (l:List DRow):CY (l.map DRow.o)=true:=GM DRow.o_nr
theorem DRow.o_er (d:DRow):IK d.o=d.c:=by
 rw[DRow.o_eq,DRow.c_eq]
 simp[Fv,IK,er,FW]
theorem Bg (l:List DRow):Kz (l.map DRow.o)=l.map DRow.c:=Jt DRow.o_er l
mutual
def DPred.o:DPred→List Cl
 | .mk kind col op v l=>[.v (.int .i64 kind)]++([.v (.int .i64 col)]++([.v (.int .i64 op)]++(v.c++([.ow 78 7 (DPred.oL l)]))))
def DPred.oL:List DPred→List (List Cl)
 | []=>[]
 | x::xs=>DPred.o x::DPred.oL xs
end
theorem DPred.oL_eq:∀ l:List DPred,DPred.oL l=l.map DPred.o
 | []=>rfl
 | x::xs=>by simp[DPred.oL,DPred.oL_eq xs]
@[go_sem] theorem DPred.o_eq (d:DPred):d.o = [.v (.int .i64 d.kind)]++([.v (.int .i64 d.col)]++([.v (.int .i64 d.op)]++(d.v.c++([.ow 78 7 (d.l.map DPred.o)])))):=by
 cases d
 simp only[DPred.o,DPred.oL_eq]
 rfl
theorem DPred.o_nr (d:DPred):d.o.all Jq=true:=by
 rw[DPred.o_eq]
 simp[List.all_append,Jq,DVal.c_eq]
@[go_sem] theorem Gu (l:List DPred):CY (l.map DPred.o)=true:=GM DPred.o_nr
theorem DPred.o_er_fuel:∀ (n:Nat) (d:DPred),SizeOf.sizeOf d≤n→IK d.o=d.c
 | 0,d,h=>by cases d; simp at h
 | n+1,d,h=>by
  have hm:Kz (d.l.map DPred.o)=d.l.map DPred.c:=by
   rw[XI]
   refine List.map_congr_left fun x hx=>DPred.o_er_fuel n x ?_
   have h1:SizeOf.sizeOf x<SizeOf.sizeOf d.l:=List.sizeOf_lt_of_mem hx
   have h2:SizeOf.sizeOf d.l<SizeOf.sizeOf d:=by cases d; simp[DPred.l]; omega
   omega
  rw[DPred.o_eq,DPred.c_eq]
  simp[Fv,IK,er,hm,eY]
theorem DPred.o_er (d:DPred):IK d.o=d.c:=DPred.o_er_fuel _ d (Nat.le_refl _)
theorem Ec (l:List DPred):Kz (l.map DPred.o)=l.map DPred.c:=Jt DPred.o_er l
def DQuery.o (d:DQuery):List Cl:=[.v (.int .i64 d.kind)]++(d.p.o++([.v (.int .i64 d.col)]++([.ow 3 1 (d.out.map intC)])))
@[go_sem] theorem DQuery.o_eq (d:DQuery):d.o = [.v (.int .i64 d.kind)]++(d.p.o++([.v (.int .i64 d.col)]++([.ow 3 1 (d.out.map intC)]))):=rfl
theorem DQuery.o_nr (d:DQuery):d.o.all Jq=true:=by
 rw[DQuery.o_eq]
 simp[List.all_append,Jq,DPred.o_nr]
@[go_sem] theorem AAl (l:List DQuery):CY (l.map DQuery.o)=true:=GM DQuery.o_nr
theorem DQuery.o_er (d:DQuery):IK d.o=d.c:=by
 rw[DQuery.o_eq,DQuery.c_eq]
 simp[Fv,IK,er,DPred.o_er,D9]
def DResult.o (d:DResult):List Cl:=[.ow 121 2 (d.rows.map DRow.o)]++([.v (.int .i64 d.n)]++([.v (.bool d.has)]++(d.v.c)))
@[go_sem] theorem DResult.o_eq (d:DResult):d.o = [.ow 121 2 (d.rows.map DRow.o)]++([.v (.int .i64 d.n)]++([.v (.bool d.has)]++(d.v.c))):=rfl
theorem DResult.o_nr (d:DResult):d.o.all Jq=true:=by
 rw[DResult.o_eq]
 simp[List.all_append,Jq,DVal.c_eq]
@[go_sem] theorem xH (l:List DResult):CY (l.map DResult.o)=true:=GM DResult.o_nr
theorem DResult.o_er (d:DResult):IK d.o=d.c:=by
 rw[DResult.o_eq,DResult.c_eq]
 simp[Fv,IK,er,Bg,eY]
def DSlot.o (d:DSlot):List Cl:=[.v (.int .i64 d.ins)]++([.ow 72 3 (d.l.map DVal.c)])
@[go_sem] theorem DSlot.o_eq (d:DSlot):d.o = [.v (.int .i64 d.ins)]++([.ow 72 3 (d.l.map DVal.c)]):=rfl
theorem DSlot.o_nr (d:DSlot):d.o.all Jq=true:=by
 rw[DSlot.o_eq]
 simp[List.all_append,Jq]
@[go_sem] theorem Wu (l:List DSlot):CY (l.map DSlot.o)=true:=GM DSlot.o_nr
theorem DSlot.o_er (d:DSlot):IK d.o=d.c:=by
 rw[DSlot.o_eq,DSlot.c_eq]
 simp[Fv,IK,er,FW]
theorem kJ (l:List DSlot):Kz (l.map DSlot.o)=l.map DSlot.c:=Jt DSlot.o_er l
def DChunk.o (d:DChunk):List Cl:=[.v (.int .i64 d.next)]++([.ow 162 2 (d.l.map DSlot.o)])
@[go_sem] theorem DChunk.o_eq (d:DChunk):d.o = [.v (.int .i64 d.next)]++([.ow 162 2 (d.l.map DSlot.o)]):=rfl
theorem DChunk.o_nr (d:DChunk):d.o.all Jq=true:=by
 rw[DChunk.o_eq]
 simp[List.all_append,Jq]
@[go_sem] theorem AAm (l:List DChunk):CY (l.map DChunk.o)=true:=GM DChunk.o_nr
theorem DChunk.o_er (d:DChunk):IK d.o=d.c:=by
 rw[DChunk.o_eq,DChunk.c_eq]
 simp[Fv,IK,er,kJ]
def DBuf.o (d:DBuf):List Cl:=[.v (.int .i64 d.gen)]++([.v (.int .i64 d.kind)]++(d.c0.o++([.ow 5 1 (d.g.map byteC)])))
@[go_sem] theorem DBuf.o_eq (d:DBuf):d.o = [.v (.int .i64 d.gen)]++([.v (.int .i64 d.kind)]++(d.c0.o++([.ow 5 1 (d.g.map byteC)]))):=rfl
theorem DBuf.o_nr (d:DBuf):d.o.all Jq=true:=by
 rw[DBuf.o_eq]
 simp[List.all_append,Jq,DChunk.o_nr]
@[go_sem] theorem Wv (l:List DBuf):CY (l.map DBuf.o)=true:=GM DBuf.o_nr
theorem DBuf.o_er (d:DBuf):IK d.o=d.c:=by
 rw[DBuf.o_eq,DBuf.c_eq]
 simp[Fv,IK,er,DChunk.o_er,nY]
theorem FM (l:List DBuf):Kz (l.map DBuf.o)=l.map DBuf.c:=Jt DBuf.o_er l
@[go_sem] theorem Wx (l:List DDead):CY (l.map DDead.c)=true:=BZ (AL DDead.pure)
theorem FN (l:List DDead):Kz (l.map DDead.c)=l.map DDead.c:=Fe (AL DDead.pure)
@[go_sem] theorem QI (l:List DRef):CY (l.map DRef.c)=true:=BZ (AL DRef.pure)
theorem GU (l:List DRef):Kz (l.map DRef.c)=l.map DRef.c:=Fe (AL DRef.pure)
def DDir.o (d:DDir):List Cl:=[.v (.int .i64 d.ver)]++([.ow 56 5 (d.l.map DRef.c)])
@[go_sem] theorem DDir.o_eq (d:DDir):d.o = [.v (.int .i64 d.ver)]++([.ow 56 5 (d.l.map DRef.c)]):=rfl
theorem DDir.o_nr (d:DDir):d.o.all Jq=true:=by
 rw[DDir.o_eq]
 simp[List.all_append,Jq]
@[go_sem] theorem AFd (l:List DDir):CY (l.map DDir.o)=true:=GM DDir.o_nr
theorem DDir.o_er (d:DDir):IK d.o=d.c:=by
 rw[DDir.o_eq,DDir.c_eq]
 simp[Fv,IK,er,GU]
def DTask.o (d:DTask):List Cl:=[.v (.int .i64 d.op)]++([.v (.int .i64 d.pc)]++([.v (.int .i64 d.h)]++([.ow 72 3 (d.r.map DVal.c)]++([.v (.int .i64 d.id)]++(d.q.o++([.v (.int .i64 d.ts)]++([.v (.int .i64 d.ver)]++([.ow 56 5 (d.l.map DRef.c)]++([.v (.int .i64 d.i)]++([.v (.int .i64 d.j)]++([.v (.int .i64 d.s)]++([.v (.int .i64 d.at0)]++([.v (.int .i64 d.own)]++([.v (.bool d.won)]++([.ow 121 2 (d.got.map DRow.o)])))))))))))))))
@[go_sem] theorem DTask.o_eq (d:DTask):d.o = [.v (.int .i64 d.op)]++([.v (.int .i64 d.pc)]++([.v (.int .i64 d.h)]++([.ow 72 3 (d.r.map DVal.c)]++([.v (.int .i64 d.id)]++(d.q.o++([.v (.int .i64 d.ts)]++([.v (.int .i64 d.ver)]++([.ow 56 5 (d.l.map DRef.c)]++([.v (.int .i64 d.i)]++([.v (.int .i64 d.j)]++([.v (.int .i64 d.s)]++([.v (.int .i64 d.at0)]++([.v (.int .i64 d.own)]++([.v (.bool d.won)]++([.ow 121 2 (d.got.map DRow.o)]))))))))))))))):=rfl
theorem DTask.o_nr (d:DTask):d.o.all Jq=true:=by
 rw[DTask.o_eq]
 simp[List.all_append,Jq,DQuery.o_nr]
@[go_sem] theorem SH (l:List DTask):CY (l.map DTask.o)=true:=GM DTask.o_nr
theorem DTask.o_er (d:DTask):IK d.o=d.c:=by
 rw[DTask.o_eq,DTask.c_eq]
 simp[Fv,IK,er,DQuery.o_er,Bg,GU,FW]
theorem EH (l:List DTask):Kz (l.map DTask.o)=l.map DTask.c:=Jt DTask.o_er l
def DDeed.o (d:DDeed):List Cl:=[.v (.int .i64 d.op)]++([.v (.int .i64 d.task)]++([.ow 72 3 (d.r.map DVal.c)]++([.v (.int .i64 d.id)]++(d.q.o++(d.res.o++([.v (.int .i64 d.code)]++([.v (.int .i64 d.stamp)]++([.v (.int .i64 d.inv)]++([.v (.int .i64 d.lin)]++([.v (.int .i64 d.ret)]))))))))))
@[go_sem] theorem DDeed.o_eq (d:DDeed):d.o = [.v (.int .i64 d.op)]++([.v (.int .i64 d.task)]++([.ow 72 3 (d.r.map DVal.c)]++([.v (.int .i64 d.id)]++(d.q.o++(d.res.o++([.v (.int .i64 d.code)]++([.v (.int .i64 d.stamp)]++([.v (.int .i64 d.inv)]++([.v (.int .i64 d.lin)]++([.v (.int .i64 d.ret)])))))))))):=rfl
theorem DDeed.o_nr (d:DDeed):d.o.all Jq=true:=by
 rw[DDeed.o_eq]
 simp[List.all_append,Jq,DQuery.o_nr,DResult.o_nr]
@[go_sem] theorem SI (l:List DDeed):CY (l.map DDeed.o)=true:=GM DDeed.o_nr
theorem DDeed.o_er (d:DDeed):IK d.o=d.c:=by
 rw[DDeed.o_eq,DDeed.c_eq]
 simp[Fv,IK,er,DQuery.o_er,DResult.o_er,FW]
theorem EI (l:List DDeed):Kz (l.map DDeed.o)=l.map DDeed.c:=Jt DDeed.o_er l
def DConf.o (d:DConf):List Cl:=[.ow 3 1 (d.cols.map intC)]++([.v (.int .i64 d.slots)]++([.v (.int .i64 d.bufs)]))
@[go_sem] theorem DConf.o_eq (d:DConf):d.o = [.ow 3 1 (d.cols.map intC)]++([.v (.int .i64 d.slots)]++([.v (.int .i64 d.bufs)])):=rfl
theorem DConf.o_nr (d:DConf):d.o.all Jq=true:=by
 rw[DConf.o_eq]
 simp[List.all_append,Jq]
@[go_sem] theorem ADc (l:List DConf):CY (l.map DConf.o)=true:=GM DConf.o_nr
theorem DConf.o_er (d:DConf):IK d.o=d.c:=by
 rw[DConf.o_eq,DConf.c_eq]
 simp[Fv,IK,er,D9]
def DWorld.o (d:DWorld):List Cl:=d.c0.o++([.v (.int .i64 d.time)]++([.v (.int .i64 d.t)]++([.v (.int .i64 d.e)]++(d.d.o++([.ow 101 5 (d.b.map DBuf.o)]++([.ow 3 1 (d.m.map intC)]++([.ow 168 3 (d.x.map DDead.c)]++([.ow 3 1 (d.p.map intC)]++([.ow 172 25 (d.tasks.map DTask.o)]++([.ow 175 25 (d.deeds.map DDeed.o)]))))))))))
@[go_sem] theorem DWorld.o_eq (d:DWorld):d.o=d.c0.o++([.v (.int .i64 d.time)]++([.v (.int .i64 d.t)]++([.v (.int .i64 d.e)]++(d.d.o++([.ow 101 5 (d.b.map DBuf.o)]++([.ow 3 1 (d.m.map intC)]++([.ow 168 3 (d.x.map DDead.c)]++([.ow 3 1 (d.p.map intC)]++([.ow 172 25 (d.tasks.map DTask.o)]++([.ow 175 25 (d.deeds.map DDeed.o)])))))))))):=rfl
theorem DWorld.o_nr (d:DWorld):d.o.all Jq=true:=by
 rw[DWorld.o_eq]
 simp[List.all_append,Jq,DConf.o_nr,DDir.o_nr]
@[go_sem] theorem AAn (l:List DWorld):CY (l.map DWorld.o)=true:=GM DWorld.o_nr
theorem DWorld.o_er (d:DWorld):IK d.o=d.c:=by
 rw[DWorld.o_eq,DWorld.c_eq]
 simp[Fv,IK,er,DConf.o_er,DDir.o_er,FM,EI,EH,FN,D9]
theorem kK (d:DRow) (hf:BI d):Ctr Tryz.prog 185 [.agg d.c] [.agg d.o]:=by
 rw[Bf] at hf
 have f0:=hf
 refine Ctr.mk Tryz.call185 Tryz.func185 rfl mixed Tryz.ntmps185 Tryz.results185 (by kernel_rfl) rfl fun _=>?_
 simp only[go_sem]
 refine CallK.mk _ (by simpa only[go_sem] using Ir d.l f0.1 fun x hx=>Ep x (f0.2 x hx)) fun _=>?_
 simp only[go_sem]
 try simp[AU,Cc,AC,CY,DRow.o_eq]
theorem iq (xs:List DRow) (hf:xs.length≤1048576) (hx:∀ x∈xs,Ctr Tryz.prog 185 [.agg x.c] [.agg x.o]):Ctr Tryz.prog 154 [.c (.sl (xs.map DRow.c))] [.own 121 2 (xs.map DRow.o) true]:=by
 refine Ctr.mk Tryz.call154 Tryz.func154 rfl mixed Tryz.ntmps154 Tryz.results154 (by kernel_rfl) rfl fun _=>?_
 have hc:(0:Int)≤xs.length∧(xs.length:Int)≤xs.length∧(xs.length:Int)≤2147483648:=by omega
 simp only[go_sem,List.length_map,hc,List.length_replicate]
 have hg:=fun k=>@Gj _ DRow.o DRow.o_nr [.v (.int .i64 0),.v (.slice none 0 0)] rfl xs k 121 2 true true
 refine LoopA.mk 1 0 [0,3,4] (A:=Nat) (fun k=>⟨23,[(0,.c (.sl (xs.map DRow.c))),(3,.c (.ref 0)),(4,.c (.v (.int .i64 k)))],[⟨121,2,grow (xs.map DRow.o) [.v (.int .i64 0),.v (.slice none 0 0)] k,true,true⟩]⟩) (fun k=>k≤xs.length) (fun k=>xs.length-k) 0 ⟨⟨rfl,by have:=hg 0; simp only[Ai,List.length_map] at this; exact this⟩,by simp only[Ai,List.length_map]; rfl,Nat.zero_le _⟩ ?_
 intro k hk
 simp only[go_sem,List.length_map]
 refine cndC.mk (fun h=>?_) (fun h=>?_)
 ·have hk':k<xs.length:=by simpa using h
  have hset:=@Ce _ DRow.o xs [.v (.int .i64 0),.v (.slice none 0 0)] k hk'
  simp only[go_sem,AA _ hk',Ac hk,Az hk',hk',wrap_i64 (n:=(k:Int)+1) (by omega) (by omega)]
  refine CallK.mk _ (by simpa only[go_sem] using hx xs[k] (List.getElem_mem hk')) fun _=>?_
  simp only[go_sem,AA _ hk',Ac hk,Az hk',hk',wrap_i64 (n:=(k:Int)+1) (by omega) (by omega)]
  refine⟨k+1,.inr ⟨k,grow (xs.map DRow.o) [.v (.int .i64 0),.v (.slice none 0 0)] k,_,DRow.o xs[k],_,⟨Nat.zero_lt_one,rfl,rfl,by rw[Ac hk]; exact hk',rfl⟩, ?_,⟨rfl, ?_⟩, ?_⟩,by omega,by first | omega | (simp only; omega)⟩
  ·simp[DRow.o_eq,AU,Cc,AC,Bl]
  ·rw[BN,hset]; exact hg _
  ·rw[BN,hset]; rfl
 ·have hk':k=xs.length:=by simp at h; omega
  subst hk'
  rw[Cf]
  simp only[go_sem]
  try simp[AX]
theorem TP (xs:List DRow) (hf:fitS BI xs):Ctr Tryz.prog 154 [.c (.sl (xs.map DRow.c))] [.own 121 2 (xs.map DRow.o) true]:=iq xs hf.1 fun x hx=>kK x (hf.2 x hx)
theorem bI (xs:List DPred) (hf:xs.length≤1048576) (hx:∀ x∈xs,Ctr Tryz.prog 89 [.agg x.c] [.agg x.o]):Ctr Tryz.prog 136 [.c (.sl (xs.map DPred.c))] [.own 78 7 (xs.map DPred.o) true]:=by
 refine Ctr.mk Tryz.call136 Tryz.func136 rfl mixed Tryz.ntmps136 Tryz.results136 (by kernel_rfl) rfl fun _=>?_
 have hc:(0:Int)≤xs.length∧(xs.length:Int)≤xs.length∧(xs.length:Int)≤2147483648:=by omega
 simp only[go_sem,List.length_map,hc,List.length_replicate]
 have hg:=fun k=>@Gj _ DPred.o DPred.o_nr [.v (.int .i64 0),.v (.int .i64 0),.v (.int .i64 0),.v (.int .i64 0),.v (.int .i64 0),.v (.string ByteArray.empty),.v (.slice none 0 0)] rfl xs k 78 7 true true
 refine LoopA.mk 1 0 [0,3,4] (A:=Nat) (fun k=>⟨23,[(0,.c (.sl (xs.map DPred.c))),(3,.c (.ref 0)),(4,.c (.v (.int .i64 k)))],[⟨78,7,grow (xs.map DPred.o) [.v (.int .i64 0),.v (.int .i64 0),.v (.int .i64 0),.v (.int .i64 0),.v (.int .i64 0),.v (.string ByteArray.empty),.v (.slice none 0 0)] k,true,true⟩]⟩) (fun k=>k≤xs.length) (fun k=>xs.length-k) 0 ⟨⟨rfl,by have:=hg 0; simp only[Ai,List.length_map] at this; exact this⟩,by simp only[Ai,List.length_map]; rfl,Nat.zero_le _⟩ ?_
 intro k hk
 simp only[go_sem,List.length_map]
 refine cndC.mk (fun h=>?_) (fun h=>?_)
 ·have hk':k<xs.length:=by simpa using h
  have hset:=@Ce _ DPred.o xs [.v (.int .i64 0),.v (.int .i64 0),.v (.int .i64 0),.v (.int .i64 0),.v (.int .i64 0),.v (.string ByteArray.empty),.v (.slice none 0 0)] k hk'
  simp only[go_sem,AA _ hk',Ac hk,Az hk',hk',wrap_i64 (n:=(k:Int)+1) (by omega) (by omega)]
  refine CallK.mk _ (by simpa only[go_sem] using hx xs[k] (List.getElem_mem hk')) fun _=>?_
  simp only[go_sem,AA _ hk',Ac hk,Az hk',hk',wrap_i64 (n:=(k:Int)+1) (by omega) (by omega)]
  refine⟨k+1,.inr ⟨k,grow (xs.map DPred.o) [.v (.int .i64 0),.v (.int .i64 0),.v (.int .i64 0),.v (.int .i64 0),.v (.int .i64 0),.v (.string ByteArray.empty),.v (.slice none 0 0)] k,_,DPred.o xs[k],_,⟨Nat.zero_lt_one,rfl,rfl,by rw[Ac hk]; exact hk',rfl⟩, ?_,⟨rfl, ?_⟩, ?_⟩,by omega,by first | omega | (simp only; omega)⟩
  ·simp[DPred.o_eq,AU,Cc,AC,DVal.c_eq,Gu]
  ·rw[BN,hset]; exact hg _
  ·rw[BN,hset]; rfl
 ·have hk':k=xs.length:=by simp at h; omega
  subst hk'
  rw[Cf]
  simp only[go_sem]
  try simp[Gu]
theorem Wy (d:DPred) (hf:DD d) (hx:∀ x∈d.l,Ctr Tryz.prog 89 [.agg x.c] [.agg x.o]):Ctr Tryz.prog 89 [.agg d.c] [.agg d.o]:=by
 rw[Eo] at hf
 obtain⟨f0,f1⟩:=hf
 refine Ctr.mk Tryz.call89 Tryz.func89 rfl mixed Tryz.ntmps89 Tryz.results89 (by kernel_rfl) rfl fun _=>?_
 simp only[go_sem]
 refine CallK.mk _ (by simpa only[go_sem] using Ep d.v f0) fun _=>?_
 simp only[go_sem]
 refine CallK.mk _ (by simpa only[go_sem] using bI d.l f1.1 hx) fun _=>?_
 simp only[go_sem]
 try simp[AU,Cc,AC,CY,DPred.o_eq]
theorem LW:∀ (n:Nat) (d:DPred),SizeOf.sizeOf d≤n→DD d→Ctr Tryz.prog 89 [.agg d.c] [.agg d.o]
 | 0,d,h,_=>by cases d; simp at h
 | n+1,d,h,hf=>Wy d hf fun x hx=>LW n x (by
  have h1:SizeOf.sizeOf x<SizeOf.sizeOf d.l:=List.sizeOf_lt_of_mem hx
  have h2:SizeOf.sizeOf d.l<SizeOf.sizeOf d:=by cases d; simp[DPred.l]; omega
  omega) (by rw[Eo] at hf; exact(hf.2).2 x hx)
theorem iw (d:DPred) (hf:DD d):Ctr Tryz.prog 89 [.agg d.c] [.agg d.o]:=LW _ d (Nat.le_refl _) hf
theorem KA (d:DQuery) (hf:Dy d):Ctr Tryz.prog 29 [.agg d.c] [.agg d.o]:=by
 rw[Ej] at hf
 obtain⟨f0,f1⟩:=hf
 refine Ctr.mk Tryz.call29 Tryz.func29 rfl mixed Tryz.ntmps29 Tryz.results29 (by kernel_rfl) rfl fun _=>?_
 simp only[go_sem]
 refine CallK.mk _ (by simpa only[go_sem] using iw d.p f0) fun _=>?_
 simp only[go_sem]
 refine CallK.mk _ (by simpa only[go_sem] using Iq d.out f1) fun _=>?_
 simp only[go_sem]
 try simp[AU,Cc,AC,CY,DQuery.o_eq]
theorem Yv (d:DResult) (hf:Ih d):Ctr Tryz.prog 155 [.agg d.c] [.agg d.o]:=by
 rw[J9] at hf
 obtain⟨f0,f1⟩:=hf
 refine Ctr.mk Tryz.call155 Tryz.func155 rfl mixed Tryz.ntmps155 Tryz.results155 (by kernel_rfl) rfl fun _=>?_
 simp only[go_sem]
 refine CallK.mk _ (by simpa only[go_sem] using TP d.rows f0) fun _=>?_
 simp only[go_sem]
 refine CallK.mk _ (by simpa only[go_sem] using Ep d.v f1) fun _=>?_
 simp only[go_sem]
 try simp[AU,Cc,AC,CY,DResult.o_eq]
theorem iy (d:DSlot) (hf:JG d):Ctr Tryz.prog 215 [.agg d.c] [.agg d.o]:=by
 rw[Ip] at hf
 have f0:=hf
 refine Ctr.mk Tryz.call215 Tryz.func215 rfl mixed Tryz.ntmps215 Tryz.results215 (by kernel_rfl) rfl fun _=>?_
 simp only[go_sem]
 refine CallK.mk _ (by simpa only[go_sem] using Ir d.l f0.1 fun x hx=>Ep x (f0.2 x hx)) fun _=>?_
 simp only[go_sem]
 try simp[AU,Cc,AC,CY,DSlot.o_eq]
theorem bJ (xs:List DSlot) (hf:xs.length≤1048576) (hx:∀ x∈xs,Ctr Tryz.prog 215 [.agg x.c] [.agg x.o]):Ctr Tryz.prog 184 [.c (.sl (xs.map DSlot.c))] [.own 162 2 (xs.map DSlot.o) true]:=by
 refine Ctr.mk Tryz.call184 Tryz.func184 rfl mixed Tryz.ntmps184 Tryz.results184 (by kernel_rfl) rfl fun _=>?_
 have hc:(0:Int)≤xs.length∧(xs.length:Int)≤xs.length∧(xs.length:Int)≤2147483648:=by omega
 simp only[go_sem,List.length_map,hc,List.length_replicate]
 have hg:=fun k=>@Gj _ DSlot.o DSlot.o_nr [.v (.int .i64 0),.v (.slice none 0 0)] rfl xs k 162 2 true true
 refine LoopA.mk 1 0 [0,3,4] (A:=Nat) (fun k=>⟨23,[(0,.c (.sl (xs.map DSlot.c))),(3,.c (.ref 0)),(4,.c (.v (.int .i64 k)))],[⟨162,2,grow (xs.map DSlot.o) [.v (.int .i64 0),.v (.slice none 0 0)] k,true,true⟩]⟩) (fun k=>k≤xs.length) (fun k=>xs.length-k) 0 ⟨⟨rfl,by have:=hg 0; simp only[Ai,List.length_map] at this; exact this⟩,by simp only[Ai,List.length_map]; rfl,Nat.zero_le _⟩ ?_
 intro k hk
 simp only[go_sem,List.length_map]
 refine cndC.mk (fun h=>?_) (fun h=>?_)
 ·have hk':k<xs.length:=by simpa using h
  have hset:=@Ce _ DSlot.o xs [.v (.int .i64 0),.v (.slice none 0 0)] k hk'
  simp only[go_sem,AA _ hk',Ac hk,Az hk',hk',wrap_i64 (n:=(k:Int)+1) (by omega) (by omega)]
  refine CallK.mk _ (by simpa only[go_sem] using hx xs[k] (List.getElem_mem hk')) fun _=>?_
  simp only[go_sem,AA _ hk',Ac hk,Az hk',hk',wrap_i64 (n:=(k:Int)+1) (by omega) (by omega)]
  refine⟨k+1,.inr ⟨k,grow (xs.map DSlot.o) [.v (.int .i64 0),.v (.slice none 0 0)] k,_,DSlot.o xs[k],_,⟨Nat.zero_lt_one,rfl,rfl,by rw[Ac hk]; exact hk',rfl⟩, ?_,⟨rfl, ?_⟩, ?_⟩,by omega,by first | omega | (simp only; omega)⟩
  ·simp[DSlot.o_eq,AU,Cc,AC,Bl]
  ·rw[BN,hset]; exact hg _
  ·rw[BN,hset]; rfl
 ·have hk':k=xs.length:=by simp at h; omega
  subst hk'
  rw[Cf]
  simp only[go_sem]
  try simp[Wu]
theorem Yw (xs:List DSlot) (hf:fitS JG xs):Ctr Tryz.prog 184 [.c (.sl (xs.map DSlot.c))] [.own 162 2 (xs.map DSlot.o) true]:=bJ xs hf.1 fun x hx=>iy x (hf.2 x hx)
theorem bK (d:DChunk) (hf:Ez d):Ctr Tryz.prog 151 [.agg d.c] [.agg d.o]:=by
 rw[EF] at hf
 have f0:=hf
 refine Ctr.mk Tryz.call151 Tryz.func151 rfl mixed Tryz.ntmps151 Tryz.results151 (by kernel_rfl) rfl fun _=>?_
 simp only[go_sem]
 refine CallK.mk _ (by simpa only[go_sem] using Yw d.l f0) fun _=>?_
 simp only[go_sem]
 try simp[AU,Cc,AC,CY,DChunk.o_eq]
theorem kL (d:DBuf) (hf:LU d):Ctr Tryz.prog 102 [.agg d.c] [.agg d.o]:=by
 rw[MP] at hf
 obtain⟨f0,f1⟩:=hf
 refine Ctr.mk Tryz.call102 Tryz.func102 rfl mixed Tryz.ntmps102 Tryz.results102 (by kernel_rfl) rfl fun _=>?_
 simp only[go_sem]
 refine CallK.mk _ (by simpa only[go_sem] using bK d.c0 f0) fun _=>?_
 simp only[go_sem]
 refine CallK.mk _ (by simpa only[go_sem] using Qy d.g f1) fun _=>?_
 simp only[go_sem]
 try simp[AU,Cc,AC,CY,DBuf.o_eq]
theorem jA (xs:List DBuf) (hf:xs.length≤1048576) (hx:∀ x∈xs,Ctr Tryz.prog 102 [.agg x.c] [.agg x.o]):Ctr Tryz.prog 48 [.c (.sl (xs.map DBuf.c))] [.own 101 5 (xs.map DBuf.o) true]:=by
 refine Ctr.mk Tryz.call48 Tryz.func48 rfl mixed Tryz.ntmps48 Tryz.results48 (by kernel_rfl) rfl fun _=>?_
 have hc:(0:Int)≤xs.length∧(xs.length:Int)≤xs.length∧(xs.length:Int)≤2147483648:=by omega
 simp only[go_sem,List.length_map,hc,List.length_replicate]
 have hg:=fun k=>@Gj _ DBuf.o DBuf.o_nr [.v (.int .i64 0),.v (.int .i64 0),.v (.int .i64 0),.v (.slice none 0 0),.v (.slice none 0 0)] rfl xs k 101 5 true true
 refine LoopA.mk 1 0 [0,3,4] (A:=Nat) (fun k=>⟨23,[(0,.c (.sl (xs.map DBuf.c))),(3,.c (.ref 0)),(4,.c (.v (.int .i64 k)))],[⟨101,5,grow (xs.map DBuf.o) [.v (.int .i64 0),.v (.int .i64 0),.v (.int .i64 0),.v (.slice none 0 0),.v (.slice none 0 0)] k,true,true⟩]⟩) (fun k=>k≤xs.length) (fun k=>xs.length-k) 0 ⟨⟨rfl,by have:=hg 0; simp only[Ai,List.length_map] at this; exact this⟩,by simp only[Ai,List.length_map]; rfl,Nat.zero_le _⟩ ?_
 intro k hk
 simp only[go_sem,List.length_map]
 refine cndC.mk (fun h=>?_) (fun h=>?_)
 ·have hk':k<xs.length:=by simpa using h
  have hset:=@Ce _ DBuf.o xs [.v (.int .i64 0),.v (.int .i64 0),.v (.int .i64 0),.v (.slice none 0 0),.v (.slice none 0 0)] k hk'
  simp only[go_sem,AA _ hk',Ac hk,Az hk',hk',wrap_i64 (n:=(k:Int)+1) (by omega) (by omega)]
  refine CallK.mk _ (by simpa only[go_sem] using hx xs[k] (List.getElem_mem hk')) fun _=>?_
  simp only[go_sem,AA _ hk',Ac hk,Az hk',hk',wrap_i64 (n:=(k:Int)+1) (by omega) (by omega)]
  refine⟨k+1,.inr ⟨k,grow (xs.map DBuf.o) [.v (.int .i64 0),.v (.int .i64 0),.v (.int .i64 0),.v (.slice none 0 0),.v (.slice none 0 0)] k,_,DBuf.o xs[k],_,⟨Nat.zero_lt_one,rfl,rfl,by rw[Ac hk]; exact hk',rfl⟩, ?_,⟨rfl, ?_⟩, ?_⟩,by omega,by first | omega | (simp only; omega)⟩
  ·simp[DBuf.o_eq,AU,Cc,AC,DChunk.o_eq,DChunk.c_eq,Wu,Bz]
  ·rw[BN,hset]; exact hg _
  ·rw[BN,hset]; rfl
 ·have hk':k=xs.length:=by simp at h; omega
  subst hk'
  rw[Cf]
  simp only[go_sem]
  try simp[Wv]
theorem bM (xs:List DBuf) (hf:fitS LU xs):Ctr Tryz.prog 48 [.c (.sl (xs.map DBuf.c))] [.own 101 5 (xs.map DBuf.o) true]:=jA xs hf.1 fun x hx=>kL x (hf.2 x hx)
theorem kM (d:DDir) (hf:QH d):Ctr Tryz.prog 47 [.agg d.c] [.agg d.o]:=by
 rw[MQ] at hf
 have f0:=hf
 refine Ctr.mk Tryz.call47 Tryz.func47 rfl mixed Tryz.ntmps47 Tryz.results47 (by kernel_rfl) rfl fun _=>?_
 simp only[go_sem]
 refine CallK.mk _ (by simpa only[go_sem] using OC d.l f0 fun x hx=>OB x) fun _=>?_
 simp only[go_sem]
 try simp[AU,Cc,AC,CY,DDir.o_eq]
theorem jB (d:DTask) (hf:JH d):Ctr Tryz.prog 104 [.agg d.c] [.agg d.o]:=by
 rw[Nz] at hf
 obtain⟨f0,f1,f2,f3⟩:=hf
 refine Ctr.mk Tryz.call104 Tryz.func104 rfl mixed Tryz.ntmps104 Tryz.results104 (by kernel_rfl) rfl fun _=>?_
 simp only[go_sem]
 refine CallK.mk _ (by simpa only[go_sem] using Ir d.r f0.1 fun x hx=>Ep x (f0.2 x hx)) fun _=>?_
 simp only[go_sem]
 refine CallK.mk _ (by simpa only[go_sem] using KA d.q f1) fun _=>?_
 simp only[go_sem]
 refine CallK.mk _ (by simpa only[go_sem] using OC d.l f2 fun x hx=>OB x) fun _=>?_
 simp only[go_sem]
 refine CallK.mk _ (by simpa only[go_sem] using TP d.got f3) fun _=>?_
 simp only[go_sem]
 try simp[AU,Cc,AC,CY,DTask.o_eq]
theorem bP (xs:List DTask) (hf:xs.length≤1048576) (hx:∀ x∈xs,Ctr Tryz.prog 104 [.agg x.c] [.agg x.o]):Ctr Tryz.prog 51 [.c (.sl (xs.map DTask.c))] [.own 172 25 (xs.map DTask.o) true]:=by
 refine Ctr.mk Tryz.call51 Tryz.func51 rfl mixed Tryz.ntmps51 Tryz.results51 (by kernel_rfl) rfl fun _=>?_
 have hc:(0:Int)≤xs.length∧(xs.length:Int)≤xs.length∧(xs.length:Int)≤2147483648:=by omega
 simp only[go_sem,List.length_map,hc,List.length_replicate]
 have hg:=fun k=>@Gj _ DTask.o DTask.o_nr [.v (.int .i64 0),.v (.int .i64 0),.v (.int .i64 0),.v (.slice none 0 0),.v (.int .i64 0),.v (.int .i64 0),.v (.int .i64 0),.v (.int .i64 0),.v (.int .i64 0),.v (.int .i64 0),.v (.int .i64 0),.v (.string ByteArray.empty),.v (.slice none 0 0),.v (.int .i64 0),.v (.slice none 0 0),.v (.int .i64 0),.v (.int .i64 0),.v (.slice none 0 0),.v (.int .i64 0),.v (.int .i64 0),.v (.int .i64 0),.v (.int .i64 0),.v (.int .i64 0),.v (.bool false),.v (.slice none 0 0)] rfl xs k 172 25 true true
 refine LoopA.mk 1 0 [0,3,4] (A:=Nat) (fun k=>⟨23,[(0,.c (.sl (xs.map DTask.c))),(3,.c (.ref 0)),(4,.c (.v (.int .i64 k)))],[⟨172,25,grow (xs.map DTask.o) [.v (.int .i64 0),.v (.int .i64 0),.v (.int .i64 0),.v (.slice none 0 0),.v (.int .i64 0),.v (.int .i64 0),.v (.int .i64 0),.v (.int .i64 0),.v (.int .i64 0),.v (.int .i64 0),.v (.int .i64 0),.v (.string ByteArray.empty),.v (.slice none 0 0),.v (.int .i64 0),.v (.slice none 0 0),.v (.int .i64 0),.v (.int .i64 0),.v (.slice none 0 0),.v (.int .i64 0),.v (.int .i64 0),.v (.int .i64 0),.v (.int .i64 0),.v (.int .i64 0),.v (.bool false),.v (.slice none 0 0)] k,true,true⟩]⟩) (fun k=>k≤xs.length) (fun k=>xs.length-k) 0 ⟨⟨rfl,by have:=hg 0; simp only[Ai,List.length_map] at this; exact this⟩,by simp only[Ai,List.length_map]; rfl,Nat.zero_le _⟩ ?_
 intro k hk
 simp only[go_sem,List.length_map]
 refine cndC.mk (fun h=>?_) (fun h=>?_)
 ·have hk':k<xs.length:=by simpa using h
  have hset:=@Ce _ DTask.o xs [.v (.int .i64 0),.v (.int .i64 0),.v (.int .i64 0),.v (.slice none 0 0),.v (.int .i64 0),.v (.int .i64 0),.v (.int .i64 0),.v (.int .i64 0),.v (.int .i64 0),.v (.int .i64 0),.v (.int .i64 0),.v (.string ByteArray.empty),.v (.slice none 0 0),.v (.int .i64 0),.v (.slice none 0 0),.v (.int .i64 0),.v (.int .i64 0),.v (.slice none 0 0),.v (.int .i64 0),.v (.int .i64 0),.v (.int .i64 0),.v (.int .i64 0),.v (.int .i64 0),.v (.bool false),.v (.slice none 0 0)] k hk'
  simp only[go_sem,AA _ hk',Ac hk,Az hk',hk',wrap_i64 (n:=(k:Int)+1) (by omega) (by omega)]
  refine CallK.mk _ (by simpa only[go_sem] using hx xs[k] (List.getElem_mem hk')) fun _=>?_
  simp only[go_sem,AA _ hk',Ac hk,Az hk',hk',wrap_i64 (n:=(k:Int)+1) (by omega) (by omega)]
  refine⟨k+1,.inr ⟨k,grow (xs.map DTask.o) [.v (.int .i64 0),.v (.int .i64 0),.v (.int .i64 0),.v (.slice none 0 0),.v (.int .i64 0),.v (.int .i64 0),.v (.int .i64 0),.v (.int .i64 0),.v (.int .i64 0),.v (.int .i64 0),.v (.int .i64 0),.v (.string ByteArray.empty),.v (.slice none 0 0),.v (.int .i64 0),.v (.slice none 0 0),.v (.int .i64 0),.v (.int .i64 0),.v (.slice none 0 0),.v (.int .i64 0),.v (.int .i64 0),.v (.int .i64 0),.v (.int .i64 0),.v (.int .i64 0),.v (.bool false),.v (.slice none 0 0)] k,_,DTask.o xs[k],_,⟨Nat.zero_lt_one,rfl,rfl,by rw[Ac hk]; exact hk',rfl⟩, ?_,⟨rfl, ?_⟩, ?_⟩,by omega,by first | omega | (simp only; omega)⟩
  ·simp[DTask.o_eq,AU,Cc,AC,DPred.o_eq,DPred.c_eq,DQuery.o_eq,DQuery.c_eq,DVal.c_eq,Gu,QI,AX,Bl,Bj]
  ·rw[BN,hset]; exact hg _
  ·rw[BN,hset]; rfl
 ·have hk':k=xs.length:=by simp at h; omega
  subst hk'
  rw[Cf]
  simp only[go_sem]
  try simp[SH]
theorem Yx (xs:List DTask) (hf:fitS JH xs):Ctr Tryz.prog 51 [.c (.sl (xs.map DTask.c))] [.own 172 25 (xs.map DTask.o) true]:=bP xs hf.1 fun x hx=>jB x (hf.2 x hx)
theorem jC (d:DDeed) (hf:JI d):Ctr Tryz.prog 105 [.agg d.c] [.agg d.o]:=by
 rw[N8] at hf
 obtain⟨f0,f1,f2⟩:=hf
 refine Ctr.mk Tryz.call105 Tryz.func105 rfl mixed Tryz.ntmps105 Tryz.results105 (by kernel_rfl) rfl fun _=>?_
 simp only[go_sem]
 refine CallK.mk _ (by simpa only[go_sem] using Ir d.r f0.1 fun x hx=>Ep x (f0.2 x hx)) fun _=>?_
 simp only[go_sem]
 refine CallK.mk _ (by simpa only[go_sem] using KA d.q f1) fun _=>?_
 simp only[go_sem]
 refine CallK.mk _ (by simpa only[go_sem] using Yv d.res f2) fun _=>?_
 simp only[go_sem]
 try simp[AU,Cc,AC,CY,DDeed.o_eq]
theorem bQ (xs:List DDeed) (hf:xs.length≤1048576) (hx:∀ x∈xs,Ctr Tryz.prog 105 [.agg x.c] [.agg x.o]):Ctr Tryz.prog 52 [.c (.sl (xs.map DDeed.c))] [.own 175 25 (xs.map DDeed.o) true]:=by
 refine Ctr.mk Tryz.call52 Tryz.func52 rfl mixed Tryz.ntmps52 Tryz.results52 (by kernel_rfl) rfl fun _=>?_
 have hc:(0:Int)≤xs.length∧(xs.length:Int)≤xs.length∧(xs.length:Int)≤2147483648:=by omega
 simp only[go_sem,List.length_map,hc,List.length_replicate]
 have hg:=fun k=>@Gj _ DDeed.o DDeed.o_nr [.v (.int .i64 0),.v (.int .i64 0),.v (.slice none 0 0),.v (.int .i64 0),.v (.int .i64 0),.v (.int .i64 0),.v (.int .i64 0),.v (.int .i64 0),.v (.int .i64 0),.v (.int .i64 0),.v (.string ByteArray.empty),.v (.slice none 0 0),.v (.int .i64 0),.v (.slice none 0 0),.v (.slice none 0 0),.v (.int .i64 0),.v (.bool false),.v (.int .i64 0),.v (.int .i64 0),.v (.string ByteArray.empty),.v (.int .i64 0),.v (.int .i64 0),.v (.int .i64 0),.v (.int .i64 0),.v (.int .i64 0)] rfl xs k 175 25 true true
 refine LoopA.mk 1 0 [0,3,4] (A:=Nat) (fun k=>⟨23,[(0,.c (.sl (xs.map DDeed.c))),(3,.c (.ref 0)),(4,.c (.v (.int .i64 k)))],[⟨175,25,grow (xs.map DDeed.o) [.v (.int .i64 0),.v (.int .i64 0),.v (.slice none 0 0),.v (.int .i64 0),.v (.int .i64 0),.v (.int .i64 0),.v (.int .i64 0),.v (.int .i64 0),.v (.int .i64 0),.v (.int .i64 0),.v (.string ByteArray.empty),.v (.slice none 0 0),.v (.int .i64 0),.v (.slice none 0 0),.v (.slice none 0 0),.v (.int .i64 0),.v (.bool false),.v (.int .i64 0),.v (.int .i64 0),.v (.string ByteArray.empty),.v (.int .i64 0),.v (.int .i64 0),.v (.int .i64 0),.v (.int .i64 0),.v (.int .i64 0)] k,true,true⟩]⟩) (fun k=>k≤xs.length) (fun k=>xs.length-k) 0 ⟨⟨rfl,by have:=hg 0; simp only[Ai,List.length_map] at this; exact this⟩,by simp only[Ai,List.length_map]; rfl,Nat.zero_le _⟩ ?_
 intro k hk
 simp only[go_sem,List.length_map]
 refine cndC.mk (fun h=>?_) (fun h=>?_)
 ·have hk':k<xs.length:=by simpa using h
  have hset:=@Ce _ DDeed.o xs [.v (.int .i64 0),.v (.int .i64 0),.v (.slice none 0 0),.v (.int .i64 0),.v (.int .i64 0),.v (.int .i64 0),.v (.int .i64 0),.v (.int .i64 0),.v (.int .i64 0),.v (.int .i64 0),.v (.string ByteArray.empty),.v (.slice none 0 0),.v (.int .i64 0),.v (.slice none 0 0),.v (.slice none 0 0),.v (.int .i64 0),.v (.bool false),.v (.int .i64 0),.v (.int .i64 0),.v (.string ByteArray.empty),.v (.int .i64 0),.v (.int .i64 0),.v (.int .i64 0),.v (.int .i64 0),.v (.int .i64 0)] k hk'
  simp only[go_sem,AA _ hk',Ac hk,Az hk',hk',wrap_i64 (n:=(k:Int)+1) (by omega) (by omega)]
  refine CallK.mk _ (by simpa only[go_sem] using hx xs[k] (List.getElem_mem hk')) fun _=>?_
  simp only[go_sem,AA _ hk',Ac hk,Az hk',hk',wrap_i64 (n:=(k:Int)+1) (by omega) (by omega)]
  refine⟨k+1,.inr ⟨k,grow (xs.map DDeed.o) [.v (.int .i64 0),.v (.int .i64 0),.v (.slice none 0 0),.v (.int .i64 0),.v (.int .i64 0),.v (.int .i64 0),.v (.int .i64 0),.v (.int .i64 0),.v (.int .i64 0),.v (.int .i64 0),.v (.string ByteArray.empty),.v (.slice none 0 0),.v (.int .i64 0),.v (.slice none 0 0),.v (.slice none 0 0),.v (.int .i64 0),.v (.bool false),.v (.int .i64 0),.v (.int .i64 0),.v (.string ByteArray.empty),.v (.int .i64 0),.v (.int .i64 0),.v (.int .i64 0),.v (.int .i64 0),.v (.int .i64 0)] k,_,DDeed.o xs[k],_,⟨Nat.zero_lt_one,rfl,rfl,by rw[Ac hk]; exact hk',rfl⟩, ?_,⟨rfl, ?_⟩, ?_⟩,by omega,by first | omega | (simp only; omega)⟩
  ·simp[DDeed.o_eq,AU,Cc,AC,DPred.o_eq,DPred.c_eq,DQuery.o_eq,DQuery.c_eq,DResult.o_eq,DResult.c_eq,DVal.c_eq,Gu,AX,Bl,Bj]
  ·rw[BN,hset]; exact hg _
  ·rw[BN,hset]; rfl
 ·have hk':k=xs.length:=by simp at h; omega
  subst hk'
  rw[Cf]
  simp only[go_sem]
  try simp[SI]
theorem Yy (xs:List DDeed) (hf:fitS JI xs):Ctr Tryz.prog 52 [.c (.sl (xs.map DDeed.c))] [.own 175 25 (xs.map DDeed.o) true]:=bQ xs hf.1 fun x hx=>jC x (hf.2 x hx)
theorem jD (d:DConf) (hf:MR d):Ctr Tryz.prog 46 [.agg d.c] [.agg d.o]:=by
 rw[N_] at hf
 have f0:=hf
 refine Ctr.mk Tryz.call46 Tryz.func46 rfl mixed Tryz.ntmps46 Tryz.results46 (by kernel_rfl) rfl fun _=>?_
 simp only[go_sem]
 refine CallK.mk _ (by simpa only[go_sem] using Iq d.cols f0) fun _=>?_
 simp only[go_sem]
 try simp[AU,Cc,AC,CY,DConf.o_eq]
theorem TQ (d:DWorld) (hf:Cb d):Ctr Tryz.prog 11 [.agg d.c] [.agg d.o]:=by
 rw[Gg] at hf
 obtain⟨f0,f1,f2,f3,f4,f5,f6,f7⟩:=hf
 refine Ctr.mk Tryz.call11 Tryz.func11 rfl mixed Tryz.ntmps11 Tryz.results11 (by kernel_rfl) rfl fun _=>?_
 simp only[go_sem]
 refine CallK.mk _ (by simpa only[go_sem] using jD d.c0 f0) fun _=>?_
 simp only[go_sem]
 refine CallK.mk _ (by simpa only[go_sem] using kM d.d f1) fun _=>?_
 simp only[go_sem]
 refine CallK.mk _ (by simpa only[go_sem] using bM d.b f2) fun _=>?_
 simp only[go_sem]
 refine CallK.mk _ (by simpa only[go_sem] using Iq d.m f3) fun _=>?_
 simp only[go_sem]
 refine CallK.mk _ (by simpa only[go_sem] using Q5 d.x f4 fun x hx=>Q4 x) fun _=>?_
 simp only[go_sem]
 refine CallK.mk _ (by simpa only[go_sem] using Iq d.p f5) fun _=>?_
 simp only[go_sem]
 refine CallK.mk _ (by simpa only[go_sem] using Yx d.tasks f6) fun _=>?_
 simp only[go_sem]
 refine CallK.mk _ (by simpa only[go_sem] using Yy d.deeds f7) fun _=>?_
 simp only[go_sem]
 try simp[AU,Cc,AC,CY,DWorld.o_eq]
end Go.Proofs.YthoeeoddgkjkkaaGreat
