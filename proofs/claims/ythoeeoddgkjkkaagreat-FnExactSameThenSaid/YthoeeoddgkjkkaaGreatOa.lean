/- The laws' arguments as memory of their own: by program (gen_data.py). -/
import Derived.Test.YthoeeoddgkjkkaaGreatFa
namespace Go.Proofs.YthoeeoddgkjkkaaGreat
set_option linter.unusedSimpArgs false
set_option linter.unusedVariables false
open Go.Vm
set_option maxHeartbeats 1000000
set_option maxRecDepth 10000
@[go_sem] theorem nr_int (l : List Int) : nrE (l.map intC) = true:=nrE_of_pure (pureE_map intC.pure)
theorem er_int (l : List Int) : erE (l.map intC) = l.map intC:=erE_of_pure (pureE_map intC.pure)
@[go_sem] theorem nr_byte (l : List Int) : nrE (l.map byteC) = true:=nrE_of_pure (pureE_map byteC.pure)
theorem er_byte (l : List Int) : erE (l.map byteC) = l.map byteC:=erE_of_pure (pureE_map byteC.pure)
@[go_sem] theorem nr_Val (l : List DVal) : nrE (l.map DVal.c) = true:=nrE_of_pure (pureE_map DVal.pure)
theorem er_Val (l : List DVal) : erE (l.map DVal.c) = l.map DVal.c:=erE_of_pure (pureE_map DVal.pure)
theorem erc_Val (d : DVal) : erL d.c = d.c:=erL_of_pure (DVal.pure d)
def DRow.o (d : DRow) : List Cl:=[.v (.int .i64 d.id)] ++ ([.ow 72 3 (d.l.map DVal.c)])
@[go_sem] theorem DRow.o_eq (d : DRow) : d.o = [.v (.int .i64 d.id)] ++ ([.ow 72 3 (d.l.map DVal.c)]):=rfl
theorem DRow.o_nr (d : DRow) : d.o.all nrC = true:=by
 rw [DRow.o_eq]
 simp [List.all_append,nrC]
@[go_sem] theorem nr_Row (l : List DRow) : nrE (l.map DRow.o) = true:=nrE_map DRow.o_nr
theorem DRow.o_er (d : DRow) : erL d.o = d.c:=by
 rw [DRow.o_eq,DRow.c_eq]
 simp [erL_app,erL,er,er_Val]
theorem erE_Row (l : List DRow) : erE (l.map DRow.o) = l.map DRow.c:=erE_mapC DRow.o_er l
mutual
def DPred.o : DPred → List Cl
 | .mk kind col op v l=>[.v (.int .i64 kind)] ++ ([.v (.int .i64 col)] ++ ([.v (.int .i64 op)] ++ (v.c ++ ([.ow 78 7 (DPred.oL l)]))))
def DPred.oL : List DPred → List (List Cl)
 | []=>[]
 | x :: xs=>DPred.o x :: DPred.oL xs
end
theorem DPred.oL_eq : ∀ l : List DPred,DPred.oL l = l.map DPred.o
 | []=>rfl
 | x :: xs=>by simp [DPred.oL,DPred.oL_eq xs]
@[go_sem] theorem DPred.o_eq (d : DPred) : d.o = [.v (.int .i64 d.kind)] ++ ([.v (.int .i64 d.col)] ++ ([.v (.int .i64 d.op)] ++ (d.v.c ++ ([.ow 78 7 (d.l.map DPred.o)])))):=by
 cases d
 simp only [DPred.o,DPred.oL_eq]
 rfl
theorem DPred.o_nr (d : DPred) : d.o.all nrC = true:=by
 rw [DPred.o_eq]
 simp [List.all_append,nrC,DVal.c_eq]
@[go_sem] theorem nr_Pred (l : List DPred) : nrE (l.map DPred.o) = true:=nrE_map DPred.o_nr
theorem DPred.o_er_fuel : ∀ (n : Nat) (d : DPred),SizeOf.sizeOf d ≤ n → erL d.o = d.c
 | 0,d,h=>by cases d; simp at h
 | n + 1,d,h=>by
  have hm : erE (d.l.map DPred.o) = d.l.map DPred.c:=by
   rw [erE_map]
   refine List.map_congr_left fun x hx=>DPred.o_er_fuel n x ?_
   have h1 : SizeOf.sizeOf x < SizeOf.sizeOf d.l:=List.sizeOf_lt_of_mem hx
   have h2 : SizeOf.sizeOf d.l < SizeOf.sizeOf d:=by cases d; simp [DPred.l]; omega
   omega
  rw [DPred.o_eq,DPred.c_eq]
  simp [erL_app,erL,er,hm,erc_Val]
theorem DPred.o_er (d : DPred) : erL d.o = d.c:=DPred.o_er_fuel _ d (Nat.le_refl _)
def DQuery.o (d : DQuery) : List Cl:=[.v (.int .i64 d.kind)] ++ (d.p.o ++ ([.v (.int .i64 d.col)] ++ ([.ow 3 1 (d.out.map intC)])))
@[go_sem] theorem DQuery.o_eq (d : DQuery) : d.o = [.v (.int .i64 d.kind)] ++ (d.p.o ++ ([.v (.int .i64 d.col)] ++ ([.ow 3 1 (d.out.map intC)]))):=rfl
theorem DQuery.o_nr (d : DQuery) : d.o.all nrC = true:=by
 rw [DQuery.o_eq]
 simp [List.all_append,nrC,DPred.o_nr]
@[go_sem] theorem nr_Query (l : List DQuery) : nrE (l.map DQuery.o) = true:=nrE_map DQuery.o_nr
theorem DQuery.o_er (d : DQuery) : erL d.o = d.c:=by
 rw [DQuery.o_eq,DQuery.c_eq]
 simp [erL_app,erL,er,DPred.o_er,er_int]
def DResult.o (d : DResult) : List Cl:=[.ow 121 2 (d.rows.map DRow.o)] ++ ([.v (.int .i64 d.n)] ++ ([.v (.bool d.has)] ++ (d.v.c)))
@[go_sem] theorem DResult.o_eq (d : DResult) : d.o = [.ow 121 2 (d.rows.map DRow.o)] ++ ([.v (.int .i64 d.n)] ++ ([.v (.bool d.has)] ++ (d.v.c))):=rfl
theorem DResult.o_nr (d : DResult) : d.o.all nrC = true:=by
 rw [DResult.o_eq]
 simp [List.all_append,nrC,DVal.c_eq]
@[go_sem] theorem nr_Result (l : List DResult) : nrE (l.map DResult.o) = true:=nrE_map DResult.o_nr
theorem DResult.o_er (d : DResult) : erL d.o = d.c:=by
 rw [DResult.o_eq,DResult.c_eq]
 simp [erL_app,erL,er,erE_Row,erc_Val]
def DSlot.o (d : DSlot) : List Cl:=[.v (.int .i64 d.ins)] ++ ([.ow 72 3 (d.l.map DVal.c)])
@[go_sem] theorem DSlot.o_eq (d : DSlot) : d.o = [.v (.int .i64 d.ins)] ++ ([.ow 72 3 (d.l.map DVal.c)]):=rfl
theorem DSlot.o_nr (d : DSlot) : d.o.all nrC = true:=by
 rw [DSlot.o_eq]
 simp [List.all_append,nrC]
@[go_sem] theorem nr_Slot (l : List DSlot) : nrE (l.map DSlot.o) = true:=nrE_map DSlot.o_nr
theorem DSlot.o_er (d : DSlot) : erL d.o = d.c:=by
 rw [DSlot.o_eq,DSlot.c_eq]
 simp [erL_app,erL,er,er_Val]
theorem erE_Slot (l : List DSlot) : erE (l.map DSlot.o) = l.map DSlot.c:=erE_mapC DSlot.o_er l
def DChunk.o (d : DChunk) : List Cl:=[.v (.int .i64 d.next)] ++ ([.ow 162 2 (d.l.map DSlot.o)])
@[go_sem] theorem DChunk.o_eq (d : DChunk) : d.o = [.v (.int .i64 d.next)] ++ ([.ow 162 2 (d.l.map DSlot.o)]):=rfl
theorem DChunk.o_nr (d : DChunk) : d.o.all nrC = true:=by
 rw [DChunk.o_eq]
 simp [List.all_append,nrC]
@[go_sem] theorem nr_Chunk (l : List DChunk) : nrE (l.map DChunk.o) = true:=nrE_map DChunk.o_nr
theorem DChunk.o_er (d : DChunk) : erL d.o = d.c:=by
 rw [DChunk.o_eq,DChunk.c_eq]
 simp [erL_app,erL,er,erE_Slot]
def DBuf.o (d : DBuf) : List Cl:=[.v (.int .i64 d.gen)] ++ ([.v (.int .i64 d.kind)] ++ (d.c0.o ++ ([.ow 5 1 (d.g.map byteC)])))
@[go_sem] theorem DBuf.o_eq (d : DBuf) : d.o = [.v (.int .i64 d.gen)] ++ ([.v (.int .i64 d.kind)] ++ (d.c0.o ++ ([.ow 5 1 (d.g.map byteC)]))):=rfl
theorem DBuf.o_nr (d : DBuf) : d.o.all nrC = true:=by
 rw [DBuf.o_eq]
 simp [List.all_append,nrC,DChunk.o_nr]
@[go_sem] theorem nr_Buf (l : List DBuf) : nrE (l.map DBuf.o) = true:=nrE_map DBuf.o_nr
theorem DBuf.o_er (d : DBuf) : erL d.o = d.c:=by
 rw [DBuf.o_eq,DBuf.c_eq]
 simp [erL_app,erL,er,DChunk.o_er,er_byte]
theorem erE_Buf (l : List DBuf) : erE (l.map DBuf.o) = l.map DBuf.c:=erE_mapC DBuf.o_er l
@[go_sem] theorem nr_Dead (l : List DDead) : nrE (l.map DDead.c) = true:=nrE_of_pure (pureE_map DDead.pure)
theorem er_Dead (l : List DDead) : erE (l.map DDead.c) = l.map DDead.c:=erE_of_pure (pureE_map DDead.pure)
@[go_sem] theorem nr_Ref (l : List DRef) : nrE (l.map DRef.c) = true:=nrE_of_pure (pureE_map DRef.pure)
theorem er_Ref (l : List DRef) : erE (l.map DRef.c) = l.map DRef.c:=erE_of_pure (pureE_map DRef.pure)
def DDir.o (d : DDir) : List Cl:=[.v (.int .i64 d.ver)] ++ ([.ow 56 5 (d.l.map DRef.c)])
@[go_sem] theorem DDir.o_eq (d : DDir) : d.o = [.v (.int .i64 d.ver)] ++ ([.ow 56 5 (d.l.map DRef.c)]):=rfl
theorem DDir.o_nr (d : DDir) : d.o.all nrC = true:=by
 rw [DDir.o_eq]
 simp [List.all_append,nrC]
@[go_sem] theorem nr_Dir (l : List DDir) : nrE (l.map DDir.o) = true:=nrE_map DDir.o_nr
theorem DDir.o_er (d : DDir) : erL d.o = d.c:=by
 rw [DDir.o_eq,DDir.c_eq]
 simp [erL_app,erL,er,er_Ref]
def DTask.o (d : DTask) : List Cl:=[.v (.int .i64 d.op)] ++ ([.v (.int .i64 d.pc)] ++ ([.v (.int .i64 d.h)] ++ ([.ow 72 3 (d.r.map DVal.c)] ++ ([.v (.int .i64 d.id)] ++ (d.q.o ++ ([.v (.int .i64 d.ts)] ++ ([.v (.int .i64 d.ver)] ++ ([.ow 56 5 (d.l.map DRef.c)] ++ ([.v (.int .i64 d.i)] ++ ([.v (.int .i64 d.j)] ++ ([.v (.int .i64 d.s)] ++ ([.v (.int .i64 d.at0)] ++ ([.v (.int .i64 d.own)] ++ ([.v (.bool d.won)] ++ ([.ow 121 2 (d.got.map DRow.o)])))))))))))))))
@[go_sem] theorem DTask.o_eq (d : DTask) : d.o = [.v (.int .i64 d.op)] ++ ([.v (.int .i64 d.pc)] ++ ([.v (.int .i64 d.h)] ++ ([.ow 72 3 (d.r.map DVal.c)] ++ ([.v (.int .i64 d.id)] ++ (d.q.o ++ ([.v (.int .i64 d.ts)] ++ ([.v (.int .i64 d.ver)] ++ ([.ow 56 5 (d.l.map DRef.c)] ++ ([.v (.int .i64 d.i)] ++ ([.v (.int .i64 d.j)] ++ ([.v (.int .i64 d.s)] ++ ([.v (.int .i64 d.at0)] ++ ([.v (.int .i64 d.own)] ++ ([.v (.bool d.won)] ++ ([.ow 121 2 (d.got.map DRow.o)]))))))))))))))):=rfl
theorem DTask.o_nr (d : DTask) : d.o.all nrC = true:=by
 rw [DTask.o_eq]
 simp [List.all_append,nrC,DQuery.o_nr]
@[go_sem] theorem nr_Task (l : List DTask) : nrE (l.map DTask.o) = true:=nrE_map DTask.o_nr
theorem DTask.o_er (d : DTask) : erL d.o = d.c:=by
 rw [DTask.o_eq,DTask.c_eq]
 simp [erL_app,erL,er,DQuery.o_er,erE_Row,er_Ref,er_Val]
theorem erE_Task (l : List DTask) : erE (l.map DTask.o) = l.map DTask.c:=erE_mapC DTask.o_er l
def DDeed.o (d : DDeed) : List Cl:=[.v (.int .i64 d.op)] ++ ([.v (.int .i64 d.task)] ++ ([.ow 72 3 (d.r.map DVal.c)] ++ ([.v (.int .i64 d.id)] ++ (d.q.o ++ (d.res.o ++ ([.v (.int .i64 d.code)] ++ ([.v (.int .i64 d.stamp)] ++ ([.v (.int .i64 d.inv)] ++ ([.v (.int .i64 d.lin)] ++ ([.v (.int .i64 d.ret)]))))))))))
@[go_sem] theorem DDeed.o_eq (d : DDeed) : d.o = [.v (.int .i64 d.op)] ++ ([.v (.int .i64 d.task)] ++ ([.ow 72 3 (d.r.map DVal.c)] ++ ([.v (.int .i64 d.id)] ++ (d.q.o ++ (d.res.o ++ ([.v (.int .i64 d.code)] ++ ([.v (.int .i64 d.stamp)] ++ ([.v (.int .i64 d.inv)] ++ ([.v (.int .i64 d.lin)] ++ ([.v (.int .i64 d.ret)])))))))))):=rfl
theorem DDeed.o_nr (d : DDeed) : d.o.all nrC = true:=by
 rw [DDeed.o_eq]
 simp [List.all_append,nrC,DQuery.o_nr,DResult.o_nr]
@[go_sem] theorem nr_Deed (l : List DDeed) : nrE (l.map DDeed.o) = true:=nrE_map DDeed.o_nr
theorem DDeed.o_er (d : DDeed) : erL d.o = d.c:=by
 rw [DDeed.o_eq,DDeed.c_eq]
 simp [erL_app,erL,er,DQuery.o_er,DResult.o_er,er_Val]
theorem erE_Deed (l : List DDeed) : erE (l.map DDeed.o) = l.map DDeed.c:=erE_mapC DDeed.o_er l
def DConf.o (d : DConf) : List Cl:=[.ow 3 1 (d.cols.map intC)] ++ ([.v (.int .i64 d.slots)] ++ ([.v (.int .i64 d.bufs)]))
@[go_sem] theorem DConf.o_eq (d : DConf) : d.o = [.ow 3 1 (d.cols.map intC)] ++ ([.v (.int .i64 d.slots)] ++ ([.v (.int .i64 d.bufs)])):=rfl
theorem DConf.o_nr (d : DConf) : d.o.all nrC = true:=by
 rw [DConf.o_eq]
 simp [List.all_append,nrC]
@[go_sem] theorem nr_Conf (l : List DConf) : nrE (l.map DConf.o) = true:=nrE_map DConf.o_nr
theorem DConf.o_er (d : DConf) : erL d.o = d.c:=by
 rw [DConf.o_eq,DConf.c_eq]
 simp [erL_app,erL,er,er_int]
def DWorld.o (d : DWorld) : List Cl:=d.c0.o ++ ([.v (.int .i64 d.time)] ++ ([.v (.int .i64 d.t)] ++ ([.v (.int .i64 d.e)] ++ (d.d.o ++ ([.ow 101 5 (d.b.map DBuf.o)] ++ ([.ow 3 1 (d.m.map intC)] ++ ([.ow 168 3 (d.x.map DDead.c)] ++ ([.ow 3 1 (d.p.map intC)] ++ ([.ow 172 25 (d.tasks.map DTask.o)] ++ ([.ow 175 25 (d.deeds.map DDeed.o)]))))))))))
@[go_sem] theorem DWorld.o_eq (d : DWorld) : d.o = d.c0.o ++ ([.v (.int .i64 d.time)] ++ ([.v (.int .i64 d.t)] ++ ([.v (.int .i64 d.e)] ++ (d.d.o ++ ([.ow 101 5 (d.b.map DBuf.o)] ++ ([.ow 3 1 (d.m.map intC)] ++ ([.ow 168 3 (d.x.map DDead.c)] ++ ([.ow 3 1 (d.p.map intC)] ++ ([.ow 172 25 (d.tasks.map DTask.o)] ++ ([.ow 175 25 (d.deeds.map DDeed.o)])))))))))):=rfl
theorem DWorld.o_nr (d : DWorld) : d.o.all nrC = true:=by
 rw [DWorld.o_eq]
 simp [List.all_append,nrC,DConf.o_nr,DDir.o_nr]
@[go_sem] theorem nr_World (l : List DWorld) : nrE (l.map DWorld.o) = true:=nrE_map DWorld.o_nr
theorem DWorld.o_er (d : DWorld) : erL d.o = d.c:=by
 rw [DWorld.o_eq,DWorld.c_eq]
 simp [erL_app,erL,er,DConf.o_er,DDir.o_er,erE_Buf,erE_Deed,erE_Task,er_Dead,er_int]
theorem toRow_ow (d : DRow) (hf : fitRow d) : Ctr Tryz.prog 185 [.agg d.c] [.agg d.o]:=by
 rw [fitRow_eq] at hf
 have f0:=hf
 refine Ctr.mk Tryz.call185 Tryz.func185 rfl mixed Tryz.ntmps185 Tryz.results185 (by kernel_rfl) rfl fun _=>?_
 simp only [go_sem]
 refine CallK.mk _ (by simpa only [go_sem] using toValS_own d.l f0.1 fun x hx=>toVal_spec x (f0.2 x hx)) fun _=>?_
 simp only [go_sem]
 try simp [OwnL,obAt,pureC,nrE,DRow.o_eq]
theorem toRowS_ow (xs : List DRow) (hf : xs.length ≤ 1048576) (hx : ∀ x ∈ xs,Ctr Tryz.prog 185 [.agg x.c] [.agg x.o]) : Ctr Tryz.prog 154 [.c (.sl (xs.map DRow.c))] [.own 121 2 (xs.map DRow.o) true]:=by
 refine Ctr.mk Tryz.call154 Tryz.func154 rfl mixed Tryz.ntmps154 Tryz.results154 (by kernel_rfl) rfl fun _=>?_
 have hc : (0 : Int) ≤ xs.length ∧ (xs.length : Int) ≤ xs.length ∧ (xs.length : Int) ≤ 2147483648:=by omega
 simp only [go_sem,List.length_map,hc,List.length_replicate]
 have hg:=fun k=>@trim1_growO _ DRow.o DRow.o_nr [.v (.int .i64 0),.v (.slice none 0 0)] rfl xs k 121 2 true true
 refine LoopA.mk 1 0 [0,3,4] (A:=Nat) (fun k=>⟨23,[(0,.c (.sl (xs.map DRow.c))),(3,.c (.ref 0)),(4,.c (.v (.int .i64 k)))],[⟨121,2,grow (xs.map DRow.o) [.v (.int .i64 0),.v (.slice none 0 0)] k,true,true⟩]⟩) (fun k=>k ≤ xs.length) (fun k=>xs.length - k) 0 ⟨⟨rfl,by have:=hg 0; simp only [grow_zero,List.length_map] at this; exact this⟩,by simp only [grow_zero,List.length_map]; rfl,Nat.zero_le _⟩ ?_
 intro k hk
 simp only [go_sem,List.length_map]
 refine cndC.mk (fun h=>?_) (fun h=>?_)
 ·have hk' : k < xs.length:=by simpa using h
  have hset:=@grow_setm _ DRow.o xs [.v (.int .i64 0),.v (.slice none 0 0)] k hk'
  simp only [go_sem,map_at _ hk',grow_lenm hk,grow_atm hk',hk',wrap_i64 (n:=(k : Int) + 1) (by omega) (by omega)]
  refine CallK.mk _ (by simpa only [go_sem] using hx xs[k] (List.getElem_mem hk')) fun _=>?_
  simp only [go_sem,map_at _ hk',grow_lenm hk,grow_atm hk',hk',wrap_i64 (n:=(k : Int) + 1) (by omega) (by omega)]
  refine ⟨k + 1,.inr ⟨k,grow (xs.map DRow.o) [.v (.int .i64 0),.v (.slice none 0 0)] k,_,DRow.o xs[k],_,⟨Nat.zero_lt_one,rfl,rfl,by rw [grow_lenm hk]; exact hk',rfl⟩, ?_,⟨rfl, ?_⟩, ?_⟩,by omega,by first | omega | (simp only; omega)⟩
  ·simp [DRow.o_eq,OwnL,obAt,pureC,nr_Val]
  ·rw [absSt,hset]; exact hg _
  ·rw [absSt,hset]; rfl
 ·have hk' : k = xs.length:=by simp at h; omega
  subst hk'
  rw [grow_allm]
  simp only [go_sem]
  try simp [nr_Row]
theorem toRowS_ows (xs : List DRow) (hf : fitS fitRow xs) : Ctr Tryz.prog 154 [.c (.sl (xs.map DRow.c))] [.own 121 2 (xs.map DRow.o) true]:=toRowS_ow xs hf.1 fun x hx=>toRow_ow x (hf.2 x hx)
theorem toPredS_ow (xs : List DPred) (hf : xs.length ≤ 1048576) (hx : ∀ x ∈ xs,Ctr Tryz.prog 89 [.agg x.c] [.agg x.o]) : Ctr Tryz.prog 136 [.c (.sl (xs.map DPred.c))] [.own 78 7 (xs.map DPred.o) true]:=by
 refine Ctr.mk Tryz.call136 Tryz.func136 rfl mixed Tryz.ntmps136 Tryz.results136 (by kernel_rfl) rfl fun _=>?_
 have hc : (0 : Int) ≤ xs.length ∧ (xs.length : Int) ≤ xs.length ∧ (xs.length : Int) ≤ 2147483648:=by omega
 simp only [go_sem,List.length_map,hc,List.length_replicate]
 have hg:=fun k=>@trim1_growO _ DPred.o DPred.o_nr [.v (.int .i64 0),.v (.int .i64 0),.v (.int .i64 0),.v (.int .i64 0),.v (.int .i64 0),.v (.string ByteArray.empty),.v (.slice none 0 0)] rfl xs k 78 7 true true
 refine LoopA.mk 1 0 [0,3,4] (A:=Nat) (fun k=>⟨23,[(0,.c (.sl (xs.map DPred.c))),(3,.c (.ref 0)),(4,.c (.v (.int .i64 k)))],[⟨78,7,grow (xs.map DPred.o) [.v (.int .i64 0),.v (.int .i64 0),.v (.int .i64 0),.v (.int .i64 0),.v (.int .i64 0),.v (.string ByteArray.empty),.v (.slice none 0 0)] k,true,true⟩]⟩) (fun k=>k ≤ xs.length) (fun k=>xs.length - k) 0 ⟨⟨rfl,by have:=hg 0; simp only [grow_zero,List.length_map] at this; exact this⟩,by simp only [grow_zero,List.length_map]; rfl,Nat.zero_le _⟩ ?_
 intro k hk
 simp only [go_sem,List.length_map]
 refine cndC.mk (fun h=>?_) (fun h=>?_)
 ·have hk' : k < xs.length:=by simpa using h
  have hset:=@grow_setm _ DPred.o xs [.v (.int .i64 0),.v (.int .i64 0),.v (.int .i64 0),.v (.int .i64 0),.v (.int .i64 0),.v (.string ByteArray.empty),.v (.slice none 0 0)] k hk'
  simp only [go_sem,map_at _ hk',grow_lenm hk,grow_atm hk',hk',wrap_i64 (n:=(k : Int) + 1) (by omega) (by omega)]
  refine CallK.mk _ (by simpa only [go_sem] using hx xs[k] (List.getElem_mem hk')) fun _=>?_
  simp only [go_sem,map_at _ hk',grow_lenm hk,grow_atm hk',hk',wrap_i64 (n:=(k : Int) + 1) (by omega) (by omega)]
  refine ⟨k + 1,.inr ⟨k,grow (xs.map DPred.o) [.v (.int .i64 0),.v (.int .i64 0),.v (.int .i64 0),.v (.int .i64 0),.v (.int .i64 0),.v (.string ByteArray.empty),.v (.slice none 0 0)] k,_,DPred.o xs[k],_,⟨Nat.zero_lt_one,rfl,rfl,by rw [grow_lenm hk]; exact hk',rfl⟩, ?_,⟨rfl, ?_⟩, ?_⟩,by omega,by first | omega | (simp only; omega)⟩
  ·simp [DPred.o_eq,OwnL,obAt,pureC,DVal.c_eq,nr_Pred]
  ·rw [absSt,hset]; exact hg _
  ·rw [absSt,hset]; rfl
 ·have hk' : k = xs.length:=by simp at h; omega
  subst hk'
  rw [grow_allm]
  simp only [go_sem]
  try simp [nr_Pred]
theorem toPred_ow_of (d : DPred) (hf : fitPred d) (hx : ∀ x ∈ d.l,Ctr Tryz.prog 89 [.agg x.c] [.agg x.o]) : Ctr Tryz.prog 89 [.agg d.c] [.agg d.o]:=by
 rw [fitPred_eq] at hf
 obtain ⟨f0,f1⟩:=hf
 refine Ctr.mk Tryz.call89 Tryz.func89 rfl mixed Tryz.ntmps89 Tryz.results89 (by kernel_rfl) rfl fun _=>?_
 simp only [go_sem]
 refine CallK.mk _ (by simpa only [go_sem] using toVal_spec d.v f0) fun _=>?_
 simp only [go_sem]
 refine CallK.mk _ (by simpa only [go_sem] using toPredS_ow d.l f1.1 hx) fun _=>?_
 simp only [go_sem]
 try simp [OwnL,obAt,pureC,nrE,DPred.o_eq]
theorem toPred_ow_fuel : ∀ (n : Nat) (d : DPred),SizeOf.sizeOf d ≤ n → fitPred d → Ctr Tryz.prog 89 [.agg d.c] [.agg d.o]
 | 0,d,h,_=>by cases d; simp at h
 | n + 1,d,h,hf=>toPred_ow_of d hf fun x hx=>toPred_ow_fuel n x (by
  have h1 : SizeOf.sizeOf x < SizeOf.sizeOf d.l:=List.sizeOf_lt_of_mem hx
  have h2 : SizeOf.sizeOf d.l < SizeOf.sizeOf d:=by cases d; simp [DPred.l]; omega
  omega) (by rw [fitPred_eq] at hf; exact (hf.2).2 x hx)
theorem toPred_ow (d : DPred) (hf : fitPred d) : Ctr Tryz.prog 89 [.agg d.c] [.agg d.o]:=toPred_ow_fuel _ d (Nat.le_refl _) hf
theorem toQuery_ow (d : DQuery) (hf : fitQuery d) : Ctr Tryz.prog 29 [.agg d.c] [.agg d.o]:=by
 rw [fitQuery_eq] at hf
 obtain ⟨f0,f1⟩:=hf
 refine Ctr.mk Tryz.call29 Tryz.func29 rfl mixed Tryz.ntmps29 Tryz.results29 (by kernel_rfl) rfl fun _=>?_
 simp only [go_sem]
 refine CallK.mk _ (by simpa only [go_sem] using toPred_ow d.p f0) fun _=>?_
 simp only [go_sem]
 refine CallK.mk _ (by simpa only [go_sem] using toIntS_own d.out f1) fun _=>?_
 simp only [go_sem]
 try simp [OwnL,obAt,pureC,nrE,DQuery.o_eq]
theorem toResult_ow (d : DResult) (hf : fitResult d) : Ctr Tryz.prog 155 [.agg d.c] [.agg d.o]:=by
 rw [fitResult_eq] at hf
 obtain ⟨f0,f1⟩:=hf
 refine Ctr.mk Tryz.call155 Tryz.func155 rfl mixed Tryz.ntmps155 Tryz.results155 (by kernel_rfl) rfl fun _=>?_
 simp only [go_sem]
 refine CallK.mk _ (by simpa only [go_sem] using toRowS_ows d.rows f0) fun _=>?_
 simp only [go_sem]
 refine CallK.mk _ (by simpa only [go_sem] using toVal_spec d.v f1) fun _=>?_
 simp only [go_sem]
 try simp [OwnL,obAt,pureC,nrE,DResult.o_eq]
theorem toSlot_ow (d : DSlot) (hf : fitSlot d) : Ctr Tryz.prog 215 [.agg d.c] [.agg d.o]:=by
 rw [fitSlot_eq] at hf
 have f0:=hf
 refine Ctr.mk Tryz.call215 Tryz.func215 rfl mixed Tryz.ntmps215 Tryz.results215 (by kernel_rfl) rfl fun _=>?_
 simp only [go_sem]
 refine CallK.mk _ (by simpa only [go_sem] using toValS_own d.l f0.1 fun x hx=>toVal_spec x (f0.2 x hx)) fun _=>?_
 simp only [go_sem]
 try simp [OwnL,obAt,pureC,nrE,DSlot.o_eq]
theorem toSlotS_ow (xs : List DSlot) (hf : xs.length ≤ 1048576) (hx : ∀ x ∈ xs,Ctr Tryz.prog 215 [.agg x.c] [.agg x.o]) : Ctr Tryz.prog 184 [.c (.sl (xs.map DSlot.c))] [.own 162 2 (xs.map DSlot.o) true]:=by
 refine Ctr.mk Tryz.call184 Tryz.func184 rfl mixed Tryz.ntmps184 Tryz.results184 (by kernel_rfl) rfl fun _=>?_
 have hc : (0 : Int) ≤ xs.length ∧ (xs.length : Int) ≤ xs.length ∧ (xs.length : Int) ≤ 2147483648:=by omega
 simp only [go_sem,List.length_map,hc,List.length_replicate]
 have hg:=fun k=>@trim1_growO _ DSlot.o DSlot.o_nr [.v (.int .i64 0),.v (.slice none 0 0)] rfl xs k 162 2 true true
 refine LoopA.mk 1 0 [0,3,4] (A:=Nat) (fun k=>⟨23,[(0,.c (.sl (xs.map DSlot.c))),(3,.c (.ref 0)),(4,.c (.v (.int .i64 k)))],[⟨162,2,grow (xs.map DSlot.o) [.v (.int .i64 0),.v (.slice none 0 0)] k,true,true⟩]⟩) (fun k=>k ≤ xs.length) (fun k=>xs.length - k) 0 ⟨⟨rfl,by have:=hg 0; simp only [grow_zero,List.length_map] at this; exact this⟩,by simp only [grow_zero,List.length_map]; rfl,Nat.zero_le _⟩ ?_
 intro k hk
 simp only [go_sem,List.length_map]
 refine cndC.mk (fun h=>?_) (fun h=>?_)
 ·have hk' : k < xs.length:=by simpa using h
  have hset:=@grow_setm _ DSlot.o xs [.v (.int .i64 0),.v (.slice none 0 0)] k hk'
  simp only [go_sem,map_at _ hk',grow_lenm hk,grow_atm hk',hk',wrap_i64 (n:=(k : Int) + 1) (by omega) (by omega)]
  refine CallK.mk _ (by simpa only [go_sem] using hx xs[k] (List.getElem_mem hk')) fun _=>?_
  simp only [go_sem,map_at _ hk',grow_lenm hk,grow_atm hk',hk',wrap_i64 (n:=(k : Int) + 1) (by omega) (by omega)]
  refine ⟨k + 1,.inr ⟨k,grow (xs.map DSlot.o) [.v (.int .i64 0),.v (.slice none 0 0)] k,_,DSlot.o xs[k],_,⟨Nat.zero_lt_one,rfl,rfl,by rw [grow_lenm hk]; exact hk',rfl⟩, ?_,⟨rfl, ?_⟩, ?_⟩,by omega,by first | omega | (simp only; omega)⟩
  ·simp [DSlot.o_eq,OwnL,obAt,pureC,nr_Val]
  ·rw [absSt,hset]; exact hg _
  ·rw [absSt,hset]; rfl
 ·have hk' : k = xs.length:=by simp at h; omega
  subst hk'
  rw [grow_allm]
  simp only [go_sem]
  try simp [nr_Slot]
theorem toSlotS_ows (xs : List DSlot) (hf : fitS fitSlot xs) : Ctr Tryz.prog 184 [.c (.sl (xs.map DSlot.c))] [.own 162 2 (xs.map DSlot.o) true]:=toSlotS_ow xs hf.1 fun x hx=>toSlot_ow x (hf.2 x hx)
theorem toChunk_ow (d : DChunk) (hf : fitChunk d) : Ctr Tryz.prog 151 [.agg d.c] [.agg d.o]:=by
 rw [fitChunk_eq] at hf
 have f0:=hf
 refine Ctr.mk Tryz.call151 Tryz.func151 rfl mixed Tryz.ntmps151 Tryz.results151 (by kernel_rfl) rfl fun _=>?_
 simp only [go_sem]
 refine CallK.mk _ (by simpa only [go_sem] using toSlotS_ows d.l f0) fun _=>?_
 simp only [go_sem]
 try simp [OwnL,obAt,pureC,nrE,DChunk.o_eq]
theorem toBuf_ow (d : DBuf) (hf : fitBuf d) : Ctr Tryz.prog 102 [.agg d.c] [.agg d.o]:=by
 rw [fitBuf_eq] at hf
 obtain ⟨f0,f1⟩:=hf
 refine Ctr.mk Tryz.call102 Tryz.func102 rfl mixed Tryz.ntmps102 Tryz.results102 (by kernel_rfl) rfl fun _=>?_
 simp only [go_sem]
 refine CallK.mk _ (by simpa only [go_sem] using toChunk_ow d.c0 f0) fun _=>?_
 simp only [go_sem]
 refine CallK.mk _ (by simpa only [go_sem] using toByteS_own d.g f1) fun _=>?_
 simp only [go_sem]
 try simp [OwnL,obAt,pureC,nrE,DBuf.o_eq]
theorem toBufS_ow (xs : List DBuf) (hf : xs.length ≤ 1048576) (hx : ∀ x ∈ xs,Ctr Tryz.prog 102 [.agg x.c] [.agg x.o]) : Ctr Tryz.prog 48 [.c (.sl (xs.map DBuf.c))] [.own 101 5 (xs.map DBuf.o) true]:=by
 refine Ctr.mk Tryz.call48 Tryz.func48 rfl mixed Tryz.ntmps48 Tryz.results48 (by kernel_rfl) rfl fun _=>?_
 have hc : (0 : Int) ≤ xs.length ∧ (xs.length : Int) ≤ xs.length ∧ (xs.length : Int) ≤ 2147483648:=by omega
 simp only [go_sem,List.length_map,hc,List.length_replicate]
 have hg:=fun k=>@trim1_growO _ DBuf.o DBuf.o_nr [.v (.int .i64 0),.v (.int .i64 0),.v (.int .i64 0),.v (.slice none 0 0),.v (.slice none 0 0)] rfl xs k 101 5 true true
 refine LoopA.mk 1 0 [0,3,4] (A:=Nat) (fun k=>⟨23,[(0,.c (.sl (xs.map DBuf.c))),(3,.c (.ref 0)),(4,.c (.v (.int .i64 k)))],[⟨101,5,grow (xs.map DBuf.o) [.v (.int .i64 0),.v (.int .i64 0),.v (.int .i64 0),.v (.slice none 0 0),.v (.slice none 0 0)] k,true,true⟩]⟩) (fun k=>k ≤ xs.length) (fun k=>xs.length - k) 0 ⟨⟨rfl,by have:=hg 0; simp only [grow_zero,List.length_map] at this; exact this⟩,by simp only [grow_zero,List.length_map]; rfl,Nat.zero_le _⟩ ?_
 intro k hk
 simp only [go_sem,List.length_map]
 refine cndC.mk (fun h=>?_) (fun h=>?_)
 ·have hk' : k < xs.length:=by simpa using h
  have hset:=@grow_setm _ DBuf.o xs [.v (.int .i64 0),.v (.int .i64 0),.v (.int .i64 0),.v (.slice none 0 0),.v (.slice none 0 0)] k hk'
  simp only [go_sem,map_at _ hk',grow_lenm hk,grow_atm hk',hk',wrap_i64 (n:=(k : Int) + 1) (by omega) (by omega)]
  refine CallK.mk _ (by simpa only [go_sem] using hx xs[k] (List.getElem_mem hk')) fun _=>?_
  simp only [go_sem,map_at _ hk',grow_lenm hk,grow_atm hk',hk',wrap_i64 (n:=(k : Int) + 1) (by omega) (by omega)]
  refine ⟨k + 1,.inr ⟨k,grow (xs.map DBuf.o) [.v (.int .i64 0),.v (.int .i64 0),.v (.int .i64 0),.v (.slice none 0 0),.v (.slice none 0 0)] k,_,DBuf.o xs[k],_,⟨Nat.zero_lt_one,rfl,rfl,by rw [grow_lenm hk]; exact hk',rfl⟩, ?_,⟨rfl, ?_⟩, ?_⟩,by omega,by first | omega | (simp only; omega)⟩
  ·simp [DBuf.o_eq,OwnL,obAt,pureC,DChunk.o_eq,DChunk.c_eq,nr_Slot,nr_byte]
  ·rw [absSt,hset]; exact hg _
  ·rw [absSt,hset]; rfl
 ·have hk' : k = xs.length:=by simp at h; omega
  subst hk'
  rw [grow_allm]
  simp only [go_sem]
  try simp [nr_Buf]
theorem toBufS_ows (xs : List DBuf) (hf : fitS fitBuf xs) : Ctr Tryz.prog 48 [.c (.sl (xs.map DBuf.c))] [.own 101 5 (xs.map DBuf.o) true]:=toBufS_ow xs hf.1 fun x hx=>toBuf_ow x (hf.2 x hx)
theorem toDir_ow (d : DDir) (hf : fitDir d) : Ctr Tryz.prog 47 [.agg d.c] [.agg d.o]:=by
 rw [fitDir_eq] at hf
 have f0:=hf
 refine Ctr.mk Tryz.call47 Tryz.func47 rfl mixed Tryz.ntmps47 Tryz.results47 (by kernel_rfl) rfl fun _=>?_
 simp only [go_sem]
 refine CallK.mk _ (by simpa only [go_sem] using toRefS_own d.l f0 fun x hx=>toRef_spec x) fun _=>?_
 simp only [go_sem]
 try simp [OwnL,obAt,pureC,nrE,DDir.o_eq]
theorem toTask_ow (d : DTask) (hf : fitTask d) : Ctr Tryz.prog 104 [.agg d.c] [.agg d.o]:=by
 rw [fitTask_eq] at hf
 obtain ⟨f0,f1,f2,f3⟩:=hf
 refine Ctr.mk Tryz.call104 Tryz.func104 rfl mixed Tryz.ntmps104 Tryz.results104 (by kernel_rfl) rfl fun _=>?_
 simp only [go_sem]
 refine CallK.mk _ (by simpa only [go_sem] using toValS_own d.r f0.1 fun x hx=>toVal_spec x (f0.2 x hx)) fun _=>?_
 simp only [go_sem]
 refine CallK.mk _ (by simpa only [go_sem] using toQuery_ow d.q f1) fun _=>?_
 simp only [go_sem]
 refine CallK.mk _ (by simpa only [go_sem] using toRefS_own d.l f2 fun x hx=>toRef_spec x) fun _=>?_
 simp only [go_sem]
 refine CallK.mk _ (by simpa only [go_sem] using toRowS_ows d.got f3) fun _=>?_
 simp only [go_sem]
 try simp [OwnL,obAt,pureC,nrE,DTask.o_eq]
theorem toTaskS_ow (xs : List DTask) (hf : xs.length ≤ 1048576) (hx : ∀ x ∈ xs,Ctr Tryz.prog 104 [.agg x.c] [.agg x.o]) : Ctr Tryz.prog 51 [.c (.sl (xs.map DTask.c))] [.own 172 25 (xs.map DTask.o) true]:=by
 refine Ctr.mk Tryz.call51 Tryz.func51 rfl mixed Tryz.ntmps51 Tryz.results51 (by kernel_rfl) rfl fun _=>?_
 have hc : (0 : Int) ≤ xs.length ∧ (xs.length : Int) ≤ xs.length ∧ (xs.length : Int) ≤ 2147483648:=by omega
 simp only [go_sem,List.length_map,hc,List.length_replicate]
 have hg:=fun k=>@trim1_growO _ DTask.o DTask.o_nr [.v (.int .i64 0),.v (.int .i64 0),.v (.int .i64 0),.v (.slice none 0 0),.v (.int .i64 0),.v (.int .i64 0),.v (.int .i64 0),.v (.int .i64 0),.v (.int .i64 0),.v (.int .i64 0),.v (.int .i64 0),.v (.string ByteArray.empty),.v (.slice none 0 0),.v (.int .i64 0),.v (.slice none 0 0),.v (.int .i64 0),.v (.int .i64 0),.v (.slice none 0 0),.v (.int .i64 0),.v (.int .i64 0),.v (.int .i64 0),.v (.int .i64 0),.v (.int .i64 0),.v (.bool false),.v (.slice none 0 0)] rfl xs k 172 25 true true
 refine LoopA.mk 1 0 [0,3,4] (A:=Nat) (fun k=>⟨23,[(0,.c (.sl (xs.map DTask.c))),(3,.c (.ref 0)),(4,.c (.v (.int .i64 k)))],[⟨172,25,grow (xs.map DTask.o) [.v (.int .i64 0),.v (.int .i64 0),.v (.int .i64 0),.v (.slice none 0 0),.v (.int .i64 0),.v (.int .i64 0),.v (.int .i64 0),.v (.int .i64 0),.v (.int .i64 0),.v (.int .i64 0),.v (.int .i64 0),.v (.string ByteArray.empty),.v (.slice none 0 0),.v (.int .i64 0),.v (.slice none 0 0),.v (.int .i64 0),.v (.int .i64 0),.v (.slice none 0 0),.v (.int .i64 0),.v (.int .i64 0),.v (.int .i64 0),.v (.int .i64 0),.v (.int .i64 0),.v (.bool false),.v (.slice none 0 0)] k,true,true⟩]⟩) (fun k=>k ≤ xs.length) (fun k=>xs.length - k) 0 ⟨⟨rfl,by have:=hg 0; simp only [grow_zero,List.length_map] at this; exact this⟩,by simp only [grow_zero,List.length_map]; rfl,Nat.zero_le _⟩ ?_
 intro k hk
 simp only [go_sem,List.length_map]
 refine cndC.mk (fun h=>?_) (fun h=>?_)
 ·have hk' : k < xs.length:=by simpa using h
  have hset:=@grow_setm _ DTask.o xs [.v (.int .i64 0),.v (.int .i64 0),.v (.int .i64 0),.v (.slice none 0 0),.v (.int .i64 0),.v (.int .i64 0),.v (.int .i64 0),.v (.int .i64 0),.v (.int .i64 0),.v (.int .i64 0),.v (.int .i64 0),.v (.string ByteArray.empty),.v (.slice none 0 0),.v (.int .i64 0),.v (.slice none 0 0),.v (.int .i64 0),.v (.int .i64 0),.v (.slice none 0 0),.v (.int .i64 0),.v (.int .i64 0),.v (.int .i64 0),.v (.int .i64 0),.v (.int .i64 0),.v (.bool false),.v (.slice none 0 0)] k hk'
  simp only [go_sem,map_at _ hk',grow_lenm hk,grow_atm hk',hk',wrap_i64 (n:=(k : Int) + 1) (by omega) (by omega)]
  refine CallK.mk _ (by simpa only [go_sem] using hx xs[k] (List.getElem_mem hk')) fun _=>?_
  simp only [go_sem,map_at _ hk',grow_lenm hk,grow_atm hk',hk',wrap_i64 (n:=(k : Int) + 1) (by omega) (by omega)]
  refine ⟨k + 1,.inr ⟨k,grow (xs.map DTask.o) [.v (.int .i64 0),.v (.int .i64 0),.v (.int .i64 0),.v (.slice none 0 0),.v (.int .i64 0),.v (.int .i64 0),.v (.int .i64 0),.v (.int .i64 0),.v (.int .i64 0),.v (.int .i64 0),.v (.int .i64 0),.v (.string ByteArray.empty),.v (.slice none 0 0),.v (.int .i64 0),.v (.slice none 0 0),.v (.int .i64 0),.v (.int .i64 0),.v (.slice none 0 0),.v (.int .i64 0),.v (.int .i64 0),.v (.int .i64 0),.v (.int .i64 0),.v (.int .i64 0),.v (.bool false),.v (.slice none 0 0)] k,_,DTask.o xs[k],_,⟨Nat.zero_lt_one,rfl,rfl,by rw [grow_lenm hk]; exact hk',rfl⟩, ?_,⟨rfl, ?_⟩, ?_⟩,by omega,by first | omega | (simp only; omega)⟩
  ·simp [DTask.o_eq,OwnL,obAt,pureC,DPred.o_eq,DPred.c_eq,DQuery.o_eq,DQuery.c_eq,DVal.c_eq,nr_Pred,nr_Ref,nr_Row,nr_Val,nr_int]
  ·rw [absSt,hset]; exact hg _
  ·rw [absSt,hset]; rfl
 ·have hk' : k = xs.length:=by simp at h; omega
  subst hk'
  rw [grow_allm]
  simp only [go_sem]
  try simp [nr_Task]
theorem toTaskS_ows (xs : List DTask) (hf : fitS fitTask xs) : Ctr Tryz.prog 51 [.c (.sl (xs.map DTask.c))] [.own 172 25 (xs.map DTask.o) true]:=toTaskS_ow xs hf.1 fun x hx=>toTask_ow x (hf.2 x hx)
theorem toDeed_ow (d : DDeed) (hf : fitDeed d) : Ctr Tryz.prog 105 [.agg d.c] [.agg d.o]:=by
 rw [fitDeed_eq] at hf
 obtain ⟨f0,f1,f2⟩:=hf
 refine Ctr.mk Tryz.call105 Tryz.func105 rfl mixed Tryz.ntmps105 Tryz.results105 (by kernel_rfl) rfl fun _=>?_
 simp only [go_sem]
 refine CallK.mk _ (by simpa only [go_sem] using toValS_own d.r f0.1 fun x hx=>toVal_spec x (f0.2 x hx)) fun _=>?_
 simp only [go_sem]
 refine CallK.mk _ (by simpa only [go_sem] using toQuery_ow d.q f1) fun _=>?_
 simp only [go_sem]
 refine CallK.mk _ (by simpa only [go_sem] using toResult_ow d.res f2) fun _=>?_
 simp only [go_sem]
 try simp [OwnL,obAt,pureC,nrE,DDeed.o_eq]
theorem toDeedS_ow (xs : List DDeed) (hf : xs.length ≤ 1048576) (hx : ∀ x ∈ xs,Ctr Tryz.prog 105 [.agg x.c] [.agg x.o]) : Ctr Tryz.prog 52 [.c (.sl (xs.map DDeed.c))] [.own 175 25 (xs.map DDeed.o) true]:=by
 refine Ctr.mk Tryz.call52 Tryz.func52 rfl mixed Tryz.ntmps52 Tryz.results52 (by kernel_rfl) rfl fun _=>?_
 have hc : (0 : Int) ≤ xs.length ∧ (xs.length : Int) ≤ xs.length ∧ (xs.length : Int) ≤ 2147483648:=by omega
 simp only [go_sem,List.length_map,hc,List.length_replicate]
 have hg:=fun k=>@trim1_growO _ DDeed.o DDeed.o_nr [.v (.int .i64 0),.v (.int .i64 0),.v (.slice none 0 0),.v (.int .i64 0),.v (.int .i64 0),.v (.int .i64 0),.v (.int .i64 0),.v (.int .i64 0),.v (.int .i64 0),.v (.int .i64 0),.v (.string ByteArray.empty),.v (.slice none 0 0),.v (.int .i64 0),.v (.slice none 0 0),.v (.slice none 0 0),.v (.int .i64 0),.v (.bool false),.v (.int .i64 0),.v (.int .i64 0),.v (.string ByteArray.empty),.v (.int .i64 0),.v (.int .i64 0),.v (.int .i64 0),.v (.int .i64 0),.v (.int .i64 0)] rfl xs k 175 25 true true
 refine LoopA.mk 1 0 [0,3,4] (A:=Nat) (fun k=>⟨23,[(0,.c (.sl (xs.map DDeed.c))),(3,.c (.ref 0)),(4,.c (.v (.int .i64 k)))],[⟨175,25,grow (xs.map DDeed.o) [.v (.int .i64 0),.v (.int .i64 0),.v (.slice none 0 0),.v (.int .i64 0),.v (.int .i64 0),.v (.int .i64 0),.v (.int .i64 0),.v (.int .i64 0),.v (.int .i64 0),.v (.int .i64 0),.v (.string ByteArray.empty),.v (.slice none 0 0),.v (.int .i64 0),.v (.slice none 0 0),.v (.slice none 0 0),.v (.int .i64 0),.v (.bool false),.v (.int .i64 0),.v (.int .i64 0),.v (.string ByteArray.empty),.v (.int .i64 0),.v (.int .i64 0),.v (.int .i64 0),.v (.int .i64 0),.v (.int .i64 0)] k,true,true⟩]⟩) (fun k=>k ≤ xs.length) (fun k=>xs.length - k) 0 ⟨⟨rfl,by have:=hg 0; simp only [grow_zero,List.length_map] at this; exact this⟩,by simp only [grow_zero,List.length_map]; rfl,Nat.zero_le _⟩ ?_
 intro k hk
 simp only [go_sem,List.length_map]
 refine cndC.mk (fun h=>?_) (fun h=>?_)
 ·have hk' : k < xs.length:=by simpa using h
  have hset:=@grow_setm _ DDeed.o xs [.v (.int .i64 0),.v (.int .i64 0),.v (.slice none 0 0),.v (.int .i64 0),.v (.int .i64 0),.v (.int .i64 0),.v (.int .i64 0),.v (.int .i64 0),.v (.int .i64 0),.v (.int .i64 0),.v (.string ByteArray.empty),.v (.slice none 0 0),.v (.int .i64 0),.v (.slice none 0 0),.v (.slice none 0 0),.v (.int .i64 0),.v (.bool false),.v (.int .i64 0),.v (.int .i64 0),.v (.string ByteArray.empty),.v (.int .i64 0),.v (.int .i64 0),.v (.int .i64 0),.v (.int .i64 0),.v (.int .i64 0)] k hk'
  simp only [go_sem,map_at _ hk',grow_lenm hk,grow_atm hk',hk',wrap_i64 (n:=(k : Int) + 1) (by omega) (by omega)]
  refine CallK.mk _ (by simpa only [go_sem] using hx xs[k] (List.getElem_mem hk')) fun _=>?_
  simp only [go_sem,map_at _ hk',grow_lenm hk,grow_atm hk',hk',wrap_i64 (n:=(k : Int) + 1) (by omega) (by omega)]
  refine ⟨k + 1,.inr ⟨k,grow (xs.map DDeed.o) [.v (.int .i64 0),.v (.int .i64 0),.v (.slice none 0 0),.v (.int .i64 0),.v (.int .i64 0),.v (.int .i64 0),.v (.int .i64 0),.v (.int .i64 0),.v (.int .i64 0),.v (.int .i64 0),.v (.string ByteArray.empty),.v (.slice none 0 0),.v (.int .i64 0),.v (.slice none 0 0),.v (.slice none 0 0),.v (.int .i64 0),.v (.bool false),.v (.int .i64 0),.v (.int .i64 0),.v (.string ByteArray.empty),.v (.int .i64 0),.v (.int .i64 0),.v (.int .i64 0),.v (.int .i64 0),.v (.int .i64 0)] k,_,DDeed.o xs[k],_,⟨Nat.zero_lt_one,rfl,rfl,by rw [grow_lenm hk]; exact hk',rfl⟩, ?_,⟨rfl, ?_⟩, ?_⟩,by omega,by first | omega | (simp only; omega)⟩
  ·simp [DDeed.o_eq,OwnL,obAt,pureC,DPred.o_eq,DPred.c_eq,DQuery.o_eq,DQuery.c_eq,DResult.o_eq,DResult.c_eq,DVal.c_eq,nr_Pred,nr_Row,nr_Val,nr_int]
  ·rw [absSt,hset]; exact hg _
  ·rw [absSt,hset]; rfl
 ·have hk' : k = xs.length:=by simp at h; omega
  subst hk'
  rw [grow_allm]
  simp only [go_sem]
  try simp [nr_Deed]
theorem toDeedS_ows (xs : List DDeed) (hf : fitS fitDeed xs) : Ctr Tryz.prog 52 [.c (.sl (xs.map DDeed.c))] [.own 175 25 (xs.map DDeed.o) true]:=toDeedS_ow xs hf.1 fun x hx=>toDeed_ow x (hf.2 x hx)
theorem toConf_ow (d : DConf) (hf : fitConf d) : Ctr Tryz.prog 46 [.agg d.c] [.agg d.o]:=by
 rw [fitConf_eq] at hf
 have f0:=hf
 refine Ctr.mk Tryz.call46 Tryz.func46 rfl mixed Tryz.ntmps46 Tryz.results46 (by kernel_rfl) rfl fun _=>?_
 simp only [go_sem]
 refine CallK.mk _ (by simpa only [go_sem] using toIntS_own d.cols f0) fun _=>?_
 simp only [go_sem]
 try simp [OwnL,obAt,pureC,nrE,DConf.o_eq]
theorem toWorld_ow (d : DWorld) (hf : fitWorld d) : Ctr Tryz.prog 11 [.agg d.c] [.agg d.o]:=by
 rw [fitWorld_eq] at hf
 obtain ⟨f0,f1,f2,f3,f4,f5,f6,f7⟩:=hf
 refine Ctr.mk Tryz.call11 Tryz.func11 rfl mixed Tryz.ntmps11 Tryz.results11 (by kernel_rfl) rfl fun _=>?_
 simp only [go_sem]
 refine CallK.mk _ (by simpa only [go_sem] using toConf_ow d.c0 f0) fun _=>?_
 simp only [go_sem]
 refine CallK.mk _ (by simpa only [go_sem] using toDir_ow d.d f1) fun _=>?_
 simp only [go_sem]
 refine CallK.mk _ (by simpa only [go_sem] using toBufS_ows d.b f2) fun _=>?_
 simp only [go_sem]
 refine CallK.mk _ (by simpa only [go_sem] using toIntS_own d.m f3) fun _=>?_
 simp only [go_sem]
 refine CallK.mk _ (by simpa only [go_sem] using toDeadS_own d.x f4 fun x hx=>toDead_spec x) fun _=>?_
 simp only [go_sem]
 refine CallK.mk _ (by simpa only [go_sem] using toIntS_own d.p f5) fun _=>?_
 simp only [go_sem]
 refine CallK.mk _ (by simpa only [go_sem] using toTaskS_ows d.tasks f6) fun _=>?_
 simp only [go_sem]
 refine CallK.mk _ (by simpa only [go_sem] using toDeedS_ows d.deeds f7) fun _=>?_
 simp only [go_sem]
 try simp [OwnL,obAt,pureC,nrE,DWorld.o_eq]
end Go.Proofs.YthoeeoddgkjkkaaGreat
