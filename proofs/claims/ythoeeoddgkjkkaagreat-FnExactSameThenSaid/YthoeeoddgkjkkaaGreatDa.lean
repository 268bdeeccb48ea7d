/- Typed data of the laws, its cells, its sizes: by program (gen_data.py). -/
import Derived.Test.YthoeeoddgkjkkaaGreatVmW
namespace Go.Proofs.YthoeeoddgkjkkaaGreat
set_option linter.unusedSimpArgs false
set_option linter.unusedVariables false
open Go.Vm
def intC (n : Int) : List Cl:=[.v (.int .i64 n)]
@[go_sem] theorem intC_eq (n : Int) : intC n = [.v (.int .i64 n)]:=rfl
def byteC (n : Int) : List Cl:=[.v (.int .u8 n)]
@[go_sem] theorem byteC_eq (n : Int) : byteC n = [.v (.int .u8 n)]:=rfl
def sq (x : Int) (k : Int → Int) : Int:=if x < 0 then -1 else k x
theorem sq_neg {x : Int} {k : Int → Int} (h : x < 0) : sq x k = -1:=if_pos h
theorem sq_pos {x : Int} {k : Int → Int} (h : ¬ x < 0) : sq x k = k x:=if_neg h
def szI (n : Nat) (l : Int) : Int:=if l - n < 0 then -1 else l - n
def szL {α : Type} (f : α → Int → Int) : List α → Int → Int
 | [],l=>l
 | x :: xs,l=>sq (f x l) (szL f xs)
def szS {α : Type} (f : α → Int → Int) (xs : List α) (l : Int) : Int:=sq (szI xs.length l) (szL f xs)
def fitS {α : Type} (F : α → Prop) (xs : List α) : Prop:=xs.length ≤ 1048576 ∧ ∀ x ∈ xs,F x
theorem szI_fit {n : Nat} {l : Int} (h : 0 ≤ szI n l) (hl : l ≤ 1048576) : n ≤ 1048576 ∧ szI n l ≤ l:=by
 unfold szI at *
 split at h <;> simp_all <;> omega
theorem sq_fit {x : Int} {k : Int → Int} (h : 0 ≤ sq x k) : 0 ≤ x ∧ 0 ≤ k x ∧ sq x k = k x:=by
 unfold sq at *
 split at h
 ·omega
 ·rename_i hx
  exact ⟨by omega,h,if_neg hx⟩
theorem szL_fit {α : Type} {f : α → Int → Int} {F : α → Prop} : ∀ (xs : List α) (_ : ∀ x ∈ xs,∀ l,0 ≤ f x l → l ≤ 1048576 → F x ∧ f x l ≤ l) (l : Int),0 ≤ szL f xs l → l ≤ 1048576 → (∀ x ∈ xs,F x) ∧ szL f xs l ≤ l
 | [],_,l,_,_=>⟨by simp,by simp [szL]⟩
 | x :: xs,hf,l,h,hl=>by
  simp only [szL] at h ⊢
  obtain ⟨h1,h2,h3⟩:=sq_fit h
  obtain ⟨g1,g2⟩:=hf x (by simp) l h1 hl
  obtain ⟨g3,g4⟩:=szL_fit xs (fun y hy=>hf y (by simp [hy])) _ h2 (by omega)
  exact ⟨by simp only [List.mem_cons,forall_eq_or_imp]; exact ⟨g1,g3⟩,by rw [h3]; omega⟩
theorem szS_fit {α : Type} {f : α → Int → Int} {F : α → Prop} (xs : List α) (hf : ∀ x ∈ xs,∀ l,0 ≤ f x l → l ≤ 1048576 → F x ∧ f x l ≤ l) {l : Int} (h : 0 ≤ szS f xs l) (hl : l ≤ 1048576) : fitS F xs ∧ szS f xs l ≤ l:=by
 unfold szS at h ⊢
 obtain ⟨h1,h2,h3⟩:=sq_fit h
 obtain ⟨g1,g2⟩:=szI_fit h1 hl
 obtain ⟨g3,g4⟩:=szL_fit xs hf _ h2 (by omega)
 exact ⟨⟨g1,g3⟩,by rw [h3]; omega⟩
structure DVal where
 ty : Int
 n : Int
 s : ByteArray
def DVal.c (d : DVal) : List Cl:=[.v (.int .i64 d.ty)] ++ ([.v (.int .i64 d.n)] ++ ([.v (.string d.s)]))
@[go_sem] theorem DVal.c_eq (d : DVal) : d.c = [.v (.int .i64 d.ty)] ++ ([.v (.int .i64 d.n)] ++ ([.v (.string d.s)])):=rfl
def szVal (d : DVal) (l : Int) : Int:=sq (szI d.s.size l) fun l=>l
theorem szVal_eq (d : DVal) (l : Int) : szVal d l = sq (szI d.s.size l) fun l=>l:=rfl
structure DRow where
 id : Int
 l : List DVal
def DRow.c (d : DRow) : List Cl:=[.v (.int .i64 d.id)] ++ ([.sl (d.l.map DVal.c)])
@[go_sem] theorem DRow.c_eq (d : DRow) : d.c = [.v (.int .i64 d.id)] ++ ([.sl (d.l.map DVal.c)]):=rfl
def szRow (d : DRow) (l : Int) : Int:=sq (szS szVal d.l l) fun l=>l
theorem szRow_eq (d : DRow) (l : Int) : szRow d l = sq (szS szVal d.l l) fun l=>l:=rfl
inductive DPred where
 | mk (kind : Int) (col : Int) (op : Int) (v : DVal) (l : List DPred)
def DPred.kind : DPred → Int | .mk kind _ _ _ _=>kind
def DPred.col : DPred → Int | .mk _ col _ _ _=>col
def DPred.op : DPred → Int | .mk _ _ op _ _=>op
def DPred.v : DPred → DVal | .mk _ _ _ v _=>v
def DPred.l : DPred → List DPred | .mk _ _ _ _ l=>l
mutual
def DPred.c : DPred → List Cl
 | .mk kind col op v l=>[.v (.int .i64 kind)] ++ ([.v (.int .i64 col)] ++ ([.v (.int .i64 op)] ++ (v.c ++ ([.sl (DPred.cs l)]))))
def DPred.cs : List DPred → List (List Cl)
 | []=>[]
 | x :: xs=>x.c :: DPred.cs xs
end
theorem DPred.cs_eq : ∀ l : List DPred,DPred.cs l = l.map DPred.c
 | []=>by simp only [DPred.cs,List.map_nil]
 | x :: xs=>by simp only [DPred.cs,List.map_cons,DPred.cs_eq xs]
@[go_sem] theorem DPred.c_eq (d : DPred) : d.c = [.v (.int .i64 d.kind)] ++ ([.v (.int .i64 d.col)] ++ ([.v (.int .i64 d.op)] ++ (d.v.c ++ ([.sl (d.l.map DPred.c)])))):=by
 cases d
 simp only [DPred.c,DPred.cs_eq,DPred.kind,DPred.col,DPred.op,DPred.v,DPred.l]
mutual
def szPred : DPred → Int → Int
 | .mk kind col op v l,m0=>sq ((szVal v) m0) fun m0=>sq ((fun m=>sq (szI l.length m) (szPredL l)) m0) fun m0=>m0
def szPredL : List DPred → Int → Int
 | [],l=>l
 | x :: xs,l=>sq (szPred x l) (szPredL xs)
end
theorem szPredL_eq : ∀ (l : List DPred) (m : Int),szPredL l m = szL szPred l m
 | [],m=>by simp only [szPredL,szL]
 | x :: xs,m=>by
  simp only [szPredL,szL]
  congr 1
  funext m
  exact szPredL_eq xs m
theorem szPred_eq (d : DPred) (l : Int) : szPred d l = sq (szVal d.v l) fun l=>sq (szS szPred d.l l) fun l=>l:=by
 have h : szPredL = szL szPred:=by funext l m; exact szPredL_eq l m
 cases d
 simp only [szPred,szS,h,DPred.kind,DPred.col,DPred.op,DPred.v,DPred.l]
structure DQuery where
 kind : Int
 p : DPred
 col : Int
 out : List Int
def DQuery.c (d : DQuery) : List Cl:=[.v (.int .i64 d.kind)] ++ (d.p.c ++ ([.v (.int .i64 d.col)] ++ ([.sl (d.out.map intC)])))
@[go_sem] theorem DQuery.c_eq (d : DQuery) : d.c = [.v (.int .i64 d.kind)] ++ (d.p.c ++ ([.v (.int .i64 d.col)] ++ ([.sl (d.out.map intC)]))):=rfl
def szQuery (d : DQuery) (l : Int) : Int:=sq (szPred d.p l) fun l=>sq (szI d.out.length l) fun l=>l
theorem szQuery_eq (d : DQuery) (l : Int) : szQuery d l = sq (szPred d.p l) fun l=>sq (szI d.out.length l) fun l=>l:=rfl
structure DResult where
 rows : List DRow
 n : Int
 has : Bool
 v : DVal
def DResult.c (d : DResult) : List Cl:=[.sl (d.rows.map DRow.c)] ++ ([.v (.int .i64 d.n)] ++ ([.v (.bool d.has)] ++ (d.v.c)))
@[go_sem] theorem DResult.c_eq (d : DResult) : d.c = [.sl (d.rows.map DRow.c)] ++ ([.v (.int .i64 d.n)] ++ ([.v (.bool d.has)] ++ (d.v.c))):=rfl
def szResult (d : DResult) (l : Int) : Int:=sq (szS szRow d.rows l) fun l=>sq (szVal d.v l) fun l=>l
theorem szResult_eq (d : DResult) (l : Int) : szResult d l = sq (szS szRow d.rows l) fun l=>sq (szVal d.v l) fun l=>l:=rfl
structure DSlot where
 ins : Int
 l : List DVal
def DSlot.c (d : DSlot) : List Cl:=[.v (.int .i64 d.ins)] ++ ([.sl (d.l.map DVal.c)])
@[go_sem] theorem DSlot.c_eq (d : DSlot) : d.c = [.v (.int .i64 d.ins)] ++ ([.sl (d.l.map DVal.c)]):=rfl
def szSlot (d : DSlot) (l : Int) : Int:=sq (szS szVal d.l l) fun l=>l
theorem szSlot_eq (d : DSlot) (l : Int) : szSlot d l = sq (szS szVal d.l l) fun l=>l:=rfl
structure DChunk where
 next : Int
 l : List DSlot
def DChunk.c (d : DChunk) : List Cl:=[.v (.int .i64 d.next)] ++ ([.sl (d.l.map DSlot.c)])
@[go_sem] theorem DChunk.c_eq (d : DChunk) : d.c = [.v (.int .i64 d.next)] ++ ([.sl (d.l.map DSlot.c)]):=rfl
def szChunk (d : DChunk) (l : Int) : Int:=sq (szS szSlot d.l l) fun l=>l
theorem szChunk_eq (d : DChunk) (l : Int) : szChunk d l = sq (szS szSlot d.l l) fun l=>l:=rfl
structure DBuf where
 gen : Int
 kind : Int
 c0 : DChunk
 g : List Int
def DBuf.c (d : DBuf) : List Cl:=[.v (.int .i64 d.gen)] ++ ([.v (.int .i64 d.kind)] ++ (d.c0.c ++ ([.sl (d.g.map byteC)])))
@[go_sem] theorem DBuf.c_eq (d : DBuf) : d.c = [.v (.int .i64 d.gen)] ++ ([.v (.int .i64 d.kind)] ++ (d.c0.c ++ ([.sl (d.g.map byteC)]))):=rfl
def szBuf (d : DBuf) (l : Int) : Int:=sq (szChunk d.c0 l) fun l=>sq (szI d.g.length l) fun l=>l
theorem szBuf_eq (d : DBuf) (l : Int) : szBuf d l = sq (szChunk d.c0 l) fun l=>sq (szI d.g.length l) fun l=>l:=rfl
structure DDead where
 buf : Int
 gen : Int
 at0 : Int
def DDead.c (d : DDead) : List Cl:=[.v (.int .i64 d.buf)] ++ ([.v (.int .i64 d.gen)] ++ ([.v (.int .i64 d.at0)]))
@[go_sem] theorem DDead.c_eq (d : DDead) : d.c = [.v (.int .i64 d.buf)] ++ ([.v (.int .i64 d.gen)] ++ ([.v (.int .i64 d.at0)])):=rfl
structure DRef where
 buf : Int
 gen : Int
 kind : Int
 first : Int
 many : Int
def DRef.c (d : DRef) : List Cl:=[.v (.int .i64 d.buf)] ++ ([.v (.int .i64 d.gen)] ++ ([.v (.int .i64 d.kind)] ++ ([.v (.int .i64 d.first)] ++ ([.v (.int .i64 d.many)]))))
@[go_sem] theorem DRef.c_eq (d : DRef) : d.c = [.v (.int .i64 d.buf)] ++ ([.v (.int .i64 d.gen)] ++ ([.v (.int .i64 d.kind)] ++ ([.v (.int .i64 d.first)] ++ ([.v (.int .i64 d.many)])))):=rfl
structure DDir where
 ver : Int
 l : List DRef
def DDir.c (d : DDir) : List Cl:=[.v (.int .i64 d.ver)] ++ ([.sl (d.l.map DRef.c)])
@[go_sem] theorem DDir.c_eq (d : DDir) : d.c = [.v (.int .i64 d.ver)] ++ ([.sl (d.l.map DRef.c)]):=rfl
def szDir (d : DDir) (l : Int) : Int:=sq (szI d.l.length l) fun l=>l
theorem szDir_eq (d : DDir) (l : Int) : szDir d l = sq (szI d.l.length l) fun l=>l:=rfl
structure DTask where
 op : Int
 pc : Int
 h : Int
 r : List DVal
 id : Int
 q : DQuery
 ts : Int
 ver : Int
 l : List DRef
 i : Int
 j : Int
 s : Int
 at0 : Int
 own : Int
 won : Bool
 got : List DRow
def DTask.c (d : DTask) : List Cl:=[.v (.int .i64 d.op)] ++ ([.v (.int .i64 d.pc)] ++ ([.v (.int .i64 d.h)] ++ ([.sl (d.r.map DVal.c)] ++ ([.v (.int .i64 d.id)] ++ (d.q.c ++ ([.v (.int .i64 d.ts)] ++ ([.v (.int .i64 d.ver)] ++ ([.sl (d.l.map DRef.c)] ++ ([.v (.int .i64 d.i)] ++ ([.v (.int .i64 d.j)] ++ ([.v (.int .i64 d.s)] ++ ([.v (.int .i64 d.at0)] ++ ([.v (.int .i64 d.own)] ++ ([.v (.bool d.won)] ++ ([.sl (d.got.map DRow.c)])))))))))))))))
@[go_sem] theorem DTask.c_eq (d : DTask) : d.c = [.v (.int .i64 d.op)] ++ ([.v (.int .i64 d.pc)] ++ ([.v (.int .i64 d.h)] ++ ([.sl (d.r.map DVal.c)] ++ ([.v (.int .i64 d.id)] ++ (d.q.c ++ ([.v (.int .i64 d.ts)] ++ ([.v (.int .i64 d.ver)] ++ ([.sl (d.l.map DRef.c)] ++ ([.v (.int .i64 d.i)] ++ ([.v (.int .i64 d.j)] ++ ([.v (.int .i64 d.s)] ++ ([.v (.int .i64 d.at0)] ++ ([.v (.int .i64 d.own)] ++ ([.v (.bool d.won)] ++ ([.sl (d.got.map DRow.c)]))))))))))))))):=rfl
def szTask (d : DTask) (l : Int) : Int:=sq (szS szVal d.r l) fun l=>sq (szQuery d.q l) fun l=>sq (szI d.l.length l) fun l=>sq (szS szRow d.got l) fun l=>l
theorem szTask_eq (d : DTask) (l : Int) : szTask d l = sq (szS szVal d.r l) fun l=>sq (szQuery d.q l) fun l=>sq (szI d.l.length l) fun l=>sq (szS szRow d.got l) fun l=>l:=rfl
structure DDeed where
 op : Int
 task : Int
 r : List DVal
 id : Int
 q : DQuery
 res : DResult
 code : Int
 stamp : Int
 inv : Int
 lin : Int
 ret : Int
def DDeed.c (d : DDeed) : List Cl:=[.v (.int .i64 d.op)] ++ ([.v (.int .i64 d.task)] ++ ([.sl (d.r.map DVal.c)] ++ ([.v (.int .i64 d.id)] ++ (d.q.c ++ (d.res.c ++ ([.v (.int .i64 d.code)] ++ ([.v (.int .i64 d.stamp)] ++ ([.v (.int .i64 d.inv)] ++ ([.v (.int .i64 d.lin)] ++ ([.v (.int .i64 d.ret)]))))))))))
@[go_sem] theorem DDeed.c_eq (d : DDeed) : d.c = [.v (.int .i64 d.op)] ++ ([.v (.int .i64 d.task)] ++ ([.sl (d.r.map DVal.c)] ++ ([.v (.int .i64 d.id)] ++ (d.q.c ++ (d.res.c ++ ([.v (.int .i64 d.code)] ++ ([.v (.int .i64 d.stamp)] ++ ([.v (.int .i64 d.inv)] ++ ([.v (.int .i64 d.lin)] ++ ([.v (.int .i64 d.ret)])))))))))):=rfl
def szDeed (d : DDeed) (l : Int) : Int:=sq (szS szVal d.r l) fun l=>sq (szQuery d.q l) fun l=>sq (szResult d.res l) fun l=>l
theorem szDeed_eq (d : DDeed) (l : Int) : szDeed d l = sq (szS szVal d.r l) fun l=>sq (szQuery d.q l) fun l=>sq (szResult d.res l) fun l=>l:=rfl
structure DConf where
 cols : List Int
 slots : Int
 bufs : Int
def DConf.c (d : DConf) : List Cl:=[.sl (d.cols.map intC)] ++ ([.v (.int .i64 d.slots)] ++ ([.v (.int .i64 d.bufs)]))
@[go_sem] theorem DConf.c_eq (d : DConf) : d.c = [.sl (d.cols.map intC)] ++ ([.v (.int .i64 d.slots)] ++ ([.v (.int .i64 d.bufs)])):=rfl
def szConf (d : DConf) (l : Int) : Int:=sq (szI d.cols.length l) fun l=>l
theorem szConf_eq (d : DConf) (l : Int) : szConf d l = sq (szI d.cols.length l) fun l=>l:=rfl
structure DWorld where
 c0 : DConf
 time : Int
 t : Int
 e : Int
 d : DDir
 b : List DBuf
 m : List Int
 x : List DDead
 p : List Int
 tasks : List DTask
 deeds : List DDeed
def DWorld.c (d : DWorld) : List Cl:=d.c0.c ++ ([.v (.int .i64 d.time)] ++ ([.v (.int .i64 d.t)] ++ ([.v (.int .i64 d.e)] ++ (d.d.c ++ ([.sl (d.b.map DBuf.c)] ++ ([.sl (d.m.map intC)] ++ ([.sl (d.x.map DDead.c)] ++ ([.sl (d.p.map intC)] ++ ([.sl (d.tasks.map DTask.c)] ++ ([.sl (d.deeds.map DDeed.c)]))))))))))
@[go_sem] theorem DWorld.c_eq (d : DWorld) : d.c = d.c0.c ++ ([.v (.int .i64 d.time)] ++ ([.v (.int .i64 d.t)] ++ ([.v (.int .i64 d.e)] ++ (d.d.c ++ ([.sl (d.b.map DBuf.c)] ++ ([.sl (d.m.map intC)] ++ ([.sl (d.x.map DDead.c)] ++ ([.sl (d.p.map intC)] ++ ([.sl (d.tasks.map DTask.c)] ++ ([.sl (d.deeds.map DDeed.c)])))))))))):=rfl
def szWorld (d : DWorld) (l : Int) : Int:=sq (szConf d.c0 l) fun l=>sq (szDir d.d l) fun l=>sq (szS szBuf d.b l) fun l=>sq (szI d.m.length l) fun l=>sq (szI d.x.length l) fun l=>sq (szI d.p.length l) fun l=>sq (szS szTask d.tasks l) fun l=>sq (szS szDeed d.deeds l) fun l=>l
theorem szWorld_eq (d : DWorld) (l : Int) : szWorld d l = sq (szConf d.c0 l) fun l=>sq (szDir d.d l) fun l=>sq (szS szBuf d.b l) fun l=>sq (szI d.m.length l) fun l=>sq (szI d.x.length l) fun l=>sq (szI d.p.length l) fun l=>sq (szS szTask d.tasks l) fun l=>sq (szS szDeed d.deeds l) fun l=>l:=rfl
def fitVal (d : DVal) : Prop:=d.s.size ≤ 1048576
theorem fitVal_eq (d : DVal) : fitVal d = (d.s.size ≤ 1048576):=rfl
theorem szVal_fit (d : DVal) (l : Int) (h0 : 0 ≤ szVal d l) (hl : l ≤ 1048576) : fitVal d ∧ szVal d l ≤ l:=by
 rw [szVal_eq] at h0 ⊢
 rw [fitVal_eq]
 obtain ⟨a0,h1,e0⟩:=sq_fit h0
 obtain ⟨g0,b0⟩:=szI_fit a0 (by omega)
 exact ⟨g0,by rw [e0]; omega⟩
def fitRow (d : DRow) : Prop:=fitS fitVal d.l
theorem fitRow_eq (d : DRow) : fitRow d = (fitS fitVal d.l):=rfl
theorem szRow_fit (d : DRow) (l : Int) (h0 : 0 ≤ szRow d l) (hl : l ≤ 1048576) : fitRow d ∧ szRow d l ≤ l:=by
 rw [szRow_eq] at h0 ⊢
 rw [fitRow_eq]
 obtain ⟨a0,h1,e0⟩:=sq_fit h0
 obtain ⟨g0,b0⟩:=szS_fit d.l (fun x _=>szVal_fit x) a0 (by omega)
 exact ⟨g0,by rw [e0]; omega⟩
mutual
def fitPred : DPred → Prop
 | .mk kind col op v l=>fitVal v ∧ (l.length ≤ 1048576 ∧ fitPredL l)
def fitPredL : List DPred → Prop
 | []=>True
 | x :: xs=>fitPred x ∧ fitPredL xs
end
theorem fitPredL_eq : ∀ l : List DPred,fitPredL l = ∀ x ∈ l,fitPred x
 | []=>by simp [fitPredL]
 | x :: xs=>by simp [fitPredL,fitPredL_eq xs]
theorem fitPred_eq (d : DPred) : fitPred d = (fitVal d.v ∧ fitS fitPred d.l):=by
 cases d
 simp only [fitPred,fitS,fitPredL_eq,DPred.kind,DPred.col,DPred.op,DPred.v,DPred.l]
theorem szPred_fitof (d : DPred) (hx : ∀ x ∈ d.l,∀ l,0 ≤ szPred x l → l ≤ 1048576 → fitPred x ∧ szPred x l ≤ l) (l : Int) (h0 : 0 ≤ szPred d l) (hl : l ≤ 1048576) : fitPred d ∧ szPred d l ≤ l:=by
 rw [szPred_eq] at h0 ⊢
 rw [fitPred_eq]
 obtain ⟨a0,h1,e0⟩:=sq_fit h0
 obtain ⟨g0,b0⟩:=szVal_fit d.v _ a0 (by omega)
 obtain ⟨a1,h2,e1⟩:=sq_fit h1
 obtain ⟨g1,b1⟩:=szS_fit d.l hx a1 (by omega)
 exact ⟨⟨g0,g1⟩,by rw [e0,e1]; omega⟩
theorem szPred_fitn : ∀ (n : Nat) (d : DPred),SizeOf.sizeOf d ≤ n → ∀ l,0 ≤ szPred d l → l ≤ 1048576 → fitPred d ∧ szPred d l ≤ l
 | 0,d,h=>by cases d; simp at h
 | n + 1,d,h=>szPred_fitof d fun x hx=>szPred_fitn n x (by
  have h1 : SizeOf.sizeOf x < SizeOf.sizeOf d.l:=List.sizeOf_lt_of_mem hx
  have h2 : SizeOf.sizeOf d.l < SizeOf.sizeOf d:=by cases d; simp [DPred.l]; omega
  omega)
theorem szPred_fit (d : DPred) (l : Int) (h : 0 ≤ szPred d l) (hl : l ≤ 1048576) : fitPred d ∧ szPred d l ≤ l:=szPred_fitn _ d (Nat.le_refl _) l h hl
def fitQuery (d : DQuery) : Prop:=fitPred d.p ∧ d.out.length ≤ 1048576
theorem fitQuery_eq (d : DQuery) : fitQuery d = (fitPred d.p ∧ d.out.length ≤ 1048576):=rfl
theorem szQuery_fit (d : DQuery) (l : Int) (h0 : 0 ≤ szQuery d l) (hl : l ≤ 1048576) : fitQuery d ∧ szQuery d l ≤ l:=by
 rw [szQuery_eq] at h0 ⊢
 rw [fitQuery_eq]
 obtain ⟨a0,h1,e0⟩:=sq_fit h0
 obtain ⟨g0,b0⟩:=szPred_fit d.p _ a0 (by omega)
 obtain ⟨a1,h2,e1⟩:=sq_fit h1
 obtain ⟨g1,b1⟩:=szI_fit a1 (by omega)
 exact ⟨⟨g0,g1⟩,by rw [e0,e1]; omega⟩
def fitResult (d : DResult) : Prop:=fitS fitRow d.rows ∧ fitVal d.v
theorem fitResult_eq (d : DResult) : fitResult d = (fitS fitRow d.rows ∧ fitVal d.v):=rfl
theorem szResult_fit (d : DResult) (l : Int) (h0 : 0 ≤ szResult d l) (hl : l ≤ 1048576) : fitResult d ∧ szResult d l ≤ l:=by
 rw [szResult_eq] at h0 ⊢
 rw [fitResult_eq]
 obtain ⟨a0,h1,e0⟩:=sq_fit h0
 obtain ⟨g0,b0⟩:=szS_fit d.rows (fun x _=>szRow_fit x) a0 (by omega)
 obtain ⟨a1,h2,e1⟩:=sq_fit h1
 obtain ⟨g1,b1⟩:=szVal_fit d.v _ a1 (by omega)
 exact ⟨⟨g0,g1⟩,by rw [e0,e1]; omega⟩
def fitSlot (d : DSlot) : Prop:=fitS fitVal d.l
theorem fitSlot_eq (d : DSlot) : fitSlot d = (fitS fitVal d.l):=rfl
theorem szSlot_fit (d : DSlot) (l : Int) (h0 : 0 ≤ szSlot d l) (hl : l ≤ 1048576) : fitSlot d ∧ szSlot d l ≤ l:=by
 rw [szSlot_eq] at h0 ⊢
 rw [fitSlot_eq]
 obtain ⟨a0,h1,e0⟩:=sq_fit h0
 obtain ⟨g0,b0⟩:=szS_fit d.l (fun x _=>szVal_fit x) a0 (by omega)
 exact ⟨g0,by rw [e0]; omega⟩
def fitChunk (d : DChunk) : Prop:=fitS fitSlot d.l
theorem fitChunk_eq (d : DChunk) : fitChunk d = (fitS fitSlot d.l):=rfl
theorem szChunk_fit (d : DChunk) (l : Int) (h0 : 0 ≤ szChunk d l) (hl : l ≤ 1048576) : fitChunk d ∧ szChunk d l ≤ l:=by
 rw [szChunk_eq] at h0 ⊢
 rw [fitChunk_eq]
 obtain ⟨a0,h1,e0⟩:=sq_fit h0
 obtain ⟨g0,b0⟩:=szS_fit d.l (fun x _=>szSlot_fit x) a0 (by omega)
 exact ⟨g0,by rw [e0]; omega⟩
def fitBuf (d : DBuf) : Prop:=fitChunk d.c0 ∧ d.g.length ≤ 1048576
theorem fitBuf_eq (d : DBuf) : fitBuf d = (fitChunk d.c0 ∧ d.g.length ≤ 1048576):=rfl
theorem szBuf_fit (d : DBuf) (l : Int) (h0 : 0 ≤ szBuf d l) (hl : l ≤ 1048576) : fitBuf d ∧ szBuf d l ≤ l:=by
 rw [szBuf_eq] at h0 ⊢
 rw [fitBuf_eq]
 obtain ⟨a0,h1,e0⟩:=sq_fit h0
 obtain ⟨g0,b0⟩:=szChunk_fit d.c0 _ a0 (by omega)
 obtain ⟨a1,h2,e1⟩:=sq_fit h1
 obtain ⟨g1,b1⟩:=szI_fit a1 (by omega)
 exact ⟨⟨g0,g1⟩,by rw [e0,e1]; omega⟩
def fitDir (d : DDir) : Prop:=d.l.length ≤ 1048576
theorem fitDir_eq (d : DDir) : fitDir d = (d.l.length ≤ 1048576):=rfl
theorem szDir_fit (d : DDir) (l : Int) (h0 : 0 ≤ szDir d l) (hl : l ≤ 1048576) : fitDir d ∧ szDir d l ≤ l:=by
 rw [szDir_eq] at h0 ⊢
 rw [fitDir_eq]
 obtain ⟨a0,h1,e0⟩:=sq_fit h0
 obtain ⟨g0,b0⟩:=szI_fit a0 (by omega)
 exact ⟨g0,by rw [e0]; omega⟩
def fitTask (d : DTask) : Prop:=fitS fitVal d.r ∧ fitQuery d.q ∧ d.l.length ≤ 1048576 ∧ fitS fitRow d.got
theorem fitTask_eq (d : DTask) : fitTask d = (fitS fitVal d.r ∧ fitQuery d.q ∧ d.l.length ≤ 1048576 ∧ fitS fitRow d.got):=rfl
theorem szTask_fit (d : DTask) (l : Int) (h0 : 0 ≤ szTask d l) (hl : l ≤ 1048576) : fitTask d ∧ szTask d l ≤ l:=by
 rw [szTask_eq] at h0 ⊢
 rw [fitTask_eq]
 obtain ⟨a0,h1,e0⟩:=sq_fit h0
 obtain ⟨g0,b0⟩:=szS_fit d.r (fun x _=>szVal_fit x) a0 (by omega)
 obtain ⟨a1,h2,e1⟩:=sq_fit h1
 obtain ⟨g1,b1⟩:=szQuery_fit d.q _ a1 (by omega)
 obtain ⟨a2,h3,e2⟩:=sq_fit h2
 obtain ⟨g2,b2⟩:=szI_fit a2 (by omega)
 obtain ⟨a3,h4,e3⟩:=sq_fit h3
 obtain ⟨g3,b3⟩:=szS_fit d.got (fun x _=>szRow_fit x) a3 (by omega)
 exact ⟨⟨g0,g1,g2,g3⟩,by rw [e0,e1,e2,e3]; omega⟩
def fitDeed (d : DDeed) : Prop:=fitS fitVal d.r ∧ fitQuery d.q ∧ fitResult d.res
theorem fitDeed_eq (d : DDeed) : fitDeed d = (fitS fitVal d.r ∧ fitQuery d.q ∧ fitResult d.res):=rfl
theorem szDeed_fit (d : DDeed) (l : Int) (h0 : 0 ≤ szDeed d l) (hl : l ≤ 1048576) : fitDeed d ∧ szDeed d l ≤ l:=by
 rw [szDeed_eq] at h0 ⊢
 rw [fitDeed_eq]
 obtain ⟨a0,h1,e0⟩:=sq_fit h0
 obtain ⟨g0,b0⟩:=szS_fit d.r (fun x _=>szVal_fit x) a0 (by omega)
 obtain ⟨a1,h2,e1⟩:=sq_fit h1
 obtain ⟨g1,b1⟩:=szQuery_fit d.q _ a1 (by omega)
 obtain ⟨a2,h3,e2⟩:=sq_fit h2
 obtain ⟨g2,b2⟩:=szResult_fit d.res _ a2 (by omega)
 exact ⟨⟨g0,g1,g2⟩,by rw [e0,e1,e2]; omega⟩
def fitConf (d : DConf) : Prop:=d.cols.length ≤ 1048576
theorem fitConf_eq (d : DConf) : fitConf d = (d.cols.length ≤ 1048576):=rfl
theorem szConf_fit (d : DConf) (l : Int) (h0 : 0 ≤ szConf d l) (hl : l ≤ 1048576) : fitConf d ∧ szConf d l ≤ l:=by
 rw [szConf_eq] at h0 ⊢
 rw [fitConf_eq]
 obtain ⟨a0,h1,e0⟩:=sq_fit h0
 obtain ⟨g0,b0⟩:=szI_fit a0 (by omega)
 exact ⟨g0,by rw [e0]; omega⟩
def fitWorld (d : DWorld) : Prop:=fitConf d.c0 ∧ fitDir d.d ∧ fitS fitBuf d.b ∧ d.m.length ≤ 1048576 ∧ d.x.length ≤ 1048576 ∧ d.p.length ≤ 1048576 ∧ fitS fitTask d.tasks ∧ fitS fitDeed d.deeds
theorem fitWorld_eq (d : DWorld) : fitWorld d = (fitConf d.c0 ∧ fitDir d.d ∧ fitS fitBuf d.b ∧ d.m.length ≤ 1048576 ∧ d.x.length ≤ 1048576 ∧ d.p.length ≤ 1048576 ∧ fitS fitTask d.tasks ∧ fitS fitDeed d.deeds):=rfl
theorem szWorld_fit (d : DWorld) (l : Int) (h0 : 0 ≤ szWorld d l) (hl : l ≤ 1048576) : fitWorld d ∧ szWorld d l ≤ l:=by
 rw [szWorld_eq] at h0 ⊢
 rw [fitWorld_eq]
 obtain ⟨a0,h1,e0⟩:=sq_fit h0
 obtain ⟨g0,b0⟩:=szConf_fit d.c0 _ a0 (by omega)
 obtain ⟨a1,h2,e1⟩:=sq_fit h1
 obtain ⟨g1,b1⟩:=szDir_fit d.d _ a1 (by omega)
 obtain ⟨a2,h3,e2⟩:=sq_fit h2
 obtain ⟨g2,b2⟩:=szS_fit d.b (fun x _=>szBuf_fit x) a2 (by omega)
 obtain ⟨a3,h4,e3⟩:=sq_fit h3
 obtain ⟨g3,b3⟩:=szI_fit a3 (by omega)
 obtain ⟨a4,h5,e4⟩:=sq_fit h4
 obtain ⟨g4,b4⟩:=szI_fit a4 (by omega)
 obtain ⟨a5,h6,e5⟩:=sq_fit h5
 obtain ⟨g5,b5⟩:=szI_fit a5 (by omega)
 obtain ⟨a6,h7,e6⟩:=sq_fit h6
 obtain ⟨g6,b6⟩:=szS_fit d.tasks (fun x _=>szTask_fit x) a6 (by omega)
 obtain ⟨a7,h8,e7⟩:=sq_fit h7
 obtain ⟨g7,b7⟩:=szS_fit d.deeds (fun x _=>szDeed_fit x) a7 (by omega)
 exact ⟨⟨g0,g1,g2,g3,g4,g5,g6,g7⟩,by rw [e0,e1,e2,e3,e4,e5,e6,e7]; omega⟩
theorem DVal.pure (d : DVal) : pureL d.c = true:=by
 simp [DVal.c_eq,pureL,pureC]
theorem DRow.pure (d : DRow) : pureL d.c = true:=by
 simp [DRow.c_eq,pureL,pureC]
theorem DPred.pure (d : DPred) : pureL d.c = true:=by
 have h0:=DVal.pure d.v
 rw [pureL] at h0
 simp [DPred.c_eq,pureL,pureC,h0]
theorem DQuery.pure (d : DQuery) : pureL d.c = true:=by
 have h0:=DPred.pure d.p
 rw [pureL] at h0
 simp [DQuery.c_eq,pureL,pureC,h0]
theorem DResult.pure (d : DResult) : pureL d.c = true:=by
 have h0:=DVal.pure d.v
 rw [pureL] at h0
 simp [DResult.c_eq,pureL,pureC,h0]
theorem DSlot.pure (d : DSlot) : pureL d.c = true:=by
 simp [DSlot.c_eq,pureL,pureC]
theorem DChunk.pure (d : DChunk) : pureL d.c = true:=by
 simp [DChunk.c_eq,pureL,pureC]
theorem DBuf.pure (d : DBuf) : pureL d.c = true:=by
 have h0:=DChunk.pure d.c0
 rw [pureL] at h0
 simp [DBuf.c_eq,pureL,pureC,h0]
theorem DDead.pure (d : DDead) : pureL d.c = true:=by
 simp [DDead.c_eq,pureL,pureC]
theorem DRef.pure (d : DRef) : pureL d.c = true:=by
 simp [DRef.c_eq,pureL,pureC]
theorem DDir.pure (d : DDir) : pureL d.c = true:=by
 simp [DDir.c_eq,pureL,pureC]
theorem DTask.pure (d : DTask) : pureL d.c = true:=by
 have h0:=DQuery.pure d.q
 rw [pureL] at h0
 simp [DTask.c_eq,pureL,pureC,h0]
theorem DDeed.pure (d : DDeed) : pureL d.c = true:=by
 have h0:=DQuery.pure d.q
 rw [pureL] at h0
 have h1:=DResult.pure d.res
 rw [pureL] at h1
 simp [DDeed.c_eq,pureL,pureC,h0,h1]
theorem DConf.pure (d : DConf) : pureL d.c = true:=by
 simp [DConf.c_eq,pureL,pureC]
theorem DWorld.pure (d : DWorld) : pureL d.c = true:=by
 have h0:=DConf.pure d.c0
 rw [pureL] at h0
 have h1:=DDir.pure d.d
 rw [pureL] at h1
 simp [DWorld.c_eq,pureL,pureC,h0,h1]
theorem intC.pure (n : Int) : pureL (intC n) = true:=rfl
theorem byteC.pure (n : Int) : pureL (byteC n) = true:=rfl
end Go.Proofs.YthoeeoddgkjkkaaGreat
