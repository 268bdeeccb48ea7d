/- Typed data of the laws, its cells, its sizes: by program (gen_data.py). -/
import Derived.Test.YthoeeoddgkjkkaaGreatVmW
namespace Go.Proofs.YthoeeoddgkjkkaaGreat
set_option linter.unusedSimpArgs false
set_option linter.unusedVariables false
open Go.Vm
def intC (n:Int):List Cl:=[.v (.int .i64 n)]
@[go_sem] theorem nX (n:Int):intC n = [.v (.int .i64 n)]:=rfl
def byteC (n:Int):List Cl:=[.v (.int .u8 n)]
@[go_sem] theorem Jl (n:Int):byteC n = [.v (.int .u8 n)]:=rfl
def sq (x:Int) (k:Int→Int):Int:=if x<0 then -1 else k x
theorem Nw {x:Int} {k:Int→Int} (h:x<0):sq x k = -1:=if_pos h
theorem J6 {x:Int} {k:Int→Int} (h:¬ x<0):sq x k=k x:=if_neg h
def CV (n:Nat) (l:Int):Int:=if l-n<0 then -1 else l-n
def Ky {α:Type} (f:α→Int→Int):List α→Int→Int
 | [],l=>l
 | x::xs,l=>sq (f x l) (Ky f xs)
def A_ {α:Type} (f:α→Int→Int) (xs:List α) (l:Int):Int:=sq (CV xs.length l) (Ky f xs)
def fitS {α:Type} (F:α→Prop) (xs:List α):Prop:=xs.length≤1048576∧∀ x∈xs,F x
theorem Au {n:Nat} {l:Int} (h:0≤CV n l) (hl:l≤1048576):n≤1048576∧CV n l≤l:=by
 unfold CV at *
 split at h<;>simp_all<;>omega
theorem AP {x:Int} {k:Int→Int} (h:0≤sq x k):0≤x∧0≤k x∧sq x k=k x:=by
 unfold sq at *
 split at h
 ·omega
 ·rename_i hx
  exact⟨by omega,h,if_neg hx⟩
theorem eX {α:Type} {f:α→Int→Int} {F:α→Prop}:∀ (xs:List α) (_:∀ x∈xs,∀ l,0≤f x l→l≤1048576→F x∧f x l≤l) (l:Int),0≤Ky f xs l→l≤1048576→(∀ x∈xs,F x)∧Ky f xs l≤l
 | [],_,l,_,_=>⟨by simp,by simp[Ky]⟩
 | x::xs,hf,l,h,hl=>by
  simp only[Ky] at h ⊢
  obtain⟨h1,h2,h3⟩:=AP h
  obtain⟨g1,g2⟩:=hf x (by simp) l h1 hl
  obtain⟨g3,g4⟩:=eX xs (fun y hy=>hf y (by simp[hy])) _ h2 (by omega)
  exact⟨by simp only[List.mem_cons,forall_eq_or_imp]; exact⟨g1,g3⟩,by rw[h3]; omega⟩
theorem CQ {α:Type} {f:α→Int→Int} {F:α→Prop} (xs:List α) (hf:∀ x∈xs,∀ l,0≤f x l→l≤1048576→F x∧f x l≤l) {l:Int} (h:0≤A_ f xs l) (hl:l≤1048576):fitS F xs∧A_ f xs l≤l:=by
 unfold A_ at h ⊢
 obtain⟨h1,h2,h3⟩:=AP h
 obtain⟨g1,g2⟩:=Au h1 hl
 obtain⟨g3,g4⟩:=eX xs hf _ h2 (by omega)
 exact⟨⟨g1,g3⟩,by rw[h3]; omega⟩
structure DVal where
 ty:Int
 n:Int
 s:ByteArray
def DVal.c (d:DVal):List Cl:=[.v (.int .i64 d.ty)]++([.v (.int .i64 d.n)]++([.v (.string d.s)]))
@[go_sem] theorem DVal.c_eq (d:DVal):d.c = [.v (.int .i64 d.ty)]++([.v (.int .i64 d.n)]++([.v (.string d.s)])):=rfl
def AZ (d:DVal) (l:Int):Int:=sq (CV d.s.size l) fun l=>l
theorem Di (d:DVal) (l:Int):AZ d l=sq (CV d.s.size l) fun l=>l:=rfl
structure DRow where
 id:Int
 l:List DVal
def DRow.c (d:DRow):List Cl:=[.v (.int .i64 d.id)]++([.sl (d.l.map DVal.c)])
@[go_sem] theorem DRow.c_eq (d:DRow):d.c = [.v (.int .i64 d.id)]++([.sl (d.l.map DVal.c)]):=rfl
def DY (d:DRow) (l:Int):Int:=sq (A_ AZ d.l l) fun l=>l
theorem Ot (d:DRow) (l:Int):DY d l=sq (A_ AZ d.l l) fun l=>l:=rfl
inductive DPred where
 | mk (kind:Int) (col:Int) (op:Int) (v:DVal) (l:List DPred)
def DPred.kind:DPred→Int | .mk kind _ _ _ _=>kind
def DPred.col:DPred→Int | .mk _ col _ _ _=>col
def DPred.op:DPred→Int | .mk _ _ op _ _=>op
def DPred.v:DPred→DVal | .mk _ _ _ v _=>v
def DPred.l:DPred→List DPred | .mk _ _ _ _ l=>l
mutual
def DPred.c:DPred→List Cl
 | .mk kind col op v l=>[.v (.int .i64 kind)]++([.v (.int .i64 col)]++([.v (.int .i64 op)]++(v.c++([.sl (DPred.cs l)]))))
def DPred.cs:List DPred→List (List Cl)
 | []=>[]
 | x::xs=>x.c::DPred.cs xs
end
theorem DPred.cs_eq:∀ l:List DPred,DPred.cs l=l.map DPred.c
 | []=>by simp only[DPred.cs,List.map_nil]
 | x::xs=>by simp only[DPred.cs,List.map_cons,DPred.cs_eq xs]
@[go_sem] theorem DPred.c_eq (d:DPred):d.c = [.v (.int .i64 d.kind)]++([.v (.int .i64 d.col)]++([.v (.int .i64 d.op)]++(d.v.c++([.sl (d.l.map DPred.c)])))):=by
 cases d
 simp only[DPred.c,DPred.cs_eq,DPred.kind,DPred.col,DPred.op,DPred.v,DPred.l]
mutual
def Ae:DPred→Int→Int
 | .mk kind col op v l,m0=>sq ((AZ v) m0) fun m0=>sq ((fun m=>sq (CV l.length m) (MK l)) m0) fun m0=>m0
def MK:List DPred→Int→Int
 | [],l=>l
 | x::xs,l=>sq (Ae x l) (MK xs)
end
theorem TI:∀ (l:List DPred) (m:Int),MK l m=Ky Ae l m
 | [],m=>by simp only[MK,Ky]
 | x::xs,m=>by
  simp only[MK,Ky]
  congr 1
  funext m
  exact TI xs m
theorem ED (d:DPred) (l:Int):Ae d l=sq (AZ d.v l) fun l=>sq (A_ Ae d.l l) fun l=>l:=by
 have h:MK=Ky Ae:=by funext l m; exact TI l m
 cases d
 simp only[Ae,A_,h,DPred.kind,DPred.col,DPred.op,DPred.v,DPred.l]
structure DQuery where
 kind:Int
 p:DPred
 col:Int
 out:List Int
def DQuery.c (d:DQuery):List Cl:=[.v (.int .i64 d.kind)]++(d.p.c++([.v (.int .i64 d.col)]++([.sl (d.out.map intC)])))
@[go_sem] theorem DQuery.c_eq (d:DQuery):d.c = [.v (.int .i64 d.kind)]++(d.p.c++([.v (.int .i64 d.col)]++([.sl (d.out.map intC)]))):=rfl
def BH (d:DQuery) (l:Int):Int:=sq (Ae d.p l) fun l=>sq (CV d.out.length l) fun l=>l
theorem FV (d:DQuery) (l:Int):BH d l=sq (Ae d.p l) fun l=>sq (CV d.out.length l) fun l=>l:=rfl
structure DResult where
 rows:List DRow
 n:Int
 has:Bool
 v:DVal
def DResult.c (d:DResult):List Cl:=[.sl (d.rows.map DRow.c)]++([.v (.int .i64 d.n)]++([.v (.bool d.has)]++(d.v.c)))
@[go_sem] theorem DResult.c_eq (d:DResult):d.c = [.sl (d.rows.map DRow.c)]++([.v (.int .i64 d.n)]++([.v (.bool d.has)]++(d.v.c))):=rfl
def GH (d:DResult) (l:Int):Int:=sq (A_ DY d.rows l) fun l=>sq (AZ d.v l) fun l=>l
theorem JF (d:DResult) (l:Int):GH d l=sq (A_ DY d.rows l) fun l=>sq (AZ d.v l) fun l=>l:=rfl
structure DSlot where
 ins:Int
 l:List DVal
def DSlot.c (d:DSlot):List Cl:=[.v (.int .i64 d.ins)]++([.sl (d.l.map DVal.c)])
@[go_sem] theorem DSlot.c_eq (d:DSlot):d.c = [.v (.int .i64 d.ins)]++([.sl (d.l.map DVal.c)]):=rfl
def Dl (d:DSlot) (l:Int):Int:=sq (A_ AZ d.l l) fun l=>l
theorem ML (d:DSlot) (l:Int):Dl d l=sq (A_ AZ d.l l) fun l=>l:=rfl
structure DChunk where
 next:Int
 l:List DSlot
def DChunk.c (d:DChunk):List Cl:=[.v (.int .i64 d.next)]++([.sl (d.l.map DSlot.c)])
@[go_sem] theorem DChunk.c_eq (d:DChunk):d.c = [.v (.int .i64 d.next)]++([.sl (d.l.map DSlot.c)]):=rfl
def Fg (d:DChunk) (l:Int):Int:=sq (A_ Dl d.l l) fun l=>l
theorem J7 (d:DChunk) (l:Int):Fg d l=sq (A_ Dl d.l l) fun l=>l:=rfl
structure DBuf where
 gen:Int
 kind:Int
 c0:DChunk
 g:List Int
def DBuf.c (d:DBuf):List Cl:=[.v (.int .i64 d.gen)]++([.v (.int .i64 d.kind)]++(d.c0.c++([.sl (d.g.map byteC)])))
@[go_sem] theorem DBuf.c_eq (d:DBuf):d.c = [.v (.int .i64 d.gen)]++([.v (.int .i64 d.kind)]++(d.c0.c++([.sl (d.g.map byteC)]))):=rfl
def DC (d:DBuf) (l:Int):Int:=sq (Fg d.c0 l) fun l=>sq (CV d.g.length l) fun l=>l
theorem Ou (d:DBuf) (l:Int):DC d l=sq (Fg d.c0 l) fun l=>sq (CV d.g.length l) fun l=>l:=rfl
structure DDead where
 buf:Int
 gen:Int
 at0:Int
def DDead.c (d:DDead):List Cl:=[.v (.int .i64 d.buf)]++([.v (.int .i64 d.gen)]++([.v (.int .i64 d.at0)]))
@[go_sem] theorem DDead.c_eq (d:DDead):d.c = [.v (.int .i64 d.buf)]++([.v (.int .i64 d.gen)]++([.v (.int .i64 d.at0)])):=rfl
structure DRef where
 buf:Int
 gen:Int
 kind:Int
 first:Int
 many:Int
def DRef.c (d:DRef):List Cl:=[.v (.int .i64 d.buf)]++([.v (.int .i64 d.gen)]++([.v (.int .i64 d.kind)]++([.v (.int .i64 d.first)]++([.v (.int .i64 d.many)]))))
@[go_sem] theorem DRef.c_eq (d:DRef):d.c = [.v (.int .i64 d.buf)]++([.v (.int .i64 d.gen)]++([.v (.int .i64 d.kind)]++([.v (.int .i64 d.first)]++([.v (.int .i64 d.many)])))):=rfl
structure DDir where
 ver:Int
 l:List DRef
def DDir.c (d:DDir):List Cl:=[.v (.int .i64 d.ver)]++([.sl (d.l.map DRef.c)])
@[go_sem] theorem DDir.c_eq (d:DDir):d.c = [.v (.int .i64 d.ver)]++([.sl (d.l.map DRef.c)]):=rfl
def Dx (d:DDir) (l:Int):Int:=sq (CV d.l.length l) fun l=>l
theorem Jm (d:DDir) (l:Int):Dx d l=sq (CV d.l.length l) fun l=>l:=rfl
structure DTask where
 op:Int
 pc:Int
 h:Int
 r:List DVal
 id:Int
 q:DQuery
 ts:Int
 ver:Int
 l:List DRef
 i:Int
 j:Int
 s:Int
 at0:Int
 own:Int
 won:Bool
 got:List DRow
def DTask.c (d:DTask):List Cl:=[.v (.int .i64 d.op)]++([.v (.int .i64 d.pc)]++([.v (.int .i64 d.h)]++([.sl (d.r.map DVal.c)]++([.v (.int .i64 d.id)]++(d.q.c++([.v (.int .i64 d.ts)]++([.v (.int .i64 d.ver)]++([.sl (d.l.map DRef.c)]++([.v (.int .i64 d.i)]++([.v (.int .i64 d.j)]++([.v (.int .i64 d.s)]++([.v (.int .i64 d.at0)]++([.v (.int .i64 d.own)]++([.v (.bool d.won)]++([.sl (d.got.map DRow.c)])))))))))))))))
@[go_sem] theorem DTask.c_eq (d:DTask):d.c = [.v (.int .i64 d.op)]++([.v (.int .i64 d.pc)]++([.v (.int .i64 d.h)]++([.sl (d.r.map DVal.c)]++([.v (.int .i64 d.id)]++(d.q.c++([.v (.int .i64 d.ts)]++([.v (.int .i64 d.ver)]++([.sl (d.l.map DRef.c)]++([.v (.int .i64 d.i)]++([.v (.int .i64 d.j)]++([.v (.int .i64 d.s)]++([.v (.int .i64 d.at0)]++([.v (.int .i64 d.own)]++([.v (.bool d.won)]++([.sl (d.got.map DRow.c)]))))))))))))))):=rfl
def DR (d:DTask) (l:Int):Int:=sq (A_ AZ d.r l) fun l=>sq (BH d.q l) fun l=>sq (CV d.l.length l) fun l=>sq (A_ DY d.got l) fun l=>l
theorem MM (d:DTask) (l:Int):DR d l=sq (A_ AZ d.r l) fun l=>sq (BH d.q l) fun l=>sq (CV d.l.length l) fun l=>sq (A_ DY d.got l) fun l=>l:=rfl
structure DDeed where
 op:Int
 task:Int
 r:List DVal
 id:Int
 q:DQuery
 res:DResult
 code:Int
 stamp:Int
 inv:Int
 lin:Int
 ret:Int
def DDeed.c (d:DDeed):List Cl:=[.v (.int .i64 d.op)]++([.v (.int .i64 d.task)]++([.sl (d.r.map DVal.c)]++([.v (.int .i64 d.id)]++(d.q.c++(d.res.c++([.v (.int .i64 d.code)]++([.v (.int .i64 d.stamp)]++([.v (.int .i64 d.inv)]++([.v (.int .i64 d.lin)]++([.v (.int .i64 d.ret)]))))))))))
@[go_sem] theorem DDeed.c_eq (d:DDeed):d.c = [.v (.int .i64 d.op)]++([.v (.int .i64 d.task)]++([.sl (d.r.map DVal.c)]++([.v (.int .i64 d.id)]++(d.q.c++(d.res.c++([.v (.int .i64 d.code)]++([.v (.int .i64 d.stamp)]++([.v (.int .i64 d.inv)]++([.v (.int .i64 d.lin)]++([.v (.int .i64 d.ret)])))))))))):=rfl
def Dn (d:DDeed) (l:Int):Int:=sq (A_ AZ d.r l) fun l=>sq (BH d.q l) fun l=>sq (GH d.res l) fun l=>l
theorem MN (d:DDeed) (l:Int):Dn d l=sq (A_ AZ d.r l) fun l=>sq (BH d.q l) fun l=>sq (GH d.res l) fun l=>l:=rfl
structure DConf where
 cols:List Int
 slots:Int
 bufs:Int
def DConf.c (d:DConf):List Cl:=[.sl (d.cols.map intC)]++([.v (.int .i64 d.slots)]++([.v (.int .i64 d.bufs)]))
@[go_sem] theorem DConf.c_eq (d:DConf):d.c = [.sl (d.cols.map intC)]++([.v (.int .i64 d.slots)]++([.v (.int .i64 d.bufs)])):=rfl
def Be (d:DConf) (l:Int):Int:=sq (CV d.cols.length l) fun l=>l
theorem Ig (d:DConf) (l:Int):Be d l=sq (CV d.cols.length l) fun l=>l:=rfl
structure DWorld where
 c0:DConf
 time:Int
 t:Int
 e:Int
 d:DDir
 b:List DBuf
 m:List Int
 x:List DDead
 p:List Int
 tasks:List DTask
 deeds:List DDeed
def DWorld.c (d:DWorld):List Cl:=d.c0.c++([.v (.int .i64 d.time)]++([.v (.int .i64 d.t)]++([.v (.int .i64 d.e)]++(d.d.c++([.sl (d.b.map DBuf.c)]++([.sl (d.m.map intC)]++([.sl (d.x.map DDead.c)]++([.sl (d.p.map intC)]++([.sl (d.tasks.map DTask.c)]++([.sl (d.deeds.map DDeed.c)]))))))))))
@[go_sem] theorem DWorld.c_eq (d:DWorld):d.c=d.c0.c++([.v (.int .i64 d.time)]++([.v (.int .i64 d.t)]++([.v (.int .i64 d.e)]++(d.d.c++([.sl (d.b.map DBuf.c)]++([.sl (d.m.map intC)]++([.sl (d.x.map DDead.c)]++([.sl (d.p.map intC)]++([.sl (d.tasks.map DTask.c)]++([.sl (d.deeds.map DDeed.c)])))))))))):=rfl
def Fh (d:DWorld) (l:Int):Int:=sq (Be d.c0 l) fun l=>sq (Dx d.d l) fun l=>sq (A_ DC d.b l) fun l=>sq (CV d.m.length l) fun l=>sq (CV d.x.length l) fun l=>sq (CV d.p.length l) fun l=>sq (A_ DR d.tasks l) fun l=>sq (A_ Dn d.deeds l) fun l=>l
theorem J8 (d:DWorld) (l:Int):Fh d l=sq (Be d.c0 l) fun l=>sq (Dx d.d l) fun l=>sq (A_ DC d.b l) fun l=>sq (CV d.m.length l) fun l=>sq (CV d.x.length l) fun l=>sq (CV d.p.length l) fun l=>sq (A_ DR d.tasks l) fun l=>sq (A_ Dn d.deeds l) fun l=>l:=rfl
def F7 (d:DVal):Prop:=d.s.size≤1048576
theorem MO (d:DVal):F7 d=(d.s.size≤1048576):=rfl
theorem CZ (d:DVal) (l:Int) (h0:0≤AZ d l) (hl:l≤1048576):F7 d∧AZ d l≤l:=by
 rw[Di] at h0 ⊢
 rw[MO]
 obtain⟨a0,h1,e0⟩:=AP h0
 obtain⟨g0,b0⟩:=Au a0 (by omega)
 exact⟨g0,by rw[e0]; omega⟩
def BI (d:DRow):Prop:=fitS F7 d.l
theorem Bf (d:DRow):BI d=(fitS F7 d.l):=rfl
theorem Jn (d:DRow) (l:Int) (h0:0≤DY d l) (hl:l≤1048576):BI d∧DY d l≤l:=by
 rw[Ot] at h0 ⊢
 rw[Bf]
 obtain⟨a0,h1,e0⟩:=AP h0
 obtain⟨g0,b0⟩:=CQ d.l (fun x _=>CZ x) a0 (by omega)
 exact⟨g0,by rw[e0]; omega⟩
mutual
def DD:DPred→Prop
 | .mk kind col op v l=>F7 v∧(l.length≤1048576∧LQ l)
def LQ:List DPred→Prop
 | []=>True
 | x::xs=>DD x∧LQ xs
end
theorem Qr:∀ l:List DPred,LQ l=∀ x∈l,DD x
 | []=>by simp[LQ]
 | x::xs=>by simp[LQ,Qr xs]
theorem Eo (d:DPred):DD d=(F7 d.v∧fitS DD d.l):=by
 cases d
 simp only[DD,fitS,Qr,DPred.kind,DPred.col,DPred.op,DPred.v,DPred.l]
theorem WP (d:DPred) (hx:∀ x∈d.l,∀ l,0≤Ae x l→l≤1048576→DD x∧Ae x l≤l) (l:Int) (h0:0≤Ae d l) (hl:l≤1048576):DD d∧Ae d l≤l:=by
 rw[ED] at h0 ⊢
 rw[Eo]
 obtain⟨a0,h1,e0⟩:=AP h0
 obtain⟨g0,b0⟩:=CZ d.v _ a0 (by omega)
 obtain⟨a1,h2,e1⟩:=AP h1
 obtain⟨g1,b1⟩:=CQ d.l hx a1 (by omega)
 exact⟨⟨g0,g1⟩,by rw[e0,e1]; omega⟩
theorem Qs:∀ (n:Nat) (d:DPred),SizeOf.sizeOf d≤n→∀ l,0≤Ae d l→l≤1048576→DD d∧Ae d l≤l
 | 0,d,h=>by cases d; simp at h
 | n+1,d,h=>WP d fun x hx=>Qs n x (by
  have h1:SizeOf.sizeOf x<SizeOf.sizeOf d.l:=List.sizeOf_lt_of_mem hx
  have h2:SizeOf.sizeOf d.l<SizeOf.sizeOf d:=by cases d; simp[DPred.l]; omega
  omega)
theorem ET (d:DPred) (l:Int) (h:0≤Ae d l) (hl:l≤1048576):DD d∧Ae d l≤l:=Qs _ d (Nat.le_refl _) l h hl
def Dy (d:DQuery):Prop:=DD d.p∧d.out.length≤1048576
theorem Ej (d:DQuery):Dy d=(DD d.p∧d.out.length≤1048576):=rfl
theorem H5 (d:DQuery) (l:Int) (h0:0≤BH d l) (hl:l≤1048576):Dy d∧BH d l≤l:=by
 rw[FV] at h0 ⊢
 rw[Ej]
 obtain⟨a0,h1,e0⟩:=AP h0
 obtain⟨g0,b0⟩:=ET d.p _ a0 (by omega)
 obtain⟨a1,h2,e1⟩:=AP h1
 obtain⟨g1,b1⟩:=Au a1 (by omega)
 exact⟨⟨g0,g1⟩,by rw[e0,e1]; omega⟩
def Ih (d:DResult):Prop:=fitS BI d.rows∧F7 d.v
theorem J9 (d:DResult):Ih d=(fitS BI d.rows∧F7 d.v):=rfl
theorem Ov (d:DResult) (l:Int) (h0:0≤GH d l) (hl:l≤1048576):Ih d∧GH d l≤l:=by
 rw[JF] at h0 ⊢
 rw[J9]
 obtain⟨a0,h1,e0⟩:=AP h0
 obtain⟨g0,b0⟩:=CQ d.rows (fun x _=>Jn x) a0 (by omega)
 obtain⟨a1,h2,e1⟩:=AP h1
 obtain⟨g1,b1⟩:=CZ d.v _ a1 (by omega)
 exact⟨⟨g0,g1⟩,by rw[e0,e1]; omega⟩
def JG (d:DSlot):Prop:=fitS F7 d.l
theorem Ip (d:DSlot):JG d=(fitS F7 d.l):=rfl
theorem Ny (d:DSlot) (l:Int) (h0:0≤Dl d l) (hl:l≤1048576):JG d∧Dl d l≤l:=by
 rw[ML] at h0 ⊢
 rw[Ip]
 obtain⟨a0,h1,e0⟩:=AP h0
 obtain⟨g0,b0⟩:=CQ d.l (fun x _=>CZ x) a0 (by omega)
 exact⟨g0,by rw[e0]; omega⟩
def Ez (d:DChunk):Prop:=fitS JG d.l
theorem EF (d:DChunk):Ez d=(fitS JG d.l):=rfl
theorem Qu (d:DChunk) (l:Int) (h0:0≤Fg d l) (hl:l≤1048576):Ez d∧Fg d l≤l:=by
 rw[J7] at h0 ⊢
 rw[EF]
 obtain⟨a0,h1,e0⟩:=AP h0
 obtain⟨g0,b0⟩:=CQ d.l (fun x _=>Ny x) a0 (by omega)
 exact⟨g0,by rw[e0]; omega⟩
def LU (d:DBuf):Prop:=Ez d.c0∧d.g.length≤1048576
theorem MP (d:DBuf):LU d=(Ez d.c0∧d.g.length≤1048576):=rfl
theorem QG (d:DBuf) (l:Int) (h0:0≤DC d l) (hl:l≤1048576):LU d∧DC d l≤l:=by
 rw[Ou] at h0 ⊢
 rw[MP]
 obtain⟨a0,h1,e0⟩:=AP h0
 obtain⟨g0,b0⟩:=Qu d.c0 _ a0 (by omega)
 obtain⟨a1,h2,e1⟩:=AP h1
 obtain⟨g1,b1⟩:=Au a1 (by omega)
 exact⟨⟨g0,g1⟩,by rw[e0,e1]; omega⟩
def QH (d:DDir):Prop:=d.l.length≤1048576
theorem MQ (d:DDir):QH d=(d.l.length≤1048576):=rfl
theorem VU (d:DDir) (l:Int) (h0:0≤Dx d l) (hl:l≤1048576):QH d∧Dx d l≤l:=by
 rw[Jm] at h0 ⊢
 rw[MQ]
 obtain⟨a0,h1,e0⟩:=AP h0
 obtain⟨g0,b0⟩:=Au a0 (by omega)
 exact⟨g0,by rw[e0]; omega⟩
def JH (d:DTask):Prop:=fitS F7 d.r∧Dy d.q∧d.l.length≤1048576∧fitS BI d.got
theorem Nz (d:DTask):JH d=(fitS F7 d.r∧Dy d.q∧d.l.length≤1048576∧fitS BI d.got):=rfl
theorem N7 (d:DTask) (l:Int) (h0:0≤DR d l) (hl:l≤1048576):JH d∧DR d l≤l:=by
 rw[MM] at h0 ⊢
 rw[Nz]
 obtain⟨a0,h1,e0⟩:=AP h0
 obtain⟨g0,b0⟩:=CQ d.r (fun x _=>CZ x) a0 (by omega)
 obtain⟨a1,h2,e1⟩:=AP h1
 obtain⟨g1,b1⟩:=H5 d.q _ a1 (by omega)
 obtain⟨a2,h3,e2⟩:=AP h2
 obtain⟨g2,b2⟩:=Au a2 (by omega)
 obtain⟨a3,h4,e3⟩:=AP h3
 obtain⟨g3,b3⟩:=CQ d.got (fun x _=>Jn x) a3 (by omega)
 exact⟨⟨g0,g1,g2,g3⟩,by rw[e0,e1,e2,e3]; omega⟩
def JI (d:DDeed):Prop:=fitS F7 d.r∧Dy d.q∧Ih d.res
theorem N8 (d:DDeed):JI d=(fitS F7 d.r∧Dy d.q∧Ih d.res):=rfl
theorem N9 (d:DDeed) (l:Int) (h0:0≤Dn d l) (hl:l≤1048576):JI d∧Dn d l≤l:=by
 rw[MN] at h0 ⊢
 rw[N8]
 obtain⟨a0,h1,e0⟩:=AP h0
 obtain⟨g0,b0⟩:=CQ d.r (fun x _=>CZ x) a0 (by omega)
 obtain⟨a1,h2,e1⟩:=AP h1
 obtain⟨g1,b1⟩:=H5 d.q _ a1 (by omega)
 obtain⟨a2,h3,e2⟩:=AP h2
 obtain⟨g2,b2⟩:=Ov d.res _ a2 (by omega)
 exact⟨⟨g0,g1,g2⟩,by rw[e0,e1,e2]; omega⟩
def MR (d:DConf):Prop:=d.cols.length≤1048576
theorem N_ (d:DConf):MR d=(d.cols.length≤1048576):=rfl
theorem TJ (d:DConf) (l:Int) (h0:0≤Be d l) (hl:l≤1048576):MR d∧Be d l≤l:=by
 rw[Ig] at h0 ⊢
 rw[N_]
 obtain⟨a0,h1,e0⟩:=AP h0
 obtain⟨g0,b0⟩:=Au a0 (by omega)
 exact⟨g0,by rw[e0]; omega⟩
def Cb (d:DWorld):Prop:=MR d.c0∧QH d.d∧fitS LU d.b∧d.m.length≤1048576∧d.x.length≤1048576∧d.p.length≤1048576∧fitS JH d.tasks∧fitS JI d.deeds
theorem Gg (d:DWorld):Cb d=(MR d.c0∧QH d.d∧fitS LU d.b∧d.m.length≤1048576∧d.x.length≤1048576∧d.p.length≤1048576∧fitS JH d.tasks∧fitS JI d.deeds):=rfl
theorem YU (d:DWorld) (l:Int) (h0:0≤Fh d l) (hl:l≤1048576):Cb d∧Fh d l≤l:=by
 rw[J8] at h0 ⊢
 rw[Gg]
 obtain⟨a0,h1,e0⟩:=AP h0
 obtain⟨g0,b0⟩:=TJ d.c0 _ a0 (by omega)
 obtain⟨a1,h2,e1⟩:=AP h1
 obtain⟨g1,b1⟩:=VU d.d _ a1 (by omega)
 obtain⟨a2,h3,e2⟩:=AP h2
 obtain⟨g2,b2⟩:=CQ d.b (fun x _=>QG x) a2 (by omega)
 obtain⟨a3,h4,e3⟩:=AP h3
 obtain⟨g3,b3⟩:=Au a3 (by omega)
 obtain⟨a4,h5,e4⟩:=AP h4
 obtain⟨g4,b4⟩:=Au a4 (by omega)
 obtain⟨a5,h6,e5⟩:=AP h5
 obtain⟨g5,b5⟩:=Au a5 (by omega)
 obtain⟨a6,h7,e6⟩:=AP h6
 obtain⟨g6,b6⟩:=CQ d.tasks (fun x _=>N7 x) a6 (by omega)
 obtain⟨a7,h8,e7⟩:=AP h7
 obtain⟨g7,b7⟩:=CQ d.deeds (fun x _=>N9 x) a7 (by omega)
 exact⟨⟨g0,g1,g2,g3,g4,g5,g6,g7⟩,by rw[e0,e1,e2,e3,e4,e5,e6,e7]; omega⟩
theorem DVal.pure (d:DVal):BX d.c=true:=by
 simp[DVal.c_eq,BX,AC]
theorem DRow.pure (d:DRow):BX d.c=true:=by
 simp[DRow.c_eq,BX,AC]
theorem DPred.pure (d:DPred):BX d.c=true:=by
 have h0:=DVal.pure d.v
 rw[BX] at h0
 simp[DPred.c_eq,BX,AC,h0]
theorem DQuery.pure (d:DQuery):BX d.c=true:=by
 have h0:=DPred.pure d.p
 rw[BX] at h0
 simp[DQuery.c_eq,BX,AC,h0]
theorem DResult.pure (d:DResult):BX d.c=true:=by
 have h0:=DVal.pure d.v
 rw[BX] at h0
 simp[DResult.c_eq,BX,AC,h0]
theorem DSlot.pure (d:DSlot):BX d.c=true:=by
 simp[DSlot.c_eq,BX,AC]
theorem DChunk.pure (d:DChunk):BX d.c=true:=by
 simp[DChunk.c_eq,BX,AC]
theorem DBuf.pure (d:DBuf):BX d.c=true:=by
 have h0:=DChunk.pure d.c0
 rw[BX] at h0
 simp[DBuf.c_eq,BX,AC,h0]
theorem DDead.pure (d:DDead):BX d.c=true:=by
 simp[DDead.c_eq,BX,AC]
theorem DRef.pure (d:DRef):BX d.c=true:=by
 simp[DRef.c_eq,BX,AC]
theorem DDir.pure (d:DDir):BX d.c=true:=by
 simp[DDir.c_eq,BX,AC]
theorem DTask.pure (d:DTask):BX d.c=true:=by
 have h0:=DQuery.pure d.q
 rw[BX] at h0
 simp[DTask.c_eq,BX,AC,h0]
theorem DDeed.pure (d:DDeed):BX d.c=true:=by
 have h0:=DQuery.pure d.q
 rw[BX] at h0
 have h1:=DResult.pure d.res
 rw[BX] at h1
 simp[DDeed.c_eq,BX,AC,h0,h1]
theorem DConf.pure (d:DConf):BX d.c=true:=by
 simp[DConf.c_eq,BX,AC]
theorem DWorld.pure (d:DWorld):BX d.c=true:=by
 have h0:=DConf.pure d.c0
 rw[BX] at h0
 have h1:=DDir.pure d.d
 rw[BX] at h1
 simp[DWorld.c_eq,BX,AC,h0,h1]
theorem intC.pure (n:Int):BX (intC n)=true:=rfl
theorem byteC.pure (n:Int):BX (byteC n)=true:=rfl
end Go.Proofs.YthoeeoddgkjkkaaGreat
