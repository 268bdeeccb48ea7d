/- A part. -/
import Derived.Test.YtnoldekcdlaahaaGreatVmW
set_option linter.unusedSimpArgs false
set_option linter.unusedVariables false
namespace Go.Proofs.YtnoldekcdlaahaaGreat
open Go.Vm
def intC (n:Int):List Cl:=[.v (.int .i64 n)]
@[go_sem] theorem AAX (n:Int):intC n = [.v (.int .i64 n)]:=rfl
def byteC (n:Int):List Cl:=[.v (.int .u8 n)]
@[go_sem] theorem O8 (n:Int):byteC n = [.v (.int .u8 n)]:=rfl
def sq (x:Int) (k:Int→Int):Int:=if x<0 then -1 else k x
theorem AHB {x:Int} {k:Int→Int} (h:x<0):sq x k = -1:=bu h
theorem AHC {x:Int} {k:Int→Int} (h:¬ x<0):sq x k=k x:=aZ h
def Fv (n:Nat) (l:Int):Int:=if l-n<0 then -1 else l-n
theorem AFA {n:Nat} {l:Int} (h:l-n<0):Fv n l = -1:=bu h
theorem AAY {n:Nat} {l:Int} (h:¬ l-n<0):Fv n l=l-n:=aZ h
def Xt {α:Type} (f:α→Int→Int):List α→Int→Int
 | [],l=>l
 | x::xs,l=>sq (f x l) (Xt f xs)
def DW {α:Type} (f:α→Int→Int) (xs:List α) (l:Int):Int:=sq (Fv xs.length l) (Xt f xs)
def fitS {α:Type} (F:α→Prop) (xs:List α):Prop:=xs.length≤1048576∧∀ x∈xs,F x
theorem CG {n:Nat} {l:Int} (h:0≤Fv n l) (hl:l≤1048576):n≤1048576∧Fv n l≤l:=by
 unfold Fv at *
 split at h<;>simp_all<;>omega
theorem AZ {x:Int} {k:Int→Int} (h:0≤sq x k):0≤x∧0≤k x∧sq x k=k x:=by
 unfold sq at *
 split at h
 ·omega
 ·rename_i hx
  exact⟨AOh,h,aZ hx⟩
theorem mZ {α:Type} {f:α→Int→Int} {F:α→Prop}:∀ (xs:List α) (_:∀ x∈xs,∀ l,0≤f x l→l≤1048576→F x∧f x l≤l) (l:Int),0≤Xt f xs l→l≤1048576→(∀ x∈xs,F x)∧Xt f xs l≤l
 | [],_,l,_,_=>⟨AOi,by simp[Xt]⟩
 | x::xs,hf,l,h,hl=>by
  simp only[Xt] at h ⊢
  obtain⟨h1,h2,h3⟩:=AZ h
  obtain⟨g1,g2⟩:=hf x AOi l h1 hl
  obtain⟨g3,g4⟩:=mZ xs (fun y hy=>hf y AP1) _ h2 AOh
  exact⟨by simp only[dh,forall_eq_or_imp]; exact⟨g1,g3⟩,by rw[h3]; omega⟩
theorem Du {α:Type} {f:α→Int→Int} {F:α→Prop} (xs:List α) (hf:∀ x∈xs,∀ l,0≤f x l→l≤1048576→F x∧f x l≤l) {l:Int} (h:0≤DW f xs l) (hl:l≤1048576):fitS F xs∧DW f xs l≤l:=by
 unfold DW at h ⊢
 obtain⟨h1,h2,h3⟩:=AZ h
 obtain⟨g1,g2⟩:=CG h1 hl
 obtain⟨g3,g4⟩:=mZ xs hf _ h2 AOh
 exact⟨⟨g1,g3⟩,by rw[h3]; omega⟩
structure DVal where
 ty:Int
 n:Int
 s:ByteArray
def DVal.c (d:DVal):List Cl:=[.v (.int .i64 d.ty)]++([.v (.int .i64 d.n)]++([.v (.string d.s)]))
@[go_sem] theorem DVal.c_eq (d:DVal):d.c = [.v (.int .i64 d.ty)]++([.v (.int .i64 d.n)]++([.v (.string d.s)])):=rfl
def A7 (d:DVal) (l:Int):Int:=sq (Fv d.s.size l) fun l=>l
theorem H5 (d:DVal) (l:Int):A7 d l=sq (Fv d.s.size l) fun l=>l:=rfl
structure DRow where
 id:Int
 l:List DVal
def DRow.c (d:DRow):List Cl:=[.v (.int .i64 d.id)]++([.sl (d.l.map DVal.c)])
@[go_sem] theorem DRow.c_eq (d:DRow):d.c = [.v (.int .i64 d.id)]++([.sl (d.l.map DVal.c)]):=rfl
def Jl (d:DRow) (l:Int):Int:=sq (DW A7 d.l l) fun l=>l
theorem Uw (d:DRow) (l:Int):Jl d l=sq (DW A7 d.l l) fun l=>l:=rfl
inductive DPred where
 | mk (kind:Int) (col:Int) (op:Int) (v:DVal) (l:List DPred)
def DPred.kind:DPred→Int | .mk kind _ _ _ _=>kind
def DPred.col:DPred→Int | .mk _ col _ _ _=>col
def DPred.op:DPred→Int | .mk _ _ op _ _=>op
def DPred.v:DPred→DVal | .mk _ _ _ v _=>v
def DPred.l:DPred→List DPred | .mk _ _ _ _ l=>l
mutual
def DPred.c:DPred→List Cl
 | .mk kind col op v l=>[.v (.int .i64 kind)]++([.v (.int .i64 col)]++([.v (.int .i64 op)]++(v.c++([.sl (DPred.cs l)]))))
def DPred.cs:List DPred→List (List Cl)
 | []=>[]
 | x::xs=>x.c::DPred.cs xs
end
theorem DPred.cs_eq:∀ l:List DPred,DPred.cs l=l.map DPred.c
 | []=>by simp only[DPred.cs,cu]
 | x::xs=>by simp only[DPred.cs,YG,DPred.cs_eq xs]
@[go_sem] theorem DPred.c_eq (d:DPred):d.c = [.v (.int .i64 d.kind)]++([.v (.int .i64 d.col)]++([.v (.int .i64 d.op)]++(d.v.c++([.sl (d.l.map DPred.c)])))):=by
 cases d
 simp only[DPred.c,DPred.cs_eq,DPred.kind,DPred.col,DPred.op,DPred.v,DPred.l]
mutual
def Bq:DPred→Int→Int
 | .mk kind col op v l,m0=>sq ((A7 v) m0) fun m0=>sq ((fun m=>sq (Fv l.length m) (SX l)) m0) fun m0=>m0
def SX:List DPred→Int→Int
 | [],l=>l
 | x::xs,l=>sq (Bq x l) (SX xs)
end
theorem Zl:∀ (l:List DPred) (m:Int),SX l m=Xt Bq l m
 | [],m=>by simp only[SX,Xt]
 | x::xs,m=>by
  simp only[SX,Xt]
  congr 1
  funext m
  exact Zl xs m
theorem JZ (d:DPred) (l:Int):Bq d l=sq (A7 d.v l) fun l=>sq (DW Bq d.l l) fun l=>l:=by
 have h:SX=Xt Bq:=by funext l m; exact Zl l m
 cases d
 simp only[Bq,DW,h,DPred.kind,DPred.col,DPred.op,DPred.v,DPred.l]
structure DQuery where
 kind:Int
 p:DPred
 col:Int
 out:List Int
def DQuery.c (d:DQuery):List Cl:=[.v (.int .i64 d.kind)]++(d.p.c++([.v (.int .i64 d.col)]++([.sl (d.out.map intC)])))
@[go_sem] theorem DQuery.c_eq (d:DQuery):d.c = [.v (.int .i64 d.kind)]++(d.p.c++([.v (.int .i64 d.col)]++([.sl (d.out.map intC)]))):=rfl
def EK (d:DQuery) (l:Int):Int:=sq (Bq d.p l) fun l=>sq (Fv d.out.length l) fun l=>l
theorem KQ (d:DQuery) (l:Int):EK d l=sq (Bq d.p l) fun l=>sq (Fv d.out.length l) fun l=>l:=rfl
structure DResult where
 rows:List DRow
 n:Int
 has:Bool
 v:DVal
def DResult.c (d:DResult):List Cl:=[.sl (d.rows.map DRow.c)]++([.v (.int .i64 d.n)]++([.v (.bool d.has)]++(d.v.c)))
@[go_sem] theorem DResult.c_eq (d:DResult):d.c = [.sl (d.rows.map DRow.c)]++([.v (.int .i64 d.n)]++([.v (.bool d.has)]++(d.v.c))):=rfl
def LX (d:DResult) (l:Int):Int:=sq (DW Jl d.rows l) fun l=>sq (A7 d.v l) fun l=>l
theorem N_ (d:DResult) (l:Int):LX d l=sq (DW Jl d.rows l) fun l=>sq (A7 d.v l) fun l=>l:=rfl
structure DSlot where
 ins:Int
 l:List DVal
def DSlot.c (d:DSlot):List Cl:=[.v (.int .i64 d.ins)]++([.sl (d.l.map DVal.c)])
@[go_sem] theorem DSlot.c_eq (d:DSlot):d.c = [.v (.int .i64 d.ins)]++([.sl (d.l.map DVal.c)]):=rfl
def L6 (d:DSlot) (l:Int):Int:=sq (DW A7 d.l l) fun l=>l
theorem SY (d:DSlot) (l:Int):L6 d l=sq (DW A7 d.l l) fun l=>l:=rfl
structure DChunk where
 next:Int
 l:List DSlot
def DChunk.c (d:DChunk):List Cl:=[.v (.int .i64 d.next)]++([.sl (d.l.map DSlot.c)])
@[go_sem] theorem DChunk.c_eq (d:DChunk):d.c = [.v (.int .i64 d.next)]++([.sl (d.l.map DSlot.c)]):=rfl
def Kz (d:DChunk) (l:Int):Int:=sq (DW L6 d.l l) fun l=>l
theorem Pn (d:DChunk) (l:Int):Kz d l=sq (DW L6 d.l l) fun l=>l:=rfl
structure DBuf where
 gen:Int
 kind:Int
 c0:DChunk
 g:List Int
def DBuf.c (d:DBuf):List Cl:=[.v (.int .i64 d.gen)]++([.v (.int .i64 d.kind)]++(d.c0.c++([.sl (d.g.map byteC)])))
@[go_sem] theorem DBuf.c_eq (d:DBuf):d.c = [.v (.int .i64 d.gen)]++([.v (.int .i64 d.kind)]++(d.c0.c++([.sl (d.g.map byteC)]))):=rfl
def IX (d:DBuf) (l:Int):Int:=sq (Kz d.c0 l) fun l=>sq (Fv d.g.length l) fun l=>l
theorem Ux (d:DBuf) (l:Int):IX d l=sq (Kz d.c0 l) fun l=>sq (Fv d.g.length l) fun l=>l:=rfl
structure DDead where
 buf:Int
 gen:Int
 at0:Int
def DDead.c (d:DDead):List Cl:=[.v (.int .i64 d.buf)]++([.v (.int .i64 d.gen)]++([.v (.int .i64 d.at0)]))
@[go_sem] theorem DDead.c_eq (d:DDead):d.c = [.v (.int .i64 d.buf)]++([.v (.int .i64 d.gen)]++([.v (.int .i64 d.at0)])):=rfl
structure DRef where
 buf:Int
 gen:Int
 kind:Int
 first:Int
 many:Int
def DRef.c (d:DRef):List Cl:=[.v (.int .i64 d.buf)]++([.v (.int .i64 d.gen)]++([.v (.int .i64 d.kind)]++([.v (.int .i64 d.first)]++([.v (.int .i64 d.many)]))))
@[go_sem] theorem DRef.c_eq (d:DRef):d.c = [.v (.int .i64 d.buf)]++([.v (.int .i64 d.gen)]++([.v (.int .i64 d.kind)]++([.v (.int .i64 d.first)]++([.v (.int .i64 d.many)])))):=rfl
structure DDir where
 ver:Int
 l:List DRef
def DDir.c (d:DDir):List Cl:=[.v (.int .i64 d.ver)]++([.sl (d.l.map DRef.c)])
@[go_sem] theorem DDir.c_eq (d:DDir):d.c = [.v (.int .i64 d.ver)]++([.sl (d.l.map DRef.c)]):=rfl
def IY (d:DDir) (l:Int):Int:=sq (Fv d.l.length l) fun l=>l
theorem Zm (d:DDir) (l:Int):IY d l=sq (Fv d.l.length l) fun l=>l:=rfl
structure DTask where
 op:Int
 pc:Int
 h:Int
 r:List DVal
 id:Int
 q:DQuery
 ts:Int
 ver:Int
 l:List DRef
 i:Int
 j:Int
 s:Int
 at0:Int
 own:Int
 won:Bool
 got:List DRow
def DTask.c (d:DTask):List Cl:=[.v (.int .i64 d.op)]++([.v (.int .i64 d.pc)]++([.v (.int .i64 d.h)]++([.sl (d.r.map DVal.c)]++([.v (.int .i64 d.id)]++(d.q.c++([.v (.int .i64 d.ts)]++([.v (.int .i64 d.ver)]++([.sl (d.l.map DRef.c)]++([.v (.int .i64 d.i)]++([.v (.int .i64 d.j)]++([.v (.int .i64 d.s)]++([.v (.int .i64 d.at0)]++([.v (.int .i64 d.own)]++([.v (.bool d.won)]++([.sl (d.got.map DRow.c)])))))))))))))))
@[go_sem] theorem DTask.c_eq (d:DTask):d.c = [.v (.int .i64 d.op)]++([.v (.int .i64 d.pc)]++([.v (.int .i64 d.h)]++([.sl (d.r.map DVal.c)]++([.v (.int .i64 d.id)]++(d.q.c++([.v (.int .i64 d.ts)]++([.v (.int .i64 d.ver)]++([.sl (d.l.map DRef.c)]++([.v (.int .i64 d.i)]++([.v (.int .i64 d.j)]++([.v (.int .i64 d.s)]++([.v (.int .i64 d.at0)]++([.v (.int .i64 d.own)]++([.v (.bool d.won)]++([.sl (d.got.map DRow.c)]))))))))))))))):=rfl
def I5 (d:DTask) (l:Int):Int:=sq (DW A7 d.r l) fun l=>sq (EK d.q l) fun l=>sq (Fv d.l.length l) fun l=>sq (DW Jl d.got l) fun l=>l
theorem Si (d:DTask) (l:Int):I5 d l=sq (DW A7 d.r l) fun l=>sq (EK d.q l) fun l=>sq (Fv d.l.length l) fun l=>sq (DW Jl d.got l) fun l=>l:=rfl
structure DDeed where
 op:Int
 task:Int
 r:List DVal
 id:Int
 q:DQuery
 res:DResult
 code:Int
 stamp:Int
 inv:Int
 lin:Int
 ret:Int
def DDeed.c (d:DDeed):List Cl:=[.v (.int .i64 d.op)]++([.v (.int .i64 d.task)]++([.sl (d.r.map DVal.c)]++([.v (.int .i64 d.id)]++(d.q.c++(d.res.c++([.v (.int .i64 d.code)]++([.v (.int .i64 d.stamp)]++([.v (.int .i64 d.inv)]++([.v (.int .i64 d.lin)]++([.v (.int .i64 d.ret)]))))))))))
@[go_sem] theorem DDeed.c_eq (d:DDeed):d.c = [.v (.int .i64 d.op)]++([.v (.int .i64 d.task)]++([.sl (d.r.map DVal.c)]++([.v (.int .i64 d.id)]++(d.q.c++(d.res.c++([.v (.int .i64 d.code)]++([.v (.int .i64 d.stamp)]++([.v (.int .i64 d.inv)]++([.v (.int .i64 d.lin)]++([.v (.int .i64 d.ret)])))))))))):=rfl
def KR (d:DDeed) (l:Int):Int:=sq (DW A7 d.r l) fun l=>sq (EK d.q l) fun l=>sq (LX d.res l) fun l=>l
theorem Sj (d:DDeed) (l:Int):KR d l=sq (DW A7 d.r l) fun l=>sq (EK d.q l) fun l=>sq (LX d.res l) fun l=>l:=rfl
structure DConf where
 cols:List Int
 slots:Int
 bufs:Int
def DConf.c (d:DConf):List Cl:=[.sl (d.cols.map intC)]++([.v (.int .i64 d.slots)]++([.v (.int .i64 d.bufs)]))
@[go_sem] theorem DConf.c_eq (d:DConf):d.c = [.sl (d.cols.map intC)]++([.v (.int .i64 d.slots)]++([.v (.int .i64 d.bufs)])):=rfl
def FB (d:DConf) (l:Int):Int:=sq (Fv d.cols.length l) fun l=>l
theorem Wn (d:DConf) (l:Int):FB d l=sq (Fv d.cols.length l) fun l=>l:=rfl
structure DWorld where
 c0:DConf
 time:Int
 t:Int
 e:Int
 d:DDir
 b:List DBuf
 m:List Int
 x:List DDead
 p:List Int
 tasks:List DTask
 deeds:List DDeed
def DWorld.c (d:DWorld):List Cl:=d.c0.c++([.v (.int .i64 d.time)]++([.v (.int .i64 d.t)]++([.v (.int .i64 d.e)]++(d.d.c++([.sl (d.b.map DBuf.c)]++([.sl (d.m.map intC)]++([.sl (d.x.map DDead.c)]++([.sl (d.p.map intC)]++([.sl (d.tasks.map DTask.c)]++([.sl (d.deeds.map DDeed.c)]))))))))))
@[go_sem] theorem DWorld.c_eq (d:DWorld):d.c=d.c0.c++([.v (.int .i64 d.time)]++([.v (.int .i64 d.t)]++([.v (.int .i64 d.e)]++(d.d.c++([.sl (d.b.map DBuf.c)]++([.sl (d.m.map intC)]++([.sl (d.x.map DDead.c)]++([.sl (d.p.map intC)]++([.sl (d.tasks.map DTask.c)]++([.sl (d.deeds.map DDeed.c)])))))))))):=rfl
def JP (d:DWorld) (l:Int):Int:=sq (FB d.c0 l) fun l=>sq (IY d.d l) fun l=>sq (DW IX d.b l) fun l=>sq (Fv d.m.length l) fun l=>sq (Fv d.x.length l) fun l=>sq (Fv d.p.length l) fun l=>sq (DW I5 d.tasks l) fun l=>sq (DW KR d.deeds l) fun l=>l
theorem NT (d:DWorld) (l:Int):JP d l=sq (FB d.c0 l) fun l=>sq (IY d.d l) fun l=>sq (DW IX d.b l) fun l=>sq (Fv d.m.length l) fun l=>sq (Fv d.x.length l) fun l=>sq (Fv d.p.length l) fun l=>sq (DW I5 d.tasks l) fun l=>sq (DW KR d.deeds l) fun l=>l:=rfl
def Gh (d:DVal):Prop:=d.s.size≤1048576
theorem Sl (d:DVal):Gh d=(d.s.size≤1048576):=rfl
theorem Dx (d:DVal) (l:Int) (h0:0≤A7 d l) (hl:l≤1048576):Gh d∧A7 d l≤l:=by
 rw[H5] at h0 ⊢
 rw[Sl]
 exact AMO
def Gu (d:DRow):Prop:=fitS Gh d.l
theorem Ja (d:DRow):Gu d=(fitS Gh d.l):=rfl
theorem NE (d:DRow) (l:Int) (h0:0≤Jl d l) (hl:l≤1048576):Gu d∧Jl d l≤l:=by
 rw[Uw] at h0 ⊢
 rw[Ja]
 exact ANJ
mutual
def A_:DPred→Prop
 | .mk kind col op v l=>Gh v∧(l.length≤1048576∧Qq l)
def Qq:List DPred→Prop
 | []=>True
 | x::xs=>A_ x∧Qq xs
end
theorem Xu:∀ l:List DPred,Qq l=∀ x∈l,A_ x
 | []=>by simp[Qq]
 | x::xs=>by simp[Qq,Xu xs]
theorem BP (d:DPred):A_ d=(Gh d.v∧fitS A_ d.l):=by
 cases d
 simp only[A_,fitS,Xu,DPred.kind,DPred.col,DPred.op,DPred.v,DPred.l]
theorem mf (d:DPred) (hx:∀ x∈d.l,∀ l,0≤Bq x l→l≤1048576→A_ x∧Bq x l≤l) (l:Int) (h0:0≤Bq d l) (hl:l≤1048576):A_ d∧Bq d l≤l:=by
 rw[JZ] at h0 ⊢
 rw[BP]
 obtain⟨a0,h1,e0⟩:=AZ h0
 obtain⟨g0,b0⟩:=Dx d.v _ a0 AOh
 obtain⟨a1,h2,e1⟩:=AZ h1
 obtain⟨g1,b1⟩:=Du d.l hx a1 AOh
 exact⟨⟨g0,g1⟩,by rw[e0,e1]; omega⟩
theorem Xv:∀ (n:Nat) (d:DPred),SizeOf.sizeOf d≤n→∀ l,0≤Bq d l→l≤1048576→A_ d∧Bq d l≤l
 | 0,d,h=>APp
 | n+1,d,h=>mf d fun x hx=>Xv n x (by
  have h1:SizeOf.sizeOf x<SizeOf.sizeOf d.l:=aao hx
  have h2:SizeOf.sizeOf d.l<SizeOf.sizeOf d:=APl
  omega)
theorem Hf (d:DPred) (l:Int) (h:0≤Bq d l) (hl:l≤1048576):A_ d∧Bq d l≤l:=Xv _ d (aT _) l h hl
def Ee (d:DQuery):Prop:=A_ d.p∧d.out.length≤1048576
theorem F9 (d:DQuery):Ee d=(A_ d.p∧d.out.length≤1048576):=rfl
theorem OA (d:DQuery) (l:Int) (h0:0≤EK d l) (hl:l≤1048576):Ee d∧EK d l≤l:=by
 rw[KQ] at h0 ⊢
 rw[F9]
 obtain⟨a0,h1,e0⟩:=AZ h0
 obtain⟨g0,b0⟩:=Hf d.p _ a0 AOh
 exact ANf
def KT (d:DResult):Prop:=fitS Gu d.rows∧Gh d.v
theorem MV (d:DResult):KT d=(fitS Gu d.rows∧Gh d.v):=rfl
theorem Uy (d:DResult) (l:Int) (h0:0≤LX d l) (hl:l≤1048576):KT d∧LX d l≤l:=by
 rw[N_] at h0 ⊢
 rw[MV]
 obtain⟨a0,h1,e0⟩:=AZ h0
 obtain⟨g0,b0⟩:=Du d.rows (fun x _=>NE x) a0 AOh
 obtain⟨a1,h2,e1⟩:=AZ h1
 obtain⟨g1,b1⟩:=Dx d.v _ a1 AOh
 exact⟨⟨g0,g1⟩,by rw[e0,e1]; omega⟩
def K_ (d:DSlot):Prop:=fitS Gh d.l
theorem KU (d:DSlot):K_ d=(fitS Gh d.l):=rfl
theorem UH (d:DSlot) (l:Int) (h0:0≤L6 d l) (hl:l≤1048576):K_ d∧L6 d l≤l:=by
 rw[SY] at h0 ⊢
 rw[KU]
 exact ANJ
def F_ (d:DChunk):Prop:=fitS K_ d.l
theorem EE (d:DChunk):F_ d=(fitS K_ d.l):=rfl
theorem Xw (d:DChunk) (l:Int) (h0:0≤Kz d l) (hl:l≤1048576):F_ d∧Kz d l≤l:=by
 rw[Pn] at h0 ⊢
 rw[EE]
 obtain⟨a0,h1,e0⟩:=AZ h0
 obtain⟨g0,b0⟩:=Du d.l (fun x _=>UH x) a0 AOh
 exact⟨g0,by rw[e0]; omega⟩
def IE (d:DBuf):Prop:=F_ d.c0∧d.g.length≤1048576
theorem H9 (d:DBuf):IE d=(F_ d.c0∧d.g.length≤1048576):=rfl
theorem NF (d:DBuf) (l:Int) (h0:0≤IX d l) (hl:l≤1048576):IE d∧IX d l≤l:=by
 rw[Ux] at h0 ⊢
 rw[H9]
 obtain⟨a0,h1,e0⟩:=AZ h0
 obtain⟨g0,b0⟩:=Xw d.c0 _ a0 AOh
 exact ANf
def UI (d:DDir):Prop:=d.l.length≤1048576
theorem H_ (d:DDir):UI d=(d.l.length≤1048576):=rfl
theorem Sm (d:DDir) (l:Int) (h0:0≤IY d l) (hl:l≤1048576):UI d∧IY d l≤l:=by
 rw[Zm] at h0 ⊢
 rw[H_]
 exact AMO
def GG (d:DTask):Prop:=fitS Gh d.r∧Ee d.q∧d.l.length≤1048576∧fitS Gu d.got
theorem EC (d:DTask):GG d=(fitS Gh d.r∧Ee d.q∧d.l.length≤1048576∧fitS Gu d.got):=rfl
theorem KW (d:DTask) (l:Int) (h0:0≤I5 d l) (hl:l≤1048576):GG d∧I5 d l≤l:=by
 rw[Si] at h0 ⊢
 rw[EC]
 obtain⟨a0,h1,e0⟩:=AZ h0
 obtain⟨g0,b0⟩:=Du d.r (fun x _=>Dx x) a0 AOh
 obtain⟨a1,h2,e1⟩:=AZ h1
 obtain⟨g1,b1⟩:=OA d.q _ a1 AOh
 obtain⟨a2,h3,e2⟩:=AZ h2
 obtain⟨g2,b2⟩:=CG a2 AOh
 obtain⟨a3,h4,e3⟩:=AZ h3
 obtain⟨g3,b3⟩:=Du d.got (fun x _=>NE x) a3 AOh
 exact⟨⟨g0,g1,g2,g3⟩,by rw[e0,e1,e2,e3]; omega⟩
def Fj (d:DDeed):Prop:=fitS Gh d.r∧Ee d.q∧KT d.res
theorem Hg (d:DDeed):Fj d=(fitS Gh d.r∧Ee d.q∧KT d.res):=rfl
theorem NU (d:DDeed) (l:Int) (h0:0≤KR d l) (hl:l≤1048576):Fj d∧KR d l≤l:=by
 rw[Sj] at h0 ⊢
 rw[Hg]
 obtain⟨a0,h1,e0⟩:=AZ h0
 obtain⟨g0,b0⟩:=Du d.r (fun x _=>Dx x) a0 AOh
 obtain⟨a1,h2,e1⟩:=AZ h1
 obtain⟨g1,b1⟩:=OA d.q _ a1 AOh
 obtain⟨a2,h3,e2⟩:=AZ h2
 obtain⟨g2,b2⟩:=Uy d.res _ a2 AOh
 exact⟨⟨g0,g1,g2⟩,by rw[e0,e1,e2]; omega⟩
def Po (d:DConf):Prop:=d.cols.length≤1048576
theorem IZ (d:DConf):Po d=(d.cols.length≤1048576):=rfl
theorem Pq (d:DConf) (l:Int) (h0:0≤FB d l) (hl:l≤1048576):Po d∧FB d l≤l:=by
 rw[Wn] at h0 ⊢
 rw[IZ]
 exact AMO
def AX (d:DWorld):Prop:=Po d.c0∧UI d.d∧fitS IE d.b∧d.m.length≤1048576∧d.x.length≤1048576∧d.p.length≤1048576∧fitS GG d.tasks∧fitS Fj d.deeds
theorem A8 (d:DWorld):AX d=(Po d.c0∧UI d.d∧fitS IE d.b∧d.m.length≤1048576∧d.x.length≤1048576∧d.p.length≤1048576∧fitS GG d.tasks∧fitS Fj d.deeds):=rfl
theorem OB (d:DWorld) (l:Int) (h0:0≤JP d l) (hl:l≤1048576):AX d∧JP d l≤l:=by
 rw[NT] at h0 ⊢
 rw[A8]
 obtain⟨a0,h1,e0⟩:=AZ h0
 obtain⟨g0,b0⟩:=Pq d.c0 _ a0 AOh
 obtain⟨a1,h2,e1⟩:=AZ h1
 obtain⟨g1,b1⟩:=Sm d.d _ a1 AOh
 obtain⟨a2,h3,e2⟩:=AZ h2
 obtain⟨g2,b2⟩:=Du d.b (fun x _=>NF x) a2 AOh
 obtain⟨a3,h4,e3⟩:=AZ h3
 obtain⟨g3,b3⟩:=CG a3 AOh
 obtain⟨a4,h5,e4⟩:=AZ h4
 obtain⟨g4,b4⟩:=CG a4 AOh
 obtain⟨a5,h6,e5⟩:=AZ h5
 obtain⟨g5,b5⟩:=CG a5 AOh
 obtain⟨a6,h7,e6⟩:=AZ h6
 obtain⟨g6,b6⟩:=Du d.tasks (fun x _=>KW x) a6 AOh
 obtain⟨a7,h8,e7⟩:=AZ h7
 obtain⟨g7,b7⟩:=Du d.deeds (fun x _=>NU x) a7 AOh
 exact⟨⟨g0,g1,g2,g3,g4,g5,g6,g7⟩,by rw[e0,e1,e2,e3,e4,e5,e6,e7]; omega⟩
theorem DVal.pure (d:DVal):DJ d.c=true:=by
 simp[DVal.c_eq,DJ,AB]
theorem DRow.pure (d:DRow):DJ d.c=true:=by
 simp[DRow.c_eq,DJ,AB]
theorem DPred.pure (d:DPred):DJ d.c=true:=by
 have h0:=DVal.pure d.v
 rw[DJ] at h0
 simp[DPred.c_eq,DJ,AB,h0]
theorem DQuery.pure (d:DQuery):DJ d.c=true:=by
 have h0:=DPred.pure d.p
 rw[DJ] at h0
 simp[DQuery.c_eq,DJ,AB,h0]
theorem DResult.pure (d:DResult):DJ d.c=true:=by
 have h0:=DVal.pure d.v
 rw[DJ] at h0
 simp[DResult.c_eq,DJ,AB,h0]
theorem DSlot.pure (d:DSlot):DJ d.c=true:=by
 simp[DSlot.c_eq,DJ,AB]
theorem DChunk.pure (d:DChunk):DJ d.c=true:=by
 simp[DChunk.c_eq,DJ,AB]
theorem DBuf.pure (d:DBuf):DJ d.c=true:=by
 have h0:=DChunk.pure d.c0
 rw[DJ] at h0
 simp[DBuf.c_eq,DJ,AB,h0]
theorem DDead.pure (d:DDead):DJ d.c=true:=by
 simp[DDead.c_eq,DJ,AB]
theorem DRef.pure (d:DRef):DJ d.c=true:=by
 simp[DRef.c_eq,DJ,AB]
theorem DDir.pure (d:DDir):DJ d.c=true:=by
 simp[DDir.c_eq,DJ,AB]
theorem DTask.pure (d:DTask):DJ d.c=true:=by
 have h0:=DQuery.pure d.q
 rw[DJ] at h0
 simp[DTask.c_eq,DJ,AB,h0]
theorem DDeed.pure (d:DDeed):DJ d.c=true:=by
 have h0:=DQuery.pure d.q
 rw[DJ] at h0
 have h1:=DResult.pure d.res
 rw[DJ] at h1
 simp[DDeed.c_eq,DJ,AB,h0,h1]
theorem DConf.pure (d:DConf):DJ d.c=true:=by
 simp[DConf.c_eq,DJ,AB]
theorem DWorld.pure (d:DWorld):DJ d.c=true:=by
 have h0:=DConf.pure d.c0
 rw[DJ] at h0
 have h1:=DDir.pure d.d
 rw[DJ] at h1
 simp[DWorld.c_eq,DJ,AB,h0,h1]
theorem intC.pure (n:Int):DJ (intC n)=true:=rfl
theorem byteC.pure (n:Int):DJ (byteC n)=true:=rfl
end Go.Proofs.YtnoldekcdlaahaaGreat
