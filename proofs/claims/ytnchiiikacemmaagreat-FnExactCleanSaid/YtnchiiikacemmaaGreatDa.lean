/- A part. -/
import Derived.Test.YtnchiiikacemmaaGreatVmW
set_option linter.unusedSimpArgs false
set_option linter.unusedVariables false
namespace Go.Proofs.YtnchiiikacemmaaGreat
open Go.Vm
def intC (n:Int):List Cl:=[.v (.int .i64 n)]
@[go_sem] theorem wF (n:Int):intC n = [.v (.int .i64 n)]:=rfl
def byteC (n:Int):List Cl:=[.v (.int .u8 n)]
@[go_sem] theorem MR (n:Int):byteC n = [.v (.int .u8 n)]:=rfl
def sq (x:Int) (k:Int→Int):Int:=if x<0 then -1 else k x
theorem RG {x:Int} {k:Int→Int} (h:x<0):sq x k = -1:=aX h
theorem RH {x:Int} {k:Int→Int} (h:¬ x<0):sq x k=k x:=aV h
def DC (n:Nat) (l:Int):Int:=if l-n<0 then -1 else l-n
def MV {α:Type} (f:α→Int→Int):List α→Int→Int
 | [],l=>l
 | x::xs,l=>sq (f x l) (MV f xs)
def BN {α:Type} (f:α→Int→Int) (xs:List α) (l:Int):Int:=sq (DC xs.length l) (MV f xs)
def fitS {α:Type} (F:α→Prop) (xs:List α):Prop:=xs.length≤1048576∧∀ x∈xs,F x
theorem Cb {n:Nat} {l:Int} (h:0≤DC n l) (hl:l≤1048576):n≤1048576∧DC n l≤l:=by
 unfold DC at *
 split at h<;>simp_all<;>omega
theorem AZ {x:Int} {k:Int→Int} (h:0≤sq x k):0≤x∧0≤k x∧sq x k=k x:=by
 unfold sq at *
 split at h
 ·omega
 ·rename_i hx
  exact⟨by omega,h,aV hx⟩
theorem wG {α:Type} {f:α→Int→Int} {F:α→Prop}:∀ (xs:List α) (_:∀ x∈xs,∀ l,0≤f x l→l≤1048576→F x∧f x l≤l) (l:Int),0≤MV f xs l→l≤1048576→(∀ x∈xs,F x)∧MV f xs l≤l
 | [],_,l,_,_=>⟨by simp,by simp[MV]⟩
 | x::xs,hf,l,h,hl=>by
  simp only[MV] at h ⊢
  obtain⟨h1,h2,h3⟩:=AZ h
  obtain⟨g1,g2⟩:=hf x (by simp) l h1 hl
  obtain⟨g3,g4⟩:=wG xs (fun y hy=>hf y (by simp[hy])) _ h2 (by omega)
  exact⟨by simp only[bW,forall_eq_or_imp]; exact⟨g1,g3⟩,by rw[h3]; omega⟩
theorem DF {α:Type} {f:α→Int→Int} {F:α→Prop} (xs:List α) (hf:∀ x∈xs,∀ l,0≤f x l→l≤1048576→F x∧f x l≤l) {l:Int} (h:0≤BN f xs l) (hl:l≤1048576):fitS F xs∧BN f xs l≤l:=by
 unfold BN at h ⊢
 obtain⟨h1,h2,h3⟩:=AZ h
 obtain⟨g1,g2⟩:=Cb h1 hl
 obtain⟨g3,g4⟩:=wG xs hf _ h2 (by omega)
 exact⟨⟨g1,g3⟩,by rw[h3]; omega⟩
structure DVal where
 ty:Int
 n:Int
 s:ByteArray
def DVal.c (d:DVal):List Cl:=[.v (.int .i64 d.ty)]++([.v (.int .i64 d.n)]++([.v (.string d.s)]))
@[go_sem] theorem DVal.c_eq (d:DVal):d.c = [.v (.int .i64 d.ty)]++([.v (.int .i64 d.n)]++([.v (.string d.s)])):=rfl
def Aa (d:DVal) (l:Int):Int:=sq (DC d.s.size l) fun l=>l
theorem Gh (d:DVal) (l:Int):Aa d l=sq (DC d.s.size l) fun l=>l:=rfl
structure DRow where
 id:Int
 l:List DVal
def DRow.c (d:DRow):List Cl:=[.v (.int .i64 d.id)]++([.sl (d.l.map DVal.c)])
@[go_sem] theorem DRow.c_eq (d:DRow):d.c = [.v (.int .i64 d.id)]++([.sl (d.l.map DVal.c)]):=rfl
def EQ (d:DRow) (l:Int):Int:=sq (BN Aa d.l l) fun l=>l
theorem SN (d:DRow) (l:Int):EQ d l=sq (BN Aa d.l l) fun l=>l:=rfl
inductive DPred where
 | mk (kind:Int) (col:Int) (op:Int) (v:DVal) (l:List DPred)
def DPred.kind:DPred→Int | .mk kind _ _ _ _=>kind
def DPred.col:DPred→Int | .mk _ col _ _ _=>col
def DPred.op:DPred→Int | .mk _ _ op _ _=>op
def DPred.v:DPred→DVal | .mk _ _ _ v _=>v
def DPred.l:DPred→List DPred | .mk _ _ _ _ l=>l
mutual
def DPred.c:DPred→List Cl
 | .mk kind col op v l=>[.v (.int .i64 kind)]++([.v (.int .i64 col)]++([.v (.int .i64 op)]++(v.c++([.sl (DPred.cs l)]))))
def DPred.cs:List DPred→List (List Cl)
 | []=>[]
 | x::xs=>x.c::DPred.cs xs
end
theorem DPred.cs_eq:∀ l:List DPred,DPred.cs l=l.map DPred.c
 | []=>by simp only[DPred.cs,cZ]
 | x::xs=>by simp only[DPred.cs,V3,DPred.cs_eq xs]
@[go_sem] theorem DPred.c_eq (d:DPred):d.c = [.v (.int .i64 d.kind)]++([.v (.int .i64 d.col)]++([.v (.int .i64 d.op)]++(d.v.c++([.sl (d.l.map DPred.c)])))):=by
 cases d
 simp only[DPred.c,DPred.cs_eq,DPred.kind,DPred.col,DPred.op,DPred.v,DPred.l]
mutual
def Au:DPred→Int→Int
 | .mk kind col op v l,m0=>sq ((Aa v) m0) fun m0=>sq ((fun m=>sq (DC l.length m) (QC l)) m0) fun m0=>m0
def QC:List DPred→Int→Int
 | [],l=>l
 | x::xs,l=>sq (Au x l) (QC xs)
end
theorem Xj:∀ (l:List DPred) (m:Int),QC l m=MV Au l m
 | [],m=>by simp only[QC,MV]
 | x::xs,m=>by
  simp only[QC,MV]
  congr 1
  funext m
  exact Xj xs m
theorem Ie (d:DPred) (l:Int):Au d l=sq (Aa d.v l) fun l=>sq (BN Au d.l l) fun l=>l:=by
 have h:QC=MV Au:=by funext l m; exact Xj l m
 cases d
 simp only[Au,BN,h,DPred.v,DPred.l]
structure DQuery where
 kind:Int
 p:DPred
 col:Int
 out:List Int
def DQuery.c (d:DQuery):List Cl:=[.v (.int .i64 d.kind)]++(d.p.c++([.v (.int .i64 d.col)]++([.sl (d.out.map intC)])))
@[go_sem] theorem DQuery.c_eq (d:DQuery):d.c = [.v (.int .i64 d.kind)]++(d.p.c++([.v (.int .i64 d.col)]++([.sl (d.out.map intC)]))):=rfl
def BZ (d:DQuery) (l:Int):Int:=sq (Au d.p l) fun l=>sq (DC d.out.length l) fun l=>l
theorem JK (d:DQuery) (l:Int):BZ d l=sq (Au d.p l) fun l=>sq (DC d.out.length l) fun l=>l:=rfl
structure DResult where
 rows:List DRow
 n:Int
 has:Bool
 v:DVal
def DResult.c (d:DResult):List Cl:=[.sl (d.rows.map DRow.c)]++([.v (.int .i64 d.n)]++([.v (.bool d.has)]++(d.v.c)))
@[go_sem] theorem DResult.c_eq (d:DResult):d.c = [.sl (d.rows.map DRow.c)]++([.v (.int .i64 d.n)]++([.v (.bool d.has)]++(d.v.c))):=rfl
def IE (d:DResult) (l:Int):Int:=sq (BN EQ d.rows l) fun l=>sq (Aa d.v l) fun l=>l
theorem LY (d:DResult) (l:Int):IE d l=sq (BN EQ d.rows l) fun l=>sq (Aa d.v l) fun l=>l:=rfl
structure DSlot where
 ins:Int
 l:List DVal
def DSlot.c (d:DSlot):List Cl:=[.v (.int .i64 d.ins)]++([.sl (d.l.map DVal.c)])
@[go_sem] theorem DSlot.c_eq (d:DSlot):d.c = [.v (.int .i64 d.ins)]++([.sl (d.l.map DVal.c)]):=rfl
def Ep (d:DSlot) (l:Int):Int:=sq (BN Aa d.l l) fun l=>l
theorem QD (d:DSlot) (l:Int):Ep d l=sq (BN Aa d.l l) fun l=>l:=rfl
structure DChunk where
 next:Int
 l:List DSlot
def DChunk.c (d:DChunk):List Cl:=[.v (.int .i64 d.next)]++([.sl (d.l.map DSlot.c)])
@[go_sem] theorem DChunk.c_eq (d:DChunk):d.c = [.v (.int .i64 d.next)]++([.sl (d.l.map DSlot.c)]):=rfl
def Gz (d:DChunk) (l:Int):Int:=sq (BN Ep d.l l) fun l=>l
theorem NZ (d:DChunk) (l:Int):Gz d l=sq (BN Ep d.l l) fun l=>l:=rfl
structure DBuf where
 gen:Int
 kind:Int
 c0:DChunk
 g:List Int
def DBuf.c (d:DBuf):List Cl:=[.v (.int .i64 d.gen)]++([.v (.int .i64 d.kind)]++(d.c0.c++([.sl (d.g.map byteC)])))
@[go_sem] theorem DBuf.c_eq (d:DBuf):d.c = [.v (.int .i64 d.gen)]++([.v (.int .i64 d.kind)]++(d.c0.c++([.sl (d.g.map byteC)]))):=rfl
def DU (d:DBuf) (l:Int):Int:=sq (Gz d.c0 l) fun l=>sq (DC d.g.length l) fun l=>l
theorem SQ (d:DBuf) (l:Int):DU d l=sq (Gz d.c0 l) fun l=>sq (DC d.g.length l) fun l=>l:=rfl
structure DDead where
 buf:Int
 gen:Int
 at0:Int
def DDead.c (d:DDead):List Cl:=[.v (.int .i64 d.buf)]++([.v (.int .i64 d.gen)]++([.v (.int .i64 d.at0)]))
@[go_sem] theorem DDead.c_eq (d:DDead):d.c = [.v (.int .i64 d.buf)]++([.v (.int .i64 d.gen)]++([.v (.int .i64 d.at0)])):=rfl
structure DRef where
 buf:Int
 gen:Int
 kind:Int
 first:Int
 many:Int
def DRef.c (d:DRef):List Cl:=[.v (.int .i64 d.buf)]++([.v (.int .i64 d.gen)]++([.v (.int .i64 d.kind)]++([.v (.int .i64 d.first)]++([.v (.int .i64 d.many)]))))
@[go_sem] theorem DRef.c_eq (d:DRef):d.c = [.v (.int .i64 d.buf)]++([.v (.int .i64 d.gen)]++([.v (.int .i64 d.kind)]++([.v (.int .i64 d.first)]++([.v (.int .i64 d.many)])))):=rfl
structure DDir where
 ver:Int
 l:List DRef
def DDir.c (d:DDir):List Cl:=[.v (.int .i64 d.ver)]++([.sl (d.l.map DRef.c)])
@[go_sem] theorem DDir.c_eq (d:DDir):d.c = [.v (.int .i64 d.ver)]++([.sl (d.l.map DRef.c)]):=rfl
def Dx (d:DDir) (l:Int):Int:=sq (DC d.l.length l) fun l=>l
theorem Xk (d:DDir) (l:Int):Dx d l=sq (DC d.l.length l) fun l=>l:=rfl
structure DTask where
 op:Int
 pc:Int
 h:Int
 r:List DVal
 id:Int
 q:DQuery
 ts:Int
 ver:Int
 l:List DRef
 i:Int
 j:Int
 s:Int
 at0:Int
 own:Int
 won:Bool
 got:List DRow
def DTask.c (d:DTask):List Cl:=[.v (.int .i64 d.op)]++([.v (.int .i64 d.pc)]++([.v (.int .i64 d.h)]++([.sl (d.r.map DVal.c)]++([.v (.int .i64 d.id)]++(d.q.c++([.v (.int .i64 d.ts)]++([.v (.int .i64 d.ver)]++([.sl (d.l.map DRef.c)]++([.v (.int .i64 d.i)]++([.v (.int .i64 d.j)]++([.v (.int .i64 d.s)]++([.v (.int .i64 d.at0)]++([.v (.int .i64 d.own)]++([.v (.bool d.won)]++([.sl (d.got.map DRow.c)])))))))))))))))
@[go_sem] theorem DTask.c_eq (d:DTask):d.c = [.v (.int .i64 d.op)]++([.v (.int .i64 d.pc)]++([.v (.int .i64 d.h)]++([.sl (d.r.map DVal.c)]++([.v (.int .i64 d.id)]++(d.q.c++([.v (.int .i64 d.ts)]++([.v (.int .i64 d.ver)]++([.sl (d.l.map DRef.c)]++([.v (.int .i64 d.i)]++([.v (.int .i64 d.j)]++([.v (.int .i64 d.s)]++([.v (.int .i64 d.at0)]++([.v (.int .i64 d.own)]++([.v (.bool d.won)]++([.sl (d.got.map DRow.c)]))))))))))))))):=rfl
def ED (d:DTask) (l:Int):Int:=sq (BN Aa d.r l) fun l=>sq (BZ d.q l) fun l=>sq (DC d.l.length l) fun l=>sq (BN EQ d.got l) fun l=>l
theorem QE (d:DTask) (l:Int):ED d l=sq (BN Aa d.r l) fun l=>sq (BZ d.q l) fun l=>sq (DC d.l.length l) fun l=>sq (BN EQ d.got l) fun l=>l:=rfl
structure DDeed where
 op:Int
 task:Int
 r:List DVal
 id:Int
 q:DQuery
 res:DResult
 code:Int
 stamp:Int
 inv:Int
 lin:Int
 ret:Int
def DDeed.c (d:DDeed):List Cl:=[.v (.int .i64 d.op)]++([.v (.int .i64 d.task)]++([.sl (d.r.map DVal.c)]++([.v (.int .i64 d.id)]++(d.q.c++(d.res.c++([.v (.int .i64 d.code)]++([.v (.int .i64 d.stamp)]++([.v (.int .i64 d.inv)]++([.v (.int .i64 d.lin)]++([.v (.int .i64 d.ret)]))))))))))
@[go_sem] theorem DDeed.c_eq (d:DDeed):d.c = [.v (.int .i64 d.op)]++([.v (.int .i64 d.task)]++([.sl (d.r.map DVal.c)]++([.v (.int .i64 d.id)]++(d.q.c++(d.res.c++([.v (.int .i64 d.code)]++([.v (.int .i64 d.stamp)]++([.v (.int .i64 d.inv)]++([.v (.int .i64 d.lin)]++([.v (.int .i64 d.ret)])))))))))):=rfl
def Es (d:DDeed) (l:Int):Int:=sq (BN Aa d.r l) fun l=>sq (BZ d.q l) fun l=>sq (IE d.res l) fun l=>l
theorem QF (d:DDeed) (l:Int):Es d l=sq (BN Aa d.r l) fun l=>sq (BZ d.q l) fun l=>sq (IE d.res l) fun l=>l:=rfl
structure DConf where
 cols:List Int
 slots:Int
 bufs:Int
def DConf.c (d:DConf):List Cl:=[.sl (d.cols.map intC)]++([.v (.int .i64 d.slots)]++([.v (.int .i64 d.bufs)]))
@[go_sem] theorem DConf.c_eq (d:DConf):d.c = [.sl (d.cols.map intC)]++([.v (.int .i64 d.slots)]++([.v (.int .i64 d.bufs)])):=rfl
def Bi (d:DConf) (l:Int):Int:=sq (DC d.cols.length l) fun l=>l
theorem Um (d:DConf) (l:Int):Bi d l=sq (DC d.cols.length l) fun l=>l:=rfl
structure DWorld where
 c0:DConf
 time:Int
 t:Int
 e:Int
 d:DDir
 b:List DBuf
 m:List Int
 x:List DDead
 p:List Int
 tasks:List DTask
 deeds:List DDeed
def DWorld.c (d:DWorld):List Cl:=d.c0.c++([.v (.int .i64 d.time)]++([.v (.int .i64 d.t)]++([.v (.int .i64 d.e)]++(d.d.c++([.sl (d.b.map DBuf.c)]++([.sl (d.m.map intC)]++([.sl (d.x.map DDead.c)]++([.sl (d.p.map intC)]++([.sl (d.tasks.map DTask.c)]++([.sl (d.deeds.map DDeed.c)]))))))))))
@[go_sem] theorem DWorld.c_eq (d:DWorld):d.c=d.c0.c++([.v (.int .i64 d.time)]++([.v (.int .i64 d.t)]++([.v (.int .i64 d.e)]++(d.d.c++([.sl (d.b.map DBuf.c)]++([.sl (d.m.map intC)]++([.sl (d.x.map DDead.c)]++([.sl (d.p.map intC)]++([.sl (d.tasks.map DTask.c)]++([.sl (d.deeds.map DDeed.c)])))))))))):=rfl
def KI (d:DWorld) (l:Int):Int:=sq (Bi d.c0 l) fun l=>sq (Dx d.d l) fun l=>sq (BN DU d.b l) fun l=>sq (DC d.m.length l) fun l=>sq (DC d.x.length l) fun l=>sq (DC d.p.length l) fun l=>sq (BN ED d.tasks l) fun l=>sq (BN Es d.deeds l) fun l=>l
theorem Na (d:DWorld) (l:Int):KI d l=sq (Bi d.c0 l) fun l=>sq (Dx d.d l) fun l=>sq (BN DU d.b l) fun l=>sq (DC d.m.length l) fun l=>sq (DC d.x.length l) fun l=>sq (DC d.p.length l) fun l=>sq (BN ED d.tasks l) fun l=>sq (BN Es d.deeds l) fun l=>l:=rfl
def Fz (d:DVal):Prop:=d.s.size≤1048576
theorem Un (d:DVal):Fz d=(d.s.size≤1048576):=rfl
theorem DL (d:DVal) (l:Int) (h0:0≤Aa d l) (hl:l≤1048576):Fz d∧Aa d l≤l:=by
 rw[Gh] at h0 ⊢
 rw[Un]
 obtain⟨a0,h1,e0⟩:=AZ h0
 obtain⟨g0,b0⟩:=Cb a0 (by omega)
 exact⟨g0,by rw[e0]; omega⟩
def G_ (d:DRow):Prop:=fitS Fz d.l
theorem KY (d:DRow):G_ d=(fitS Fz d.l):=rfl
theorem KZ (d:DRow) (l:Int) (h0:0≤EQ d l) (hl:l≤1048576):G_ d∧EQ d l≤l:=by
 rw[SN] at h0 ⊢
 rw[KY]
 obtain⟨a0,h1,e0⟩:=AZ h0
 obtain⟨g0,b0⟩:=DF d.l (fun x _=>DL x) a0 (by omega)
 exact⟨g0,by rw[e0]; omega⟩
mutual
def Ak:DPred→Prop
 | .mk kind col op v l=>Fz v∧(l.length≤1048576∧Oy l)
def Oy:List DPred→Prop
 | []=>True
 | x::xs=>Ak x∧Oy xs
end
theorem VY:∀ l:List DPred,Oy l=∀ x∈l,Ak x
 | []=>by simp[Oy]
 | x::xs=>by simp[Oy,VY xs]
theorem BG (d:DPred):Ak d=(Fz d.v∧fitS Ak d.l):=by
 cases d
 simp only[Ak,fitS,VY,DPred.v,DPred.l]
theorem gX (d:DPred) (hx:∀ x∈d.l,∀ l,0≤Au x l→l≤1048576→Ak x∧Au x l≤l) (l:Int) (h0:0≤Au d l) (hl:l≤1048576):Ak d∧Au d l≤l:=by
 rw[Ie] at h0 ⊢
 rw[BG]
 obtain⟨a0,h1,e0⟩:=AZ h0
 obtain⟨g0,b0⟩:=DL d.v _ a0 (by omega)
 obtain⟨a1,h2,e1⟩:=AZ h1
 obtain⟨g1,b1⟩:=DF d.l hx a1 (by omega)
 exact⟨⟨g0,g1⟩,by rw[e0,e1]; omega⟩
theorem VZ:∀ (n:Nat) (d:DPred),SizeOf.sizeOf d≤n→∀ l,0≤Au d l→l≤1048576→Ak d∧Au d l≤l
 | 0,d,h=>by cases d; simp at h
 | n+1,d,h=>gX d fun x hx=>VZ n x (by
  have h1:SizeOf.sizeOf x<SizeOf.sizeOf d.l:=uC hx
  have h2:SizeOf.sizeOf d.l<SizeOf.sizeOf d:=by cases d; simp[DPred.l]; omega
  omega)
theorem F5 (d:DPred) (l:Int) (h:0≤Au d l) (hl:l≤1048576):Ak d∧Au d l≤l:=VZ _ d (aK _) l h hl
def Dl (d:DQuery):Prop:=Ak d.p∧d.out.length≤1048576
theorem Ea (d:DQuery):Dl d=(Ak d.p∧d.out.length≤1048576):=rfl
theorem LZ (d:DQuery) (l:Int) (h0:0≤BZ d l) (hl:l≤1048576):Dl d∧BZ d l≤l:=by
 rw[JK] at h0 ⊢
 rw[Ea]
 obtain⟨a0,h1,e0⟩:=AZ h0
 obtain⟨g0,b0⟩:=F5 d.p _ a0 (by omega)
 obtain⟨a1,h2,e1⟩:=AZ h1
 obtain⟨g1,b1⟩:=Cb a1 (by omega)
 exact⟨⟨g0,g1⟩,by rw[e0,e1]; omega⟩
def Ig (d:DResult):Prop:=fitS G_ d.rows∧Fz d.v
theorem Ir (d:DResult):Ig d=(fitS G_ d.rows∧Fz d.v):=rfl
theorem SS (d:DResult) (l:Int) (h0:0≤IE d l) (hl:l≤1048576):Ig d∧IE d l≤l:=by
 rw[LY] at h0 ⊢
 rw[Ir]
 obtain⟨a0,h1,e0⟩:=AZ h0
 obtain⟨g0,b0⟩:=DF d.rows (fun x _=>KZ x) a0 (by omega)
 obtain⟨a1,h2,e1⟩:=AZ h1
 obtain⟨g1,b1⟩:=DL d.v _ a1 (by omega)
 exact⟨⟨g0,g1⟩,by rw[e0,e1]; omega⟩
def JZ (d:DSlot):Prop:=fitS Fz d.l
theorem JL (d:DSlot):JZ d=(fitS Fz d.l):=rfl
theorem RI (d:DSlot) (l:Int) (h0:0≤Ep d l) (hl:l≤1048576):JZ d∧Ep d l≤l:=by
 rw[QD] at h0 ⊢
 rw[JL]
 obtain⟨a0,h1,e0⟩:=AZ h0
 obtain⟨g0,b0⟩:=DF d.l (fun x _=>DL x) a0 (by omega)
 exact⟨g0,by rw[e0]; omega⟩
def FY (d:DChunk):Prop:=fitS JZ d.l
theorem Eb (d:DChunk):FY d=(fitS JZ d.l):=rfl
theorem Va (d:DChunk) (l:Int) (h0:0≤Gz d l) (hl:l≤1048576):FY d∧Gz d l≤l:=by
 rw[NZ] at h0 ⊢
 rw[Eb]
 obtain⟨a0,h1,e0⟩:=AZ h0
 obtain⟨g0,b0⟩:=DF d.l (fun x _=>RI x) a0 (by omega)
 exact⟨g0,by rw[e0]; omega⟩
def F6 (d:DBuf):Prop:=FY d.c0∧d.g.length≤1048576
theorem Gp (d:DBuf):F6 d=(FY d.c0∧d.g.length≤1048576):=rfl
theorem MW (d:DBuf) (l:Int) (h0:0≤DU d l) (hl:l≤1048576):F6 d∧DU d l≤l:=by
 rw[SQ] at h0 ⊢
 rw[Gp]
 obtain⟨a0,h1,e0⟩:=AZ h0
 obtain⟨g0,b0⟩:=Va d.c0 _ a0 (by omega)
 obtain⟨a1,h2,e1⟩:=AZ h1
 obtain⟨g1,b1⟩:=Cb a1 (by omega)
 exact⟨⟨g0,g1⟩,by rw[e0,e1]; omega⟩
def Oz (d:DDir):Prop:=d.l.length≤1048576
theorem Ht (d:DDir):Oz d=(d.l.length≤1048576):=rfl
theorem Uo (d:DDir) (l:Int) (h0:0≤Dx d l) (hl:l≤1048576):Oz d∧Dx d l≤l:=by
 rw[Xk] at h0 ⊢
 rw[Ht]
 obtain⟨a0,h1,e0⟩:=AZ h0
 obtain⟨g0,b0⟩:=Cb a0 (by omega)
 exact⟨g0,by rw[e0]; omega⟩
def FW (d:DTask):Prop:=fitS Fz d.r∧Dl d.q∧d.l.length≤1048576∧fitS G_ d.got
theorem D6 (d:DTask):FW d=(fitS Fz d.r∧Dl d.q∧d.l.length≤1048576∧fitS G_ d.got):=rfl
theorem Ku (d:DTask) (l:Int) (h0:0≤ED d l) (hl:l≤1048576):FW d∧ED d l≤l:=by
 rw[QE] at h0 ⊢
 rw[D6]
 obtain⟨a0,h1,e0⟩:=AZ h0
 obtain⟨g0,b0⟩:=DF d.r (fun x _=>DL x) a0 (by omega)
 obtain⟨a1,h2,e1⟩:=AZ h1
 obtain⟨g1,b1⟩:=LZ d.q _ a1 (by omega)
 obtain⟨a2,h3,e2⟩:=AZ h2
 obtain⟨g2,b2⟩:=Cb a2 (by omega)
 obtain⟨a3,h4,e3⟩:=AZ h3
 obtain⟨g3,b3⟩:=DF d.got (fun x _=>KZ x) a3 (by omega)
 exact⟨⟨g0,g1,g2,g3⟩,by rw[e0,e1,e2,e3]; omega⟩
def E8 (d:DDeed):Prop:=fitS Fz d.r∧Dl d.q∧Ig d.res
theorem F7 (d:DDeed):E8 d=(fitS Fz d.r∧Dl d.q∧Ig d.res):=rfl
theorem Nb (d:DDeed) (l:Int) (h0:0≤Es d l) (hl:l≤1048576):E8 d∧Es d l≤l:=by
 rw[QF] at h0 ⊢
 rw[F7]
 obtain⟨a0,h1,e0⟩:=AZ h0
 obtain⟨g0,b0⟩:=DF d.r (fun x _=>DL x) a0 (by omega)
 obtain⟨a1,h2,e1⟩:=AZ h1
 obtain⟨g1,b1⟩:=LZ d.q _ a1 (by omega)
 obtain⟨a2,h3,e2⟩:=AZ h2
 obtain⟨g2,b2⟩:=SS d.res _ a2 (by omega)
 exact⟨⟨g0,g1,g2⟩,by rw[e0,e1,e2]; omega⟩
def La (d:DConf):Prop:=d.cols.length≤1048576
theorem F8 (d:DConf):La d=(d.cols.length≤1048576):=rfl
theorem RJ (d:DConf) (l:Int) (h0:0≤Bi d l) (hl:l≤1048576):La d∧Bi d l≤l:=by
 rw[Um] at h0 ⊢
 rw[F8]
 obtain⟨a0,h1,e0⟩:=AZ h0
 obtain⟨g0,b0⟩:=Cb a0 (by omega)
 exact⟨g0,by rw[e0]; omega⟩
def AU (d:DWorld):Prop:=La d.c0∧Oz d.d∧fitS F6 d.b∧d.m.length≤1048576∧d.x.length≤1048576∧d.p.length≤1048576∧fitS FW d.tasks∧fitS E8 d.deeds
theorem BH (d:DWorld):AU d=(La d.c0∧Oz d.d∧fitS F6 d.b∧d.m.length≤1048576∧d.x.length≤1048576∧d.p.length≤1048576∧fitS FW d.tasks∧fitS E8 d.deeds):=rfl
theorem O0 (d:DWorld) (l:Int) (h0:0≤KI d l) (hl:l≤1048576):AU d∧KI d l≤l:=by
 rw[Na] at h0 ⊢
 rw[BH]
 obtain⟨a0,h1,e0⟩:=AZ h0
 obtain⟨g0,b0⟩:=RJ d.c0 _ a0 (by omega)
 obtain⟨a1,h2,e1⟩:=AZ h1
 obtain⟨g1,b1⟩:=Uo d.d _ a1 (by omega)
 obtain⟨a2,h3,e2⟩:=AZ h2
 obtain⟨g2,b2⟩:=DF d.b (fun x _=>MW x) a2 (by omega)
 obtain⟨a3,h4,e3⟩:=AZ h3
 obtain⟨g3,b3⟩:=Cb a3 (by omega)
 obtain⟨a4,h5,e4⟩:=AZ h4
 obtain⟨g4,b4⟩:=Cb a4 (by omega)
 obtain⟨a5,h6,e5⟩:=AZ h5
 obtain⟨g5,b5⟩:=Cb a5 (by omega)
 obtain⟨a6,h7,e6⟩:=AZ h6
 obtain⟨g6,b6⟩:=DF d.tasks (fun x _=>Ku x) a6 (by omega)
 obtain⟨a7,h8,e7⟩:=AZ h7
 obtain⟨g7,b7⟩:=DF d.deeds (fun x _=>Nb x) a7 (by omega)
 exact⟨⟨g0,g1,g2,g3,g4,g5,g6,g7⟩,by rw[e0,e1,e2,e3,e4,e5,e6,e7]; omega⟩
theorem DVal.pure (d:DVal):CQ d.c=true:=by
 simp[DVal.c_eq,CQ,AY]
theorem DRow.pure (d:DRow):CQ d.c=true:=by
 simp[DRow.c_eq,CQ,AY]
theorem DPred.pure (d:DPred):CQ d.c=true:=by
 have h0:=DVal.pure d.v
 rw[CQ] at h0
 simp[DPred.c_eq,CQ,AY,h0]
theorem DQuery.pure (d:DQuery):CQ d.c=true:=by
 have h0:=DPred.pure d.p
 rw[CQ] at h0
 simp[DQuery.c_eq,CQ,AY,h0]
theorem DResult.pure (d:DResult):CQ d.c=true:=by
 have h0:=DVal.pure d.v
 rw[CQ] at h0
 simp[DResult.c_eq,CQ,AY,h0]
theorem DSlot.pure (d:DSlot):CQ d.c=true:=by
 simp[DSlot.c_eq,CQ,AY]
theorem DChunk.pure (d:DChunk):CQ d.c=true:=by
 simp[DChunk.c_eq,CQ,AY]
theorem DBuf.pure (d:DBuf):CQ d.c=true:=by
 have h0:=DChunk.pure d.c0
 rw[CQ] at h0
 simp[DBuf.c_eq,CQ,AY,h0]
theorem DDead.pure (d:DDead):CQ d.c=true:=by
 simp[DDead.c_eq,CQ,AY]
theorem DRef.pure (d:DRef):CQ d.c=true:=by
 simp[DRef.c_eq,CQ,AY]
theorem DDir.pure (d:DDir):CQ d.c=true:=by
 simp[DDir.c_eq,CQ,AY]
theorem DTask.pure (d:DTask):CQ d.c=true:=by
 have h0:=DQuery.pure d.q
 rw[CQ] at h0
 simp[DTask.c_eq,CQ,AY,h0]
theorem DDeed.pure (d:DDeed):CQ d.c=true:=by
 have h0:=DQuery.pure d.q
 rw[CQ] at h0
 have h1:=DResult.pure d.res
 rw[CQ] at h1
 simp[DDeed.c_eq,CQ,AY,h0,h1]
theorem DConf.pure (d:DConf):CQ d.c=true:=by
 simp[DConf.c_eq,CQ,AY]
theorem DWorld.pure (d:DWorld):CQ d.c=true:=by
 have h0:=DConf.pure d.c0
 rw[CQ] at h0
 have h1:=DDir.pure d.d
 rw[CQ] at h1
 simp[DWorld.c_eq,CQ,AY,h0,h1]
theorem intC.pure (n:Int):CQ (intC n)=true:=rfl
theorem byteC.pure (n:Int):CQ (byteC n)=true:=rfl
end Go.Proofs.YtnchiiikacemmaaGreat
