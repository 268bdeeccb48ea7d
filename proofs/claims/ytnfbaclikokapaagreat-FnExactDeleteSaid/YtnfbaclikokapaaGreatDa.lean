/- A part. -/
import Derived.Test.YtnfbaclikokapaaGreatVmW
set_option linter.unusedSimpArgs false
set_option linter.unusedVariables false
namespace Go.Proofs.YtnfbaclikokapaaGreat
open Go.Vm
def intC (n:Int):List Cl:=[.v (.int .i64 n)]
@[go_sem] theorem vP (n:Int):intC n = [.v (.int .i64 n)]:=rfl
def byteC (n:Int):List Cl:=[.v (.int .u8 n)]
@[go_sem] theorem NM (n:Int):byteC n = [.v (.int .u8 n)]:=rfl
def sq (x:Int) (k:Int→Int):Int:=if x<0 then -1 else k x
theorem AEH {x:Int} {k:Int→Int} (h:x<0):sq x k = -1:=bz h
theorem AEI {x:Int} {k:Int→Int} (h:¬ x<0):sq x k=k x:=aV h
def Ew (n:Nat) (l:Int):Int:=if l-n<0 then -1 else l-n
theorem ACE {n:Nat} {l:Int} (h:l-n<0):Ew n l = -1:=bz h
theorem vS {n:Nat} {l:Int} (h:¬ l-n<0):Ew n l=l-n:=aV h
def Wu {α:Type} (f:α→Int→Int):List α→Int→Int
 | [],l=>l
 | x::xs,l=>sq (f x l) (Wu f xs)
def Ce {α:Type} (f:α→Int→Int) (xs:List α) (l:Int):Int:=sq (Ew xs.length l) (Wu f xs)
def fitS {α:Type} (F:α→Prop) (xs:List α):Prop:=xs.length≤1048576∧∀ x∈xs,F x
theorem CJ {n:Nat} {l:Int} (h:0≤Ew n l) (hl:l≤1048576):n≤1048576∧Ew n l≤l:=by
 unfold Ew at *
 split at h<;>simp_all<;>omega
theorem AX {x:Int} {k:Int→Int} (h:0≤sq x k):0≤x∧0≤k x∧sq x k=k x:=by
 unfold sq at *
 split at h
 ·omega
 ·rename_i hx
  exact⟨by omega,h,aV hx⟩
theorem gU {α:Type} {f:α→Int→Int} {F:α→Prop}:∀ (xs:List α) (_:∀ x∈xs,∀ l,0≤f x l→l≤1048576→F x∧f x l≤l) (l:Int),0≤Wu f xs l→l≤1048576→(∀ x∈xs,F x)∧Wu f xs l≤l
 | [],_,l,_,_=>⟨by simp,by simp[Wu]⟩
 | x::xs,hf,l,h,hl=>by
  simp only[Wu] at h ⊢
  obtain⟨h1,h2,h3⟩:=AX h
  obtain⟨g1,g2⟩:=hf x (by simp) l h1 hl
  obtain⟨g3,g4⟩:=gU xs (fun y hy=>hf y (by simp[hy])) _ h2 (by omega)
  exact⟨by simp only[cZ,forall_eq_or_imp]; exact⟨g1,g3⟩,by rw[h3]; omega⟩
theorem DI {α:Type} {f:α→Int→Int} {F:α→Prop} (xs:List α) (hf:∀ x∈xs,∀ l,0≤f x l→l≤1048576→F x∧f x l≤l) {l:Int} (h:0≤Ce f xs l) (hl:l≤1048576):fitS F xs∧Ce f xs l≤l:=by
 unfold Ce at h ⊢
 obtain⟨h1,h2,h3⟩:=AX h
 obtain⟨g1,g2⟩:=CJ h1 hl
 obtain⟨g3,g4⟩:=gU xs hf _ h2 (by omega)
 exact⟨⟨g1,g3⟩,by rw[h3]; omega⟩
structure DVal where
 ty:Int
 n:Int
 s:ByteArray
def DVal.c (d:DVal):List Cl:=[.v (.int .i64 d.ty)]++([.v (.int .i64 d.n)]++([.v (.string d.s)]))
@[go_sem] theorem DVal.c_eq (d:DVal):d.c = [.v (.int .i64 d.ty)]++([.v (.int .i64 d.n)]++([.v (.string d.s)])):=rfl
def Ai (d:DVal) (l:Int):Int:=sq (Ew d.s.size l) fun l=>l
theorem Gf (d:DVal) (l:Int):Ai d l=sq (Ew d.s.size l) fun l=>l:=rfl
structure DRow where
 id:Int
 l:List DVal
def DRow.c (d:DRow):List Cl:=[.v (.int .i64 d.id)]++([.sl (d.l.map DVal.c)])
@[go_sem] theorem DRow.c_eq (d:DRow):d.c = [.v (.int .i64 d.id)]++([.sl (d.l.map DVal.c)]):=rfl
def Gv (d:DRow) (l:Int):Int:=sq (Ce Ai d.l l) fun l=>l
theorem SY (d:DRow) (l:Int):Gv d l=sq (Ce Ai d.l l) fun l=>l:=rfl
inductive DPred where
 | mk (kind:Int) (col:Int) (op:Int) (v:DVal) (l:List DPred)
def DPred.kind:DPred→Int | .mk kind _ _ _ _=>kind
def DPred.col:DPred→Int | .mk _ col _ _ _=>col
def DPred.op:DPred→Int | .mk _ _ op _ _=>op
def DPred.v:DPred→DVal | .mk _ _ _ v _=>v
def DPred.l:DPred→List DPred | .mk _ _ _ _ l=>l
mutual
def DPred.c:DPred→List Cl
 | .mk kind col op v l=>[.v (.int .i64 kind)]++([.v (.int .i64 col)]++([.v (.int .i64 op)]++(v.c++([.sl (DPred.cs l)]))))
def DPred.cs:List DPred→List (List Cl)
 | []=>[]
 | x::xs=>x.c::DPred.cs xs
end
theorem DPred.cs_eq:∀ l:List DPred,DPred.cs l=l.map DPred.c
 | []=>by simp only[DPred.cs,dh]
 | x::xs=>by simp only[DPred.cs,XA,DPred.cs_eq xs]
@[go_sem] theorem DPred.c_eq (d:DPred):d.c = [.v (.int .i64 d.kind)]++([.v (.int .i64 d.col)]++([.v (.int .i64 d.op)]++(d.v.c++([.sl (d.l.map DPred.c)])))):=by
 cases d
 simp only[DPred.c,DPred.cs_eq,DPred.kind,DPred.col,DPred.op,DPred.v,DPred.l]
mutual
def BK:DPred→Int→Int
 | .mk kind col op v l,m0=>sq ((Ai v) m0) fun m0=>sq ((fun m=>sq (Ew l.length m) (QT l)) m0) fun m0=>m0
def QT:List DPred→Int→Int
 | [],l=>l
 | x::xs,l=>sq (BK x l) (QT xs)
end
theorem XY:∀ (l:List DPred) (m:Int),QT l m=Wu BK l m
 | [],m=>by simp only[QT,Wu]
 | x::xs,m=>by
  simp only[QT,Wu]
  congr 1
  funext m
  exact XY xs m
theorem Ia (d:DPred) (l:Int):BK d l=sq (Ai d.v l) fun l=>sq (Ce BK d.l l) fun l=>l:=by
 have h:QT=Wu BK:=by funext l m; exact XY l m
 cases d
 simp only[BK,Ce,h,DPred.kind,DPred.col,DPred.op,DPred.v,DPred.l]
structure DQuery where
 kind:Int
 p:DPred
 col:Int
 out:List Int
def DQuery.c (d:DQuery):List Cl:=[.v (.int .i64 d.kind)]++(d.p.c++([.v (.int .i64 d.col)]++([.sl (d.out.map intC)])))
@[go_sem] theorem DQuery.c_eq (d:DQuery):d.c = [.v (.int .i64 d.kind)]++(d.p.c++([.v (.int .i64 d.col)]++([.sl (d.out.map intC)]))):=rfl
def DU (d:DQuery) (l:Int):Int:=sq (BK d.p l) fun l=>sq (Ew d.out.length l) fun l=>l
theorem JL (d:DQuery) (l:Int):DU d l=sq (BK d.p l) fun l=>sq (Ew d.out.length l) fun l=>l:=rfl
structure DResult where
 rows:List DRow
 n:Int
 has:Bool
 v:DVal
def DResult.c (d:DResult):List Cl:=[.sl (d.rows.map DRow.c)]++([.v (.int .i64 d.n)]++([.v (.bool d.has)]++(d.v.c)))
@[go_sem] theorem DResult.c_eq (d:DResult):d.c = [.sl (d.rows.map DRow.c)]++([.v (.int .i64 d.n)]++([.v (.bool d.has)]++(d.v.c))):=rfl
def Jq (d:DResult) (l:Int):Int:=sq (Ce Gv d.rows l) fun l=>sq (Ai d.v l) fun l=>l
theorem MB (d:DResult) (l:Int):Jq d l=sq (Ce Gv d.rows l) fun l=>sq (Ai d.v l) fun l=>l:=rfl
structure DSlot where
 ins:Int
 l:List DVal
def DSlot.c (d:DSlot):List Cl:=[.v (.int .i64 d.ins)]++([.sl (d.l.map DVal.c)])
@[go_sem] theorem DSlot.c_eq (d:DSlot):d.c = [.v (.int .i64 d.ins)]++([.sl (d.l.map DVal.c)]):=rfl
def G5 (d:DSlot) (l:Int):Int:=sq (Ce Ai d.l l) fun l=>l
theorem QU (d:DSlot) (l:Int):G5 d l=sq (Ce Ai d.l l) fun l=>l:=rfl
structure DChunk where
 next:Int
 l:List DSlot
def DChunk.c (d:DChunk):List Cl:=[.v (.int .i64 d.next)]++([.sl (d.l.map DSlot.c)])
@[go_sem] theorem DChunk.c_eq (d:DChunk):d.c = [.v (.int .i64 d.next)]++([.sl (d.l.map DSlot.c)]):=rfl
def Jf (d:DChunk) (l:Int):Int:=sq (Ce G5 d.l l) fun l=>l
theorem N9 (d:DChunk) (l:Int):Jf d l=sq (Ce G5 d.l l) fun l=>l:=rfl
structure DBuf where
 gen:Int
 kind:Int
 c0:DChunk
 g:List Int
def DBuf.c (d:DBuf):List Cl:=[.v (.int .i64 d.gen)]++([.v (.int .i64 d.kind)]++(d.c0.c++([.sl (d.g.map byteC)])))
@[go_sem] theorem DBuf.c_eq (d:DBuf):d.c = [.v (.int .i64 d.gen)]++([.v (.int .i64 d.kind)]++(d.c0.c++([.sl (d.g.map byteC)]))):=rfl
def FU (d:DBuf) (l:Int):Int:=sq (Jf d.c0 l) fun l=>sq (Ew d.g.length l) fun l=>l
theorem Si (d:DBuf) (l:Int):FU d l=sq (Jf d.c0 l) fun l=>sq (Ew d.g.length l) fun l=>l:=rfl
structure DDead where
 buf:Int
 gen:Int
 at0:Int
def DDead.c (d:DDead):List Cl:=[.v (.int .i64 d.buf)]++([.v (.int .i64 d.gen)]++([.v (.int .i64 d.at0)]))
@[go_sem] theorem DDead.c_eq (d:DDead):d.c = [.v (.int .i64 d.buf)]++([.v (.int .i64 d.gen)]++([.v (.int .i64 d.at0)])):=rfl
structure DRef where
 buf:Int
 gen:Int
 kind:Int
 first:Int
 many:Int
def DRef.c (d:DRef):List Cl:=[.v (.int .i64 d.buf)]++([.v (.int .i64 d.gen)]++([.v (.int .i64 d.kind)]++([.v (.int .i64 d.first)]++([.v (.int .i64 d.many)]))))
@[go_sem] theorem DRef.c_eq (d:DRef):d.c = [.v (.int .i64 d.buf)]++([.v (.int .i64 d.gen)]++([.v (.int .i64 d.kind)]++([.v (.int .i64 d.first)]++([.v (.int .i64 d.many)])))):=rfl
structure DDir where
 ver:Int
 l:List DRef
def DDir.c (d:DDir):List Cl:=[.v (.int .i64 d.ver)]++([.sl (d.l.map DRef.c)])
@[go_sem] theorem DDir.c_eq (d:DDir):d.c = [.v (.int .i64 d.ver)]++([.sl (d.l.map DRef.c)]):=rfl
def G6 (d:DDir) (l:Int):Int:=sq (Ew d.l.length l) fun l=>l
theorem XZ (d:DDir) (l:Int):G6 d l=sq (Ew d.l.length l) fun l=>l:=rfl
structure DTask where
 op:Int
 pc:Int
 h:Int
 r:List DVal
 id:Int
 q:DQuery
 ts:Int
 ver:Int
 l:List DRef
 i:Int
 j:Int
 s:Int
 at0:Int
 own:Int
 won:Bool
 got:List DRow
def DTask.c (d:DTask):List Cl:=[.v (.int .i64 d.op)]++([.v (.int .i64 d.pc)]++([.v (.int .i64 d.h)]++([.sl (d.r.map DVal.c)]++([.v (.int .i64 d.id)]++(d.q.c++([.v (.int .i64 d.ts)]++([.v (.int .i64 d.ver)]++([.sl (d.l.map DRef.c)]++([.v (.int .i64 d.i)]++([.v (.int .i64 d.j)]++([.v (.int .i64 d.s)]++([.v (.int .i64 d.at0)]++([.v (.int .i64 d.own)]++([.v (.bool d.won)]++([.sl (d.got.map DRow.c)])))))))))))))))
@[go_sem] theorem DTask.c_eq (d:DTask):d.c = [.v (.int .i64 d.op)]++([.v (.int .i64 d.pc)]++([.v (.int .i64 d.h)]++([.sl (d.r.map DVal.c)]++([.v (.int .i64 d.id)]++(d.q.c++([.v (.int .i64 d.ts)]++([.v (.int .i64 d.ver)]++([.sl (d.l.map DRef.c)]++([.v (.int .i64 d.i)]++([.v (.int .i64 d.j)]++([.v (.int .i64 d.s)]++([.v (.int .i64 d.at0)]++([.v (.int .i64 d.own)]++([.v (.bool d.won)]++([.sl (d.got.map DRow.c)]))))))))))))))):=rfl
def Fe (d:DTask) (l:Int):Int:=sq (Ce Ai d.r l) fun l=>sq (DU d.q l) fun l=>sq (Ew d.l.length l) fun l=>sq (Ce Gv d.got l) fun l=>l
theorem QV (d:DTask) (l:Int):Fe d l=sq (Ce Ai d.r l) fun l=>sq (DU d.q l) fun l=>sq (Ew d.l.length l) fun l=>sq (Ce Gv d.got l) fun l=>l:=rfl
structure DDeed where
 op:Int
 task:Int
 r:List DVal
 id:Int
 q:DQuery
 res:DResult
 code:Int
 stamp:Int
 inv:Int
 lin:Int
 ret:Int
def DDeed.c (d:DDeed):List Cl:=[.v (.int .i64 d.op)]++([.v (.int .i64 d.task)]++([.sl (d.r.map DVal.c)]++([.v (.int .i64 d.id)]++(d.q.c++(d.res.c++([.v (.int .i64 d.code)]++([.v (.int .i64 d.stamp)]++([.v (.int .i64 d.inv)]++([.v (.int .i64 d.lin)]++([.v (.int .i64 d.ret)]))))))))))
@[go_sem] theorem DDeed.c_eq (d:DDeed):d.c = [.v (.int .i64 d.op)]++([.v (.int .i64 d.task)]++([.sl (d.r.map DVal.c)]++([.v (.int .i64 d.id)]++(d.q.c++(d.res.c++([.v (.int .i64 d.code)]++([.v (.int .i64 d.stamp)]++([.v (.int .i64 d.inv)]++([.v (.int .i64 d.lin)]++([.v (.int .i64 d.ret)])))))))))):=rfl
def Gq (d:DDeed) (l:Int):Int:=sq (Ce Ai d.r l) fun l=>sq (DU d.q l) fun l=>sq (Jq d.res l) fun l=>l
theorem QW (d:DDeed) (l:Int):Gq d l=sq (Ce Ai d.r l) fun l=>sq (DU d.q l) fun l=>sq (Jq d.res l) fun l=>l:=rfl
structure DConf where
 cols:List Int
 slots:Int
 bufs:Int
def DConf.c (d:DConf):List Cl:=[.sl (d.cols.map intC)]++([.v (.int .i64 d.slots)]++([.v (.int .i64 d.bufs)]))
@[go_sem] theorem DConf.c_eq (d:DConf):d.c = [.sl (d.cols.map intC)]++([.v (.int .i64 d.slots)]++([.v (.int .i64 d.bufs)])):=rfl
def EK (d:DConf) (l:Int):Int:=sq (Ew d.cols.length l) fun l=>l
theorem Um (d:DConf) (l:Int):EK d l=sq (Ew d.cols.length l) fun l=>l:=rfl
structure DWorld where
 c0:DConf
 time:Int
 t:Int
 e:Int
 d:DDir
 b:List DBuf
 m:List Int
 x:List DDead
 p:List Int
 tasks:List DTask
 deeds:List DDeed
def DWorld.c (d:DWorld):List Cl:=d.c0.c++([.v (.int .i64 d.time)]++([.v (.int .i64 d.t)]++([.v (.int .i64 d.e)]++(d.d.c++([.sl (d.b.map DBuf.c)]++([.sl (d.m.map intC)]++([.sl (d.x.map DDead.c)]++([.sl (d.p.map intC)]++([.sl (d.tasks.map DTask.c)]++([.sl (d.deeds.map DDeed.c)]))))))))))
@[go_sem] theorem DWorld.c_eq (d:DWorld):d.c=d.c0.c++([.v (.int .i64 d.time)]++([.v (.int .i64 d.t)]++([.v (.int .i64 d.e)]++(d.d.c++([.sl (d.b.map DBuf.c)]++([.sl (d.m.map intC)]++([.sl (d.x.map DDead.c)]++([.sl (d.p.map intC)]++([.sl (d.tasks.map DTask.c)]++([.sl (d.deeds.map DDeed.c)])))))))))):=rfl
def Il (d:DWorld) (l:Int):Int:=sq (EK d.c0 l) fun l=>sq (G6 d.d l) fun l=>sq (Ce FU d.b l) fun l=>sq (Ew d.m.length l) fun l=>sq (Ew d.x.length l) fun l=>sq (Ew d.p.length l) fun l=>sq (Ce Fe d.tasks l) fun l=>sq (Ce Gq d.deeds l) fun l=>l
theorem N_ (d:DWorld) (l:Int):Il d l=sq (EK d.c0 l) fun l=>sq (G6 d.d l) fun l=>sq (Ce FU d.b l) fun l=>sq (Ew d.m.length l) fun l=>sq (Ew d.x.length l) fun l=>sq (Ew d.p.length l) fun l=>sq (Ce Fe d.tasks l) fun l=>sq (Ce Gq d.deeds l) fun l=>l:=rfl
def Ff (d:DVal):Prop:=d.s.size≤1048576
theorem Un (d:DVal):Ff d=(d.s.size≤1048576):=rfl
theorem C_ (d:DVal) (l:Int) (h0:0≤Ai d l) (hl:l≤1048576):Ff d∧Ai d l≤l:=by
 rw[Gf] at h0 ⊢
 rw[Un]
 obtain⟨a0,h1,e0⟩:=AX h0
 obtain⟨g0,b0⟩:=CJ a0 (by omega)
 exact⟨g0,by rw[e0]; omega⟩
def IR (d:DRow):Prop:=fitS Ff d.l
theorem NP (d:DRow):IR d=(fitS Ff d.l):=rfl
theorem Kz (d:DRow) (l:Int) (h0:0≤Gv d l) (hl:l≤1048576):IR d∧Gv d l≤l:=by
 rw[SY] at h0 ⊢
 rw[NP]
 obtain⟨a0,h1,e0⟩:=AX h0
 obtain⟨g0,b0⟩:=DI d.l (fun x _=>C_ x) a0 (by omega)
 exact⟨g0,by rw[e0]; omega⟩
mutual
def Aq:DPred→Prop
 | .mk kind col op v l=>Ff v∧(l.length≤1048576∧PI l)
def PI:List DPred→Prop
 | []=>True
 | x::xs=>Aq x∧PI xs
end
theorem VY:∀ l:List DPred,PI l=∀ x∈l,Aq x
 | []=>by simp[PI]
 | x::xs=>by simp[PI,VY xs]
theorem BP (d:DPred):Aq d=(Ff d.v∧fitS Aq d.l):=by
 cases d
 simp only[Aq,fitS,VY,DPred.kind,DPred.col,DPred.op,DPred.v,DPred.l]
theorem gV (d:DPred) (hx:∀ x∈d.l,∀ l,0≤BK x l→l≤1048576→Aq x∧BK x l≤l) (l:Int) (h0:0≤BK d l) (hl:l≤1048576):Aq d∧BK d l≤l:=by
 rw[Ia] at h0 ⊢
 rw[BP]
 obtain⟨a0,h1,e0⟩:=AX h0
 obtain⟨g0,b0⟩:=C_ d.v _ a0 (by omega)
 obtain⟨a1,h2,e1⟩:=AX h1
 obtain⟨g1,b1⟩:=DI d.l hx a1 (by omega)
 exact⟨⟨g0,g1⟩,by rw[e0,e1]; omega⟩
theorem VZ:∀ (n:Nat) (d:DPred),SizeOf.sizeOf d≤n→∀ l,0≤BK d l→l≤1048576→Aq d∧BK d l≤l
 | 0,d,h=>by cases d; simp at h
 | n+1,d,h=>gV d fun x hx=>VZ n x (by
  have h1:SizeOf.sizeOf x<SizeOf.sizeOf d.l:=v_ hx
  have h2:SizeOf.sizeOf d.l<SizeOf.sizeOf d:=by cases d; simp[DPred.l]; omega
  omega)
theorem F9 (d:DPred) (l:Int) (h:0≤BK d l) (hl:l≤1048576):Aq d∧BK d l≤l:=VZ _ d (aN _) l h hl
def Dv (d:DQuery):Prop:=Aq d.p∧d.out.length≤1048576
theorem Ey (d:DQuery):Dv d=(Aq d.p∧d.out.length≤1048576):=rfl
theorem MC (d:DQuery) (l:Int) (h0:0≤DU d l) (hl:l≤1048576):Dv d∧DU d l≤l:=by
 rw[JL] at h0 ⊢
 rw[Ey]
 obtain⟨a0,h1,e0⟩:=AX h0
 obtain⟨g0,b0⟩:=F9 d.p _ a0 (by omega)
 obtain⟨a1,h2,e1⟩:=AX h1
 obtain⟨g1,b1⟩:=CJ a1 (by omega)
 exact⟨⟨g0,g1⟩,by rw[e0,e1]; omega⟩
def JM (d:DResult):Prop:=fitS IR d.rows∧Ff d.v
theorem KR (d:DResult):JM d=(fitS IR d.rows∧Ff d.v):=rfl
theorem Sj (d:DResult) (l:Int) (h0:0≤Jq d l) (hl:l≤1048576):JM d∧Jq d l≤l:=by
 rw[MB] at h0 ⊢
 rw[KR]
 obtain⟨a0,h1,e0⟩:=AX h0
 obtain⟨g0,b0⟩:=DI d.rows (fun x _=>Kz x) a0 (by omega)
 obtain⟨a1,h2,e1⟩:=AX h1
 obtain⟨g1,b1⟩:=C_ d.v _ a1 (by omega)
 exact⟨⟨g0,g1⟩,by rw[e0,e1]; omega⟩
def MF (d:DSlot):Prop:=fitS Ff d.l
theorem LM (d:DSlot):MF d=(fitS Ff d.l):=rfl
theorem RX (d:DSlot) (l:Int) (h0:0≤G5 d l) (hl:l≤1048576):MF d∧G5 d l≤l:=by
 rw[QU] at h0 ⊢
 rw[LM]
 obtain⟨a0,h1,e0⟩:=AX h0
 obtain⟨g0,b0⟩:=DI d.l (fun x _=>C_ x) a0 (by omega)
 exact⟨g0,by rw[e0]; omega⟩
def Gg (d:DChunk):Prop:=fitS MF d.l
theorem Ez (d:DChunk):Gg d=(fitS MF d.l):=rfl
theorem Va (d:DChunk) (l:Int) (h0:0≤Jf d l) (hl:l≤1048576):Gg d∧Jf d l≤l:=by
 rw[N9] at h0 ⊢
 rw[Ez]
 obtain⟨a0,h1,e0⟩:=AX h0
 obtain⟨g0,b0⟩:=DI d.l (fun x _=>RX x) a0 (by omega)
 exact⟨g0,by rw[e0]; omega⟩
def Io (d:DBuf):Prop:=Gg d.c0∧d.g.length≤1048576
theorem Ht (d:DBuf):Io d=(Gg d.c0∧d.g.length≤1048576):=rfl
theorem NQ (d:DBuf) (l:Int) (h0:0≤FU d l) (hl:l≤1048576):Io d∧FU d l≤l:=by
 rw[Si] at h0 ⊢
 rw[Ht]
 obtain⟨a0,h1,e0⟩:=AX h0
 obtain⟨g0,b0⟩:=Va d.c0 _ a0 (by omega)
 obtain⟨a1,h2,e1⟩:=AX h1
 obtain⟨g1,b1⟩:=CJ a1 (by omega)
 exact⟨⟨g0,g1⟩,by rw[e0,e1]; omega⟩
def RY (d:DDir):Prop:=d.l.length≤1048576
theorem K_ (d:DDir):RY d=(d.l.length≤1048576):=rfl
theorem Uo (d:DDir) (l:Int) (h0:0≤G6 d l) (hl:l≤1048576):RY d∧G6 d l≤l:=by
 rw[XZ] at h0 ⊢
 rw[K_]
 obtain⟨a0,h1,e0⟩:=AX h0
 obtain⟨g0,b0⟩:=CJ a0 (by omega)
 exact⟨g0,by rw[e0]; omega⟩
def Ef (d:DTask):Prop:=fitS Ff d.r∧Dv d.q∧d.l.length≤1048576∧fitS IR d.got
theorem Di (d:DTask):Ef d=(fitS Ff d.r∧Dv d.q∧d.l.length≤1048576∧fitS IR d.got):=rfl
theorem LP (d:DTask) (l:Int) (h0:0≤Fe d l) (hl:l≤1048576):Ef d∧Fe d l≤l:=by
 rw[QV] at h0 ⊢
 rw[Di]
 obtain⟨a0,h1,e0⟩:=AX h0
 obtain⟨g0,b0⟩:=DI d.r (fun x _=>C_ x) a0 (by omega)
 obtain⟨a1,h2,e1⟩:=AX h1
 obtain⟨g1,b1⟩:=MC d.q _ a1 (by omega)
 obtain⟨a2,h3,e2⟩:=AX h2
 obtain⟨g2,b2⟩:=CJ a2 (by omega)
 obtain⟨a3,h4,e3⟩:=AX h3
 obtain⟨g3,b3⟩:=DI d.got (fun x _=>Kz x) a3 (by omega)
 exact⟨⟨g0,g1,g2,g3⟩,by rw[e0,e1,e2,e3]; omega⟩
def ED (d:DDeed):Prop:=fitS Ff d.r∧Dv d.q∧JM d.res
theorem FP (d:DDeed):ED d=(fitS Ff d.r∧Dv d.q∧JM d.res):=rfl
theorem LQ (d:DDeed) (l:Int) (h0:0≤Gq d l) (hl:l≤1048576):ED d∧Gq d l≤l:=by
 rw[QW] at h0 ⊢
 rw[FP]
 obtain⟨a0,h1,e0⟩:=AX h0
 obtain⟨g0,b0⟩:=DI d.r (fun x _=>C_ x) a0 (by omega)
 obtain⟨a1,h2,e1⟩:=AX h1
 obtain⟨g1,b1⟩:=MC d.q _ a1 (by omega)
 obtain⟨a2,h3,e2⟩:=AX h2
 obtain⟨g2,b2⟩:=Sj d.res _ a2 (by omega)
 exact⟨⟨g0,g1,g2⟩,by rw[e0,e1,e2]; omega⟩
def OA (d:DConf):Prop:=d.cols.length≤1048576
theorem JO (d:DConf):OA d=(d.cols.length≤1048576):=rfl
theorem RZ (d:DConf) (l:Int) (h0:0≤EK d l) (hl:l≤1048576):OA d∧EK d l≤l:=by
 rw[Um] at h0 ⊢
 rw[JO]
 obtain⟨a0,h1,e0⟩:=AX h0
 obtain⟨g0,b0⟩:=CJ a0 (by omega)
 exact⟨g0,by rw[e0]; omega⟩
def Aa (d:DWorld):Prop:=OA d.c0∧RY d.d∧fitS Io d.b∧d.m.length≤1048576∧d.x.length≤1048576∧d.p.length≤1048576∧fitS Ef d.tasks∧fitS ED d.deeds
theorem BI (d:DWorld):Aa d=(OA d.c0∧RY d.d∧fitS Io d.b∧d.m.length≤1048576∧d.x.length≤1048576∧d.p.length≤1048576∧fitS Ef d.tasks∧fitS ED d.deeds):=rfl
theorem PK (d:DWorld) (l:Int) (h0:0≤Il d l) (hl:l≤1048576):Aa d∧Il d l≤l:=by
 rw[N_] at h0 ⊢
 rw[BI]
 obtain⟨a0,h1,e0⟩:=AX h0
 obtain⟨g0,b0⟩:=RZ d.c0 _ a0 (by omega)
 obtain⟨a1,h2,e1⟩:=AX h1
 obtain⟨g1,b1⟩:=Uo d.d _ a1 (by omega)
 obtain⟨a2,h3,e2⟩:=AX h2
 obtain⟨g2,b2⟩:=DI d.b (fun x _=>NQ x) a2 (by omega)
 obtain⟨a3,h4,e3⟩:=AX h3
 obtain⟨g3,b3⟩:=CJ a3 (by omega)
 obtain⟨a4,h5,e4⟩:=AX h4
 obtain⟨g4,b4⟩:=CJ a4 (by omega)
 obtain⟨a5,h6,e5⟩:=AX h5
 obtain⟨g5,b5⟩:=CJ a5 (by omega)
 obtain⟨a6,h7,e6⟩:=AX h6
 obtain⟨g6,b6⟩:=DI d.tasks (fun x _=>LP x) a6 (by omega)
 obtain⟨a7,h8,e7⟩:=AX h7
 obtain⟨g7,b7⟩:=DI d.deeds (fun x _=>LQ x) a7 (by omega)
 exact⟨⟨g0,g1,g2,g3,g4,g5,g6,g7⟩,by rw[e0,e1,e2,e3,e4,e5,e6,e7]; omega⟩
theorem DVal.pure (d:DVal):CB d.c=true:=by
 simp[DVal.c_eq,CB,AO]
theorem DRow.pure (d:DRow):CB d.c=true:=by
 simp[DRow.c_eq,CB,AO]
theorem DPred.pure (d:DPred):CB d.c=true:=by
 have h0:=DVal.pure d.v
 rw[CB] at h0
 simp[DPred.c_eq,CB,AO,h0]
theorem DQuery.pure (d:DQuery):CB d.c=true:=by
 have h0:=DPred.pure d.p
 rw[CB] at h0
 simp[DQuery.c_eq,CB,AO,h0]
theorem DResult.pure (d:DResult):CB d.c=true:=by
 have h0:=DVal.pure d.v
 rw[CB] at h0
 simp[DResult.c_eq,CB,AO,h0]
theorem DSlot.pure (d:DSlot):CB d.c=true:=by
 simp[DSlot.c_eq,CB,AO]
theorem DChunk.pure (d:DChunk):CB d.c=true:=by
 simp[DChunk.c_eq,CB,AO]
theorem DBuf.pure (d:DBuf):CB d.c=true:=by
 have h0:=DChunk.pure d.c0
 rw[CB] at h0
 simp[DBuf.c_eq,CB,AO,h0]
theorem DDead.pure (d:DDead):CB d.c=true:=by
 simp[DDead.c_eq,CB,AO]
theorem DRef.pure (d:DRef):CB d.c=true:=by
 simp[DRef.c_eq,CB,AO]
theorem DDir.pure (d:DDir):CB d.c=true:=by
 simp[DDir.c_eq,CB,AO]
theorem DTask.pure (d:DTask):CB d.c=true:=by
 have h0:=DQuery.pure d.q
 rw[CB] at h0
 simp[DTask.c_eq,CB,AO,h0]
theorem DDeed.pure (d:DDeed):CB d.c=true:=by
 have h0:=DQuery.pure d.q
 rw[CB] at h0
 have h1:=DResult.pure d.res
 rw[CB] at h1
 simp[DDeed.c_eq,CB,AO,h0,h1]
theorem DConf.pure (d:DConf):CB d.c=true:=by
 simp[DConf.c_eq,CB,AO]
theorem DWorld.pure (d:DWorld):CB d.c=true:=by
 have h0:=DConf.pure d.c0
 rw[CB] at h0
 have h1:=DDir.pure d.d
 rw[CB] at h1
 simp[DWorld.c_eq,CB,AO,h0,h1]
theorem intC.pure (n:Int):CB (intC n)=true:=rfl
theorem byteC.pure (n:Int):CB (byteC n)=true:=rfl
end Go.Proofs.YtnfbaclikokapaaGreat
