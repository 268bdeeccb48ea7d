/- A part. -/
import Derived.Test.YthmifbbmgnhddaaGreatVmW
set_option linter.unusedSimpArgs false
set_option linter.unusedVariables false
namespace Go.Proofs.YthmifbbmgnhddaaGreat
open Go.Vm
def intC (n:Int):List Cl:=[.v (.int .i64 n)]
@[go_sem] theorem ACK (n:Int):intC n = [.v (.int .i64 n)]:=rfl
def byteC (n:Int):List Cl:=[.v (.int .u8 n)]
@[go_sem] theorem Py (n:Int):byteC n = [.v (.int .u8 n)]:=rfl
def sq (x:Int) (k:Int→Int):Int:=if x<0 then -1 else k x
theorem AJi {x:Int} {k:Int→Int} (h:x<0):sq x k = -1:=bG h
theorem AJj {x:Int} {k:Int→Int} (h:¬ x<0):sq x k=k x:=bu h
def FY (n:Nat) (l:Int):Int:=if l-n<0 then -1 else l-n
theorem AHO {n:Nat} {l:Int} (h:l-n<0):FY n l = -1:=bG h
theorem ACM {n:Nat} {l:Int} (h:¬ l-n<0):FY n l=l-n:=bu h
def Z5 {α:Type} (f:α→Int→Int):List α→Int→Int
 | [],l=>l
 | x::xs,l=>sq (f x l) (Z5 f xs)
def DD {α:Type} (f:α→Int→Int) (xs:List α) (l:Int):Int:=sq (FY xs.length l) (Z5 f xs)
def fitS {α:Type} (F:α→Prop) (xs:List α):Prop:=xs.length≤1048576∧∀ x∈xs,F x
theorem C9 {n:Nat} {l:Int} (h:0≤FY n l) (hl:l≤1048576):n≤1048576∧FY n l≤l:=by
 unfold FY at *
 split at h<;>simp_all<;>omega
theorem Aa {x:Int} {k:Int→Int} (h:0≤sq x k):0≤x∧0≤k x∧sq x k=k x:=by
 unfold sq at *
 split at h
 ·omega
 ·rename_i hx
  exact⟨AQ2,h,bu hx⟩
theorem qL {α:Type} {f:α→Int→Int} {F:α→Prop}:∀ (xs:List α) (_:∀ x∈xs,∀ l,0≤f x l→l≤1048576→F x∧f x l≤l) (l:Int),0≤Z5 f xs l→l≤1048576→(∀ x∈xs,F x)∧Z5 f xs l≤l
 | [],_,l,_,_=>⟨AQ3,by simp[Z5]⟩
 | x::xs,hf,l,h,hl=>by
  simp only[Z5] at h ⊢
  obtain⟨h1,h2,h3⟩:=Aa h
  obtain⟨g1,g2⟩:=hf x AQ3 l h1 hl
  obtain⟨g3,g4⟩:=qL xs (fun y hy=>hf y ASE) _ h2 AQ2
  exact⟨by simp only[Rx,forall_eq_or_imp]; exact⟨g1,g3⟩,by rw[h3]; omega⟩
theorem Dk {α:Type} {f:α→Int→Int} {F:α→Prop} (xs:List α) (hf:∀ x∈xs,∀ l,0≤f x l→l≤1048576→F x∧f x l≤l) {l:Int} (h:0≤DD f xs l) (hl:l≤1048576):fitS F xs∧DD f xs l≤l:=by
 unfold DD at h ⊢
 obtain⟨h1,h2,h3⟩:=Aa h
 obtain⟨g1,g2⟩:=C9 h1 hl
 obtain⟨g3,g4⟩:=qL xs hf _ h2 AQ2
 exact⟨⟨g1,g3⟩,by rw[h3]; omega⟩
structure DVal where
 ty:Int
 n:Int
 s:ByteArray
def DVal.c (d:DVal):List Cl:=[.v (.int .i64 d.ty)]++([.v (.int .i64 d.n)]++([.v (.string d.s)]))
@[go_sem] theorem DVal.c_eq (d:DVal):d.c = [.v (.int .i64 d.ty)]++([.v (.int .i64 d.n)]++([.v (.string d.s)])):=rfl
def Aj (d:DVal) (l:Int):Int:=sq (FY d.s.size l) fun l=>l
theorem F9 (d:DVal) (l:Int):Aj d l=sq (FY d.s.size l) fun l=>l:=rfl
structure DRow where
 id:Int
 l:List DVal
def DRow.c (d:DRow):List Cl:=[.v (.int .i64 d.id)]++([.sl (d.l.map DVal.c)])
@[go_sem] theorem DRow.c_eq (d:DRow):d.c = [.v (.int .i64 d.id)]++([.sl (d.l.map DVal.c)]):=rfl
def KJ (d:DRow) (l:Int):Int:=sq (DD Aj d.l l) fun l=>l
theorem WE (d:DRow) (l:Int):KJ d l=sq (DD Aj d.l l) fun l=>l:=rfl
inductive DPred where
 | mk (kind:Int) (col:Int) (op:Int) (v:DVal) (l:List DPred)
def DPred.kind:DPred→Int | .mk kind _ _ _ _=>kind
def DPred.col:DPred→Int | .mk _ col _ _ _=>col
def DPred.op:DPred→Int | .mk _ _ op _ _=>op
def DPred.v:DPred→DVal | .mk _ _ _ v _=>v
def DPred.l:DPred→List DPred | .mk _ _ _ _ l=>l
mutual
def DPred.c:DPred→List Cl
 | .mk kind col op v l=>[.v (.int .i64 kind)]++([.v (.int .i64 col)]++([.v (.int .i64 op)]++(v.c++([.sl (DPred.cs l)]))))
def DPred.cs:List DPred→List (List Cl)
 | []=>[]
 | x::xs=>x.c::DPred.cs xs
end
theorem DPred.cs_eq:∀ l:List DPred,DPred.cs l=l.map DPred.c
 | []=>by simp only[DPred.cs,df]
 | x::xs=>by simp only[DPred.cs,TA,DPred.cs_eq xs]
@[go_sem] theorem DPred.c_eq (d:DPred):d.c = [.v (.int .i64 d.kind)]++([.v (.int .i64 d.col)]++([.v (.int .i64 d.op)]++(d.v.c++([.sl (d.l.map DPred.c)])))):=by
 cases d
 simp only[DPred.c,DPred.cs_eq,DPred.kind,DPred.col,DPred.op,DPred.v,DPred.l]
mutual
def BJ:DPred→Int→Int
 | .mk kind col op v l,m0=>sq ((Aj v) m0) fun m0=>sq ((fun m=>sq (FY l.length m) (UE l)) m0) fun m0=>m0
def UE:List DPred→Int→Int
 | [],l=>l
 | x::xs,l=>sq (BJ x l) (UE xs)
end
theorem fP:∀ (l:List DPred) (m:Int),UE l m=Z5 BJ l m
 | [],m=>by simp only[UE,Z5]
 | x::xs,m=>by
  simp only[UE,Z5]
  congr 1
  funext m
  exact fP xs m
theorem Ic (d:DPred) (l:Int):BJ d l=sq (Aj d.v l) fun l=>sq (DD BJ d.l l) fun l=>l:=by
 have h:UE=Z5 BJ:=by funext l m; exact fP l m
 cases d
 simp only[BJ,DD,h,DPred.kind,DPred.col,DPred.op,DPred.v,DPred.l]
structure DQuery where
 kind:Int
 p:DPred
 col:Int
 out:List Int
def DQuery.c (d:DQuery):List Cl:=[.v (.int .i64 d.kind)]++(d.p.c++([.v (.int .i64 d.col)]++([.sl (d.out.map intC)])))
@[go_sem] theorem DQuery.c_eq (d:DQuery):d.c = [.v (.int .i64 d.kind)]++(d.p.c++([.v (.int .i64 d.col)]++([.sl (d.out.map intC)]))):=rfl
def BV (d:DQuery) (l:Int):Int:=sq (BJ d.p l) fun l=>sq (FY d.out.length l) fun l=>l
theorem Iw (d:DQuery) (l:Int):BV d l=sq (BJ d.p l) fun l=>sq (FY d.out.length l) fun l=>l:=rfl
structure DResult where
 rows:List DRow
 n:Int
 has:Bool
 v:DVal
def DResult.c (d:DResult):List Cl:=[.sl (d.rows.map DRow.c)]++([.v (.int .i64 d.n)]++([.v (.bool d.has)]++(d.v.c)))
@[go_sem] theorem DResult.c_eq (d:DResult):d.c = [.sl (d.rows.map DRow.c)]++([.v (.int .i64 d.n)]++([.v (.bool d.has)]++(d.v.c))):=rfl
def MI (d:DResult) (l:Int):Int:=sq (DD KJ d.rows l) fun l=>sq (Aj d.v l) fun l=>l
theorem J7 (d:DResult) (l:Int):MI d l=sq (DD KJ d.rows l) fun l=>sq (Aj d.v l) fun l=>l:=rfl
structure DSlot where
 ins:Int
 l:List DVal
def DSlot.c (d:DSlot):List Cl:=[.v (.int .i64 d.ins)]++([.sl (d.l.map DVal.c)])
@[go_sem] theorem DSlot.c_eq (d:DSlot):d.c = [.v (.int .i64 d.ins)]++([.sl (d.l.map DVal.c)]):=rfl
def NJ (d:DSlot) (l:Int):Int:=sq (DD Aj d.l l) fun l=>l
theorem UF (d:DSlot) (l:Int):NJ d l=sq (DD Aj d.l l) fun l=>l:=rfl
structure DChunk where
 next:Int
 l:List DSlot
def DChunk.c (d:DChunk):List Cl:=[.v (.int .i64 d.next)]++([.sl (d.l.map DSlot.c)])
@[go_sem] theorem DChunk.c_eq (d:DChunk):d.c = [.v (.int .i64 d.next)]++([.sl (d.l.map DSlot.c)]):=rfl
def Lm (d:DChunk) (l:Int):Int:=sq (DD NJ d.l l) fun l=>l
theorem QX (d:DChunk) (l:Int):Lm d l=sq (DD NJ d.l l) fun l=>l:=rfl
structure DBuf where
 gen:Int
 kind:Int
 c0:DChunk
 g:List Int
def DBuf.c (d:DBuf):List Cl:=[.v (.int .i64 d.gen)]++([.v (.int .i64 d.kind)]++(d.c0.c++([.sl (d.g.map byteC)])))
@[go_sem] theorem DBuf.c_eq (d:DBuf):d.c = [.v (.int .i64 d.gen)]++([.v (.int .i64 d.kind)]++(d.c0.c++([.sl (d.g.map byteC)]))):=rfl
def Iy (d:DBuf) (l:Int):Int:=sq (Lm d.c0 l) fun l=>sq (FY d.g.length l) fun l=>l
theorem WF (d:DBuf) (l:Int):Iy d l=sq (Lm d.c0 l) fun l=>sq (FY d.g.length l) fun l=>l:=rfl
structure DDead where
 buf:Int
 gen:Int
 at0:Int
def DDead.c (d:DDead):List Cl:=[.v (.int .i64 d.buf)]++([.v (.int .i64 d.gen)]++([.v (.int .i64 d.at0)]))
@[go_sem] theorem DDead.c_eq (d:DDead):d.c = [.v (.int .i64 d.buf)]++([.v (.int .i64 d.gen)]++([.v (.int .i64 d.at0)])):=rfl
structure DRef where
 buf:Int
 gen:Int
 kind:Int
 first:Int
 many:Int
def DRef.c (d:DRef):List Cl:=[.v (.int .i64 d.buf)]++([.v (.int .i64 d.gen)]++([.v (.int .i64 d.kind)]++([.v (.int .i64 d.first)]++([.v (.int .i64 d.many)]))))
@[go_sem] theorem DRef.c_eq (d:DRef):d.c = [.v (.int .i64 d.buf)]++([.v (.int .i64 d.gen)]++([.v (.int .i64 d.kind)]++([.v (.int .i64 d.first)]++([.v (.int .i64 d.many)])))):=rfl
structure DDir where
 ver:Int
 l:List DRef
def DDir.c (d:DDir):List Cl:=[.v (.int .i64 d.ver)]++([.sl (d.l.map DRef.c)])
@[go_sem] theorem DDir.c_eq (d:DDir):d.c = [.v (.int .i64 d.ver)]++([.sl (d.l.map DRef.c)]):=rfl
def Iz (d:DDir) (l:Int):Int:=sq (FY d.l.length l) fun l=>l
theorem fQ (d:DDir) (l:Int):Iz d l=sq (FY d.l.length l) fun l=>l:=rfl
structure DTask where
 op:Int
 pc:Int
 h:Int
 r:List DVal
 id:Int
 q:DQuery
 ts:Int
 ver:Int
 l:List DRef
 i:Int
 j:Int
 s:Int
 at0:Int
 own:Int
 won:Bool
 got:List DRow
def DTask.c (d:DTask):List Cl:=[.v (.int .i64 d.op)]++([.v (.int .i64 d.pc)]++([.v (.int .i64 d.h)]++([.sl (d.r.map DVal.c)]++([.v (.int .i64 d.id)]++(d.q.c++([.v (.int .i64 d.ts)]++([.v (.int .i64 d.ver)]++([.sl (d.l.map DRef.c)]++([.v (.int .i64 d.i)]++([.v (.int .i64 d.j)]++([.v (.int .i64 d.s)]++([.v (.int .i64 d.at0)]++([.v (.int .i64 d.own)]++([.v (.bool d.won)]++([.sl (d.got.map DRow.c)])))))))))))))))
@[go_sem] theorem DTask.c_eq (d:DTask):d.c = [.v (.int .i64 d.op)]++([.v (.int .i64 d.pc)]++([.v (.int .i64 d.h)]++([.sl (d.r.map DVal.c)]++([.v (.int .i64 d.id)]++(d.q.c++([.v (.int .i64 d.ts)]++([.v (.int .i64 d.ver)]++([.sl (d.l.map DRef.c)]++([.v (.int .i64 d.i)]++([.v (.int .i64 d.j)]++([.v (.int .i64 d.s)]++([.v (.int .i64 d.at0)]++([.v (.int .i64 d.own)]++([.v (.bool d.won)]++([.sl (d.got.map DRow.c)]))))))))))))))):=rfl
def I4 (d:DTask) (l:Int):Int:=sq (DD Aj d.r l) fun l=>sq (BV d.q l) fun l=>sq (FY d.l.length l) fun l=>sq (DD KJ d.got l) fun l=>l
theorem N9 (d:DTask) (l:Int):I4 d l=sq (DD Aj d.r l) fun l=>sq (BV d.q l) fun l=>sq (FY d.l.length l) fun l=>sq (DD KJ d.got l) fun l=>l:=rfl
structure DDeed where
 op:Int
 task:Int
 r:List DVal
 id:Int
 q:DQuery
 res:DResult
 code:Int
 stamp:Int
 inv:Int
 lin:Int
 ret:Int
def DDeed.c (d:DDeed):List Cl:=[.v (.int .i64 d.op)]++([.v (.int .i64 d.task)]++([.sl (d.r.map DVal.c)]++([.v (.int .i64 d.id)]++(d.q.c++(d.res.c++([.v (.int .i64 d.code)]++([.v (.int .i64 d.stamp)]++([.v (.int .i64 d.inv)]++([.v (.int .i64 d.lin)]++([.v (.int .i64 d.ret)]))))))))))
@[go_sem] theorem DDeed.c_eq (d:DDeed):d.c = [.v (.int .i64 d.op)]++([.v (.int .i64 d.task)]++([.sl (d.r.map DVal.c)]++([.v (.int .i64 d.id)]++(d.q.c++(d.res.c++([.v (.int .i64 d.code)]++([.v (.int .i64 d.stamp)]++([.v (.int .i64 d.inv)]++([.v (.int .i64 d.lin)]++([.v (.int .i64 d.ret)])))))))))):=rfl
def Jv (d:DDeed) (l:Int):Int:=sq (DD Aj d.r l) fun l=>sq (BV d.q l) fun l=>sq (MI d.res l) fun l=>l
theorem N_ (d:DDeed) (l:Int):Jv d l=sq (DD Aj d.r l) fun l=>sq (BV d.q l) fun l=>sq (MI d.res l) fun l=>l:=rfl
structure DConf where
 cols:List Int
 slots:Int
 bufs:Int
def DConf.c (d:DConf):List Cl:=[.sl (d.cols.map intC)]++([.v (.int .i64 d.slots)]++([.v (.int .i64 d.bufs)]))
@[go_sem] theorem DConf.c_eq (d:DConf):d.c = [.sl (d.cols.map intC)]++([.v (.int .i64 d.slots)]++([.v (.int .i64 d.bufs)])):=rfl
def FT (d:DConf) (l:Int):Int:=sq (FY d.cols.length l) fun l=>l
theorem YA (d:DConf) (l:Int):FT d l=sq (FY d.cols.length l) fun l=>l:=rfl
structure DWorld where
 c0:DConf
 time:Int
 t:Int
 e:Int
 d:DDir
 b:List DBuf
 m:List Int
 x:List DDead
 p:List Int
 tasks:List DTask
 deeds:List DDeed
def DWorld.c (d:DWorld):List Cl:=d.c0.c++([.v (.int .i64 d.time)]++([.v (.int .i64 d.t)]++([.v (.int .i64 d.e)]++(d.d.c++([.sl (d.b.map DBuf.c)]++([.sl (d.m.map intC)]++([.sl (d.x.map DDead.c)]++([.sl (d.p.map intC)]++([.sl (d.tasks.map DTask.c)]++([.sl (d.deeds.map DDeed.c)]))))))))))
@[go_sem] theorem DWorld.c_eq (d:DWorld):d.c=d.c0.c++([.v (.int .i64 d.time)]++([.v (.int .i64 d.t)]++([.v (.int .i64 d.e)]++(d.d.c++([.sl (d.b.map DBuf.c)]++([.sl (d.m.map intC)]++([.sl (d.x.map DDead.c)]++([.sl (d.p.map intC)]++([.sl (d.tasks.map DTask.c)]++([.sl (d.deeds.map DDeed.c)])))))))))):=rfl
def ER (d:DWorld) (l:Int):Int:=sq (FT d.c0 l) fun l=>sq (Iz d.d l) fun l=>sq (DD Iy d.b l) fun l=>sq (FY d.m.length l) fun l=>sq (FY d.x.length l) fun l=>sq (FY d.p.length l) fun l=>sq (DD I4 d.tasks l) fun l=>sq (DD Jv d.deeds l) fun l=>l
theorem QY (d:DWorld) (l:Int):ER d l=sq (FT d.c0 l) fun l=>sq (Iz d.d l) fun l=>sq (DD Iy d.b l) fun l=>sq (FY d.m.length l) fun l=>sq (FY d.x.length l) fun l=>sq (FY d.p.length l) fun l=>sq (DD I4 d.tasks l) fun l=>sq (DD Jv d.deeds l) fun l=>l:=rfl
structure DTable where
 cols:List Int
 l:List DRow
def DTable.c (d:DTable):List Cl:=[.sl (d.cols.map intC)]++([.sl (d.l.map DRow.c)])
@[go_sem] theorem DTable.c_eq (d:DTable):d.c = [.sl (d.cols.map intC)]++([.sl (d.l.map DRow.c)]):=rfl
def Ee (d:DVal):Prop:=d.s.size≤1048576
theorem UG (d:DVal):Ee d=(d.s.size≤1048576):=rfl
theorem DL (d:DVal) (l:Int) (h0:0≤Aj d l) (hl:l≤1048576):Ee d∧Aj d l≤l:=by
 rw[F9] at h0 ⊢
 rw[UG]
 exact AOj
def Aw (d:DRow):Prop:=fitS Ee d.l
theorem DN (d:DRow):Aw d=(fitS Ee d.l):=rfl
theorem OA (d:DRow) (l:Int) (h0:0≤KJ d l) (hl:l≤1048576):Aw d∧KJ d l≤l:=by
 rw[WE] at h0 ⊢
 rw[DN]
 exact APf
mutual
def Ap:DPred→Prop
 | .mk kind col op v l=>Ee v∧(l.length≤1048576∧SH l)
def SH:List DPred→Prop
 | []=>True
 | x::xs=>Ap x∧SH xs
end
theorem Y4:∀ l:List DPred,SH l=∀ x∈l,Ap x
 | []=>by simp[SH]
 | x::xs=>by simp[SH,Y4 xs]
theorem BG (d:DPred):Ap d=(Ee d.v∧fitS Ap d.l):=by
 cases d
 simp only[Ap,fitS,Y4,DPred.kind,DPred.col,DPred.op,DPred.v,DPred.l]
theorem qM (d:DPred) (hx:∀ x∈d.l,∀ l,0≤BJ x l→l≤1048576→Ap x∧BJ x l≤l) (l:Int) (h0:0≤BJ d l) (hl:l≤1048576):Ap d∧BJ d l≤l:=by
 rw[Ic] at h0 ⊢
 rw[BG]
 obtain⟨a0,h1,e0⟩:=Aa h0
 obtain⟨g0,b0⟩:=DL d.v _ a0 AQ2
 obtain⟨a1,h2,e1⟩:=Aa h1
 obtain⟨g1,b1⟩:=Dk d.l hx a1 AQ2
 exact⟨⟨g0,g1⟩,by rw[e0,e1]; omega⟩
theorem Y5:∀ (n:Nat) (d:DPred),SizeOf.sizeOf d≤n→∀ l,0≤BJ d l→l≤1048576→Ap d∧BJ d l≤l
 | 0,d,h=>ASA
 | n+1,d,h=>qM d fun x hx=>Y5 n x (by
  have h1:SizeOf.sizeOf x<SizeOf.sizeOf d.l:=aao hx
  have h2:SizeOf.sizeOf d.l<SizeOf.sizeOf d:=AR6
  omega)
theorem FU (d:DPred) (l:Int) (h:0≤BJ d l) (hl:l≤1048576):Ap d∧BJ d l≤l:=Y5 _ d (aI _) l h hl
def Bl (d:DQuery):Prop:=Ap d.p∧d.out.length≤1048576
theorem EG (d:DQuery):Bl d=(Ap d.p∧d.out.length≤1048576):=rfl
theorem MJ (d:DQuery) (l:Int) (h0:0≤BV d l) (hl:l≤1048576):Bl d∧BV d l≤l:=by
 rw[Iw] at h0 ⊢
 rw[EG]
 obtain⟨a0,h1,e0⟩:=Aa h0
 obtain⟨g0,b0⟩:=FU d.p _ a0 AQ2
 exact AP0
def LK (d:DResult):Prop:=fitS Aw d.rows∧Ee d.v
theorem Nj (d:DResult):LK d=(fitS Aw d.rows∧Ee d.v):=rfl
theorem WG (d:DResult) (l:Int) (h0:0≤MI d l) (hl:l≤1048576):LK d∧MI d l≤l:=by
 rw[J7] at h0 ⊢
 rw[Nj]
 obtain⟨a0,h1,e0⟩:=Aa h0
 obtain⟨g0,b0⟩:=Dk d.rows (fun x _=>OA x) a0 AQ2
 obtain⟨a1,h2,e1⟩:=Aa h1
 obtain⟨g1,b1⟩:=DL d.v _ a1 AQ2
 exact⟨⟨g0,g1⟩,by rw[e0,e1]; omega⟩
def O_ (d:DSlot):Prop:=fitS Ee d.l
theorem Jw (d:DSlot):O_ d=(fitS Ee d.l):=rfl
theorem VO (d:DSlot) (l:Int) (h0:0≤NJ d l) (hl:l≤1048576):O_ d∧NJ d l≤l:=by
 rw[UF] at h0 ⊢
 rw[Jw]
 exact APf
def E5 (d:DChunk):Prop:=fitS O_ d.l
theorem DY (d:DChunk):E5 d=(fitS O_ d.l):=rfl
theorem Y6 (d:DChunk) (l:Int) (h0:0≤Lm d l) (hl:l≤1048576):E5 d∧Lm d l≤l:=by
 rw[QX] at h0 ⊢
 rw[DY]
 obtain⟨a0,h1,e0⟩:=Aa h0
 obtain⟨g0,b0⟩:=Dk d.l (fun x _=>VO x) a0 AQ2
 exact⟨g0,by rw[e0]; omega⟩
def KL (d:DBuf):Prop:=E5 d.c0∧d.g.length≤1048576
theorem JL (d:DBuf):KL d=(E5 d.c0∧d.g.length≤1048576):=rfl
theorem Pz (d:DBuf) (l:Int) (h0:0≤Iy d l) (hl:l≤1048576):KL d∧Iy d l≤l:=by
 rw[WF] at h0 ⊢
 rw[JL]
 obtain⟨a0,h1,e0⟩:=Aa h0
 obtain⟨g0,b0⟩:=Y6 d.c0 _ a0 AQ2
 exact AP0
def VP (d:DDir):Prop:=d.l.length≤1048576
theorem LM (d:DDir):VP d=(d.l.length≤1048576):=rfl
theorem YB (d:DDir) (l:Int) (h0:0≤Iz d l) (hl:l≤1048576):VP d∧Iz d l≤l:=by
 rw[fQ] at h0 ⊢
 rw[LM]
 exact AOj
def Ff (d:DTask):Prop:=fitS Ee d.r∧Bl d.q∧d.l.length≤1048576∧fitS Aw d.got
theorem ED (d:DTask):Ff d=(fitS Ee d.r∧Bl d.q∧d.l.length≤1048576∧fitS Aw d.got):=rfl
theorem OL (d:DTask) (l:Int) (h0:0≤I4 d l) (hl:l≤1048576):Ff d∧I4 d l≤l:=by
 rw[N9] at h0 ⊢
 rw[ED]
 obtain⟨a0,h1,e0⟩:=Aa h0
 obtain⟨g0,b0⟩:=Dk d.r (fun x _=>DL x) a0 AQ2
 obtain⟨a1,h2,e1⟩:=Aa h1
 obtain⟨g1,b1⟩:=MJ d.q _ a1 AQ2
 obtain⟨a2,h3,e2⟩:=Aa h2
 obtain⟨g2,b2⟩:=C9 a2 AQ2
 obtain⟨a3,h4,e3⟩:=Aa h3
 obtain⟨g3,b3⟩:=Dk d.got (fun x _=>OA x) a3 AQ2
 exact⟨⟨g0,g1,g2,g3⟩,by rw[e0,e1,e2,e3]; omega⟩
def C_ (d:DDeed):Prop:=fitS Ee d.r∧Bl d.q∧LK d.res
theorem ES (d:DDeed):C_ d=(fitS Ee d.r∧Bl d.q∧LK d.res):=rfl
theorem OM (d:DDeed) (l:Int) (h0:0≤Jv d l) (hl:l≤1048576):C_ d∧Jv d l≤l:=by
 rw[N_] at h0 ⊢
 rw[ES]
 obtain⟨a0,h1,e0⟩:=Aa h0
 obtain⟨g0,b0⟩:=Dk d.r (fun x _=>DL x) a0 AQ2
 obtain⟨a1,h2,e1⟩:=Aa h1
 obtain⟨g1,b1⟩:=MJ d.q _ a1 AQ2
 obtain⟨a2,h3,e2⟩:=Aa h2
 obtain⟨g2,b2⟩:=WG d.res _ a2 AQ2
 exact⟨⟨g0,g1,g2⟩,by rw[e0,e1,e2]; omega⟩
def QZ (d:DConf):Prop:=d.cols.length≤1048576
theorem Es (d:DConf):QZ d=(d.cols.length≤1048576):=rfl
theorem VQ (d:DConf) (l:Int) (h0:0≤FT d l) (hl:l≤1048576):QZ d∧FT d l≤l:=by
 rw[YA] at h0 ⊢
 rw[Es]
 exact AOj
def AZ (d:DWorld):Prop:=QZ d.c0∧VP d.d∧fitS KL d.b∧d.m.length≤1048576∧d.x.length≤1048576∧d.p.length≤1048576∧fitS Ff d.tasks∧fitS C_ d.deeds
theorem Ai (d:DWorld):AZ d=(QZ d.c0∧VP d.d∧fitS KL d.b∧d.m.length≤1048576∧d.x.length≤1048576∧d.p.length≤1048576∧fitS Ff d.tasks∧fitS C_ d.deeds):=rfl
theorem J8 (d:DWorld) (l:Int) (h0:0≤ER d l) (hl:l≤1048576):AZ d∧ER d l≤l:=by
 rw[QY] at h0 ⊢
 rw[Ai]
 obtain⟨a0,h1,e0⟩:=Aa h0
 obtain⟨g0,b0⟩:=VQ d.c0 _ a0 AQ2
 obtain⟨a1,h2,e1⟩:=Aa h1
 obtain⟨g1,b1⟩:=YB d.d _ a1 AQ2
 obtain⟨a2,h3,e2⟩:=Aa h2
 obtain⟨g2,b2⟩:=Dk d.b (fun x _=>Pz x) a2 AQ2
 obtain⟨a3,h4,e3⟩:=Aa h3
 obtain⟨g3,b3⟩:=C9 a3 AQ2
 obtain⟨a4,h5,e4⟩:=Aa h4
 obtain⟨g4,b4⟩:=C9 a4 AQ2
 obtain⟨a5,h6,e5⟩:=Aa h5
 obtain⟨g5,b5⟩:=C9 a5 AQ2
 obtain⟨a6,h7,e6⟩:=Aa h6
 obtain⟨g6,b6⟩:=Dk d.tasks (fun x _=>OL x) a6 AQ2
 obtain⟨a7,h8,e7⟩:=Aa h7
 obtain⟨g7,b7⟩:=Dk d.deeds (fun x _=>OM x) a7 AQ2
 exact⟨⟨g0,g1,g2,g3,g4,g5,g6,g7⟩,by rw[e0,e1,e2,e3,e4,e5,e6,e7]; omega⟩
def Em (d:DTable):Prop:=d.cols.length≤1048576∧fitS Aw d.l
theorem Ce (d:DTable):Em d=(d.cols.length≤1048576∧fitS Aw d.l):=rfl
theorem DVal.pure (d:DVal):CS d.c=true:=by
 simp[DVal.c_eq,CS,AC]
theorem DRow.pure (d:DRow):CS d.c=true:=by
 simp[DRow.c_eq,CS,AC]
theorem DPred.pure (d:DPred):CS d.c=true:=by
 have h0:=DVal.pure d.v
 rw[CS] at h0
 simp[DPred.c_eq,CS,AC,h0]
theorem DQuery.pure (d:DQuery):CS d.c=true:=by
 have h0:=DPred.pure d.p
 rw[CS] at h0
 simp[DQuery.c_eq,CS,AC,h0]
theorem DResult.pure (d:DResult):CS d.c=true:=by
 have h0:=DVal.pure d.v
 rw[CS] at h0
 simp[DResult.c_eq,CS,AC,h0]
theorem DSlot.pure (d:DSlot):CS d.c=true:=by
 simp[DSlot.c_eq,CS,AC]
theorem DChunk.pure (d:DChunk):CS d.c=true:=by
 simp[DChunk.c_eq,CS,AC]
theorem DBuf.pure (d:DBuf):CS d.c=true:=by
 have h0:=DChunk.pure d.c0
 rw[CS] at h0
 simp[DBuf.c_eq,CS,AC,h0]
theorem DDead.pure (d:DDead):CS d.c=true:=by
 simp[DDead.c_eq,CS,AC]
theorem DRef.pure (d:DRef):CS d.c=true:=by
 simp[DRef.c_eq,CS,AC]
theorem DDir.pure (d:DDir):CS d.c=true:=by
 simp[DDir.c_eq,CS,AC]
theorem DTask.pure (d:DTask):CS d.c=true:=by
 have h0:=DQuery.pure d.q
 rw[CS] at h0
 simp[DTask.c_eq,CS,AC,h0]
theorem DDeed.pure (d:DDeed):CS d.c=true:=by
 have h0:=DQuery.pure d.q
 rw[CS] at h0
 have h1:=DResult.pure d.res
 rw[CS] at h1
 simp[DDeed.c_eq,CS,AC,h0,h1]
theorem DConf.pure (d:DConf):CS d.c=true:=by
 simp[DConf.c_eq,CS,AC]
theorem DWorld.pure (d:DWorld):CS d.c=true:=by
 have h0:=DConf.pure d.c0
 rw[CS] at h0
 have h1:=DDir.pure d.d
 rw[CS] at h1
 simp[DWorld.c_eq,CS,AC,h0,h1]
theorem DTable.pure (d:DTable):CS d.c=true:=by
 simp[DTable.c_eq,CS,AC]
theorem intC.pure (n:Int):CS (intC n)=true:=rfl
theorem byteC.pure (n:Int):CS (byteC n)=true:=rfl
end Go.Proofs.YthmifbbmgnhddaaGreat
