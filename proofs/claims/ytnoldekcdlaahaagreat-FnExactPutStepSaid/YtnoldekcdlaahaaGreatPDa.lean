/- A part. -/
import Derived.Test.YtnoldekcdlaahaaGreatPVmX
set_option linter.unusedSimpArgs false
set_option linter.unusedVariables false
namespace Go.Proofs.YtnoldekcdlaahaaGreat
open Go.Vm
def intC (n:Int):List Cl:=[.v (.int .i64 n)]
@[go_sem] theorem zH (n:Int):intC n = [.v (.int .i64 n)]:=rfl
def byteC (n:Int):List Cl:=[.v (.int .u8 n)]
@[go_sem] theorem Oa (n:Int):byteC n = [.v (.int .u8 n)]:=rfl
def sq (x:Int) (k:Int→Int):Int:=if x<0 then -1 else k x
theorem AGk {x:Int} {k:Int→Int} (h:x<0):sq x k = -1:=bF h
theorem AGl {x:Int} {k:Int→Int} (h:¬ x<0):sq x k=k x:=bz h
def F6 (n:Nat) (l:Int):Int:=if l-n<0 then -1 else l-n
theorem zI {n:Nat} {l:Int} (h:l-n<0):F6 n l = -1:=bF h
theorem kw {n:Nat} {l:Int} (h:¬ l-n<0):F6 n l=l-n:=bz h
def XV {α:Type} (f:α→Int→Int):List α→Int→Int
 | [],l=>l
 | x::xs,l=>sq (f x l) (XV f xs)
def DW {α:Type} (f:α→Int→Int) (xs:List α) (l:Int):Int:=sq (F6 xs.length l) (XV f xs)
def fitS {α:Type} (F:α→Prop) (xs:List α):Prop:=xs.length≤1048576∧∀ x∈xs,F x
theorem CB {n:Nat} {l:Int} (h:0≤F6 n l) (hl:l≤1048576):n≤1048576∧F6 n l≤l:=by
 unfold F6 at *
 split at h<;>simp_all<;>omega
theorem AZ {x:Int} {k:Int→Int} (h:0≤sq x k):0≤x∧0≤k x∧sq x k=k x:=by
 unfold sq at *
 split at h
 ·omega
 ·rename_i hx
  exact⟨AOQ,h,bz hx⟩
theorem kz {α:Type} {f:α→Int→Int} {F:α→Prop}:∀ (xs:List α) (_:∀ x∈xs,∀ l,0≤f x l→l≤1048576→F x∧f x l≤l) (l:Int),0≤XV f xs l→l≤1048576→(∀ x∈xs,F x)∧XV f xs l≤l
 | [],_,l,_,_=>⟨AOR,by simp[XV]⟩
 | x::xs,hf,l,h,hl=>by
  simp only[XV] at h ⊢
  obtain⟨h1,h2,h3⟩:=AZ h
  obtain⟨g1,g2⟩:=hf x AOR l h1 hl
  obtain⟨g3,g4⟩:=kz xs (fun y hy=>hf y APi) _ h2 AOQ
  exact⟨by simp only[SK,forall_eq_or_imp]; exact⟨g1,g3⟩,by rw[h3]; omega⟩
theorem Dp {α:Type} {f:α→Int→Int} {F:α→Prop} (xs:List α) (hf:∀ x∈xs,∀ l,0≤f x l→l≤1048576→F x∧f x l≤l) {l:Int} (h:0≤DW f xs l) (hl:l≤1048576):fitS F xs∧DW f xs l≤l:=by
 unfold DW at h ⊢
 obtain⟨h1,h2,h3⟩:=AZ h
 obtain⟨g1,g2⟩:=CB h1 hl
 obtain⟨g3,g4⟩:=kz xs hf _ h2 AOQ
 exact⟨⟨g1,g3⟩,by rw[h3]; omega⟩
structure DVal where
 ty:Int
 n:Int
 s:ByteArray
def DVal.c (d:DVal):List Cl:=[.v (.int .i64 d.ty)]++([.v (.int .i64 d.n)]++([.v (.string d.s)]))
@[go_sem] theorem DVal.c_eq (d:DVal):d.c = [.v (.int .i64 d.ty)]++([.v (.int .i64 d.n)]++([.v (.string d.s)])):=rfl
def BA (d:DVal) (l:Int):Int:=sq (F6 d.s.size l) fun l=>l
theorem H9 (d:DVal) (l:Int):BA d l=sq (F6 d.s.size l) fun l=>l:=rfl
structure DRow where
 id:Int
 l:List DVal
def DRow.c (d:DRow):List Cl:=[.v (.int .i64 d.id)]++([.sl (d.l.map DVal.c)])
@[go_sem] theorem DRow.c_eq (d:DRow):d.c = [.v (.int .i64 d.id)]++([.sl (d.l.map DVal.c)]):=rfl
def Jg (d:DRow) (l:Int):Int:=sq (DW BA d.l l) fun l=>l
theorem Ub (d:DRow) (l:Int):Jg d l=sq (DW BA d.l l) fun l=>l:=rfl
inductive DPred where
 | mk (kind:Int) (col:Int) (op:Int) (v:DVal) (l:List DPred)
def DPred.kind:DPred→Int | .mk kind _ _ _ _=>kind
def DPred.col:DPred→Int | .mk _ col _ _ _=>col
def DPred.op:DPred→Int | .mk _ _ op _ _=>op
def DPred.v:DPred→DVal | .mk _ _ _ v _=>v
def DPred.l:DPred→List DPred | .mk _ _ _ _ l=>l
mutual
def DPred.c:DPred→List Cl
 | .mk kind col op v l=>[.v (.int .i64 kind)]++([.v (.int .i64 col)]++([.v (.int .i64 op)]++(v.c++([.sl (DPred.cs l)]))))
def DPred.cs:List DPred→List (List Cl)
 | []=>[]
 | x::xs=>x.c::DPred.cs xs
end
theorem DPred.cs_eq:∀ l:List DPred,DPred.cs l=l.map DPred.c
 | []=>by simp only[DPred.cs,di]
 | x::xs=>by simp only[DPred.cs,YR,DPred.cs_eq xs]
@[go_sem] theorem DPred.c_eq (d:DPred):d.c = [.v (.int .i64 d.kind)]++([.v (.int .i64 d.col)]++([.v (.int .i64 d.op)]++(d.v.c++([.sl (d.l.map DPred.c)])))):=by
 cases d
 simp only[DPred.c,DPred.cs_eq,DPred.kind,DPred.col,DPred.op,DPred.v,DPred.l]
mutual
def CJ:DPred→Int→Int
 | .mk kind col op v l,m0=>sq ((BA v) m0) fun m0=>sq ((fun m=>sq (F6 l.length m) (Ru l)) m0) fun m0=>m0
def Ru:List DPred→Int→Int
 | [],l=>l
 | x::xs,l=>sq (CJ x l) (Ru xs)
end
theorem Y7:∀ (l:List DPred) (m:Int),Ru l m=XV CJ l m
 | [],m=>by simp only[Ru,XV]
 | x::xs,m=>by
  simp only[Ru,XV]
  congr 1
  funext m
  exact Y7 xs m
theorem JV (d:DPred) (l:Int):CJ d l=sq (BA d.v l) fun l=>sq (DW CJ d.l l) fun l=>l:=by
 have h:Ru=XV CJ:=by funext l m; exact Y7 l m
 cases d
 simp only[CJ,DW,h,DPred.kind,DPred.col,DPred.op,DPred.v,DPred.l]
structure DQuery where
 kind:Int
 p:DPred
 col:Int
 out:List Int
def DQuery.c (d:DQuery):List Cl:=[.v (.int .i64 d.kind)]++(d.p.c++([.v (.int .i64 d.col)]++([.sl (d.out.map intC)])))
@[go_sem] theorem DQuery.c_eq (d:DQuery):d.c = [.v (.int .i64 d.kind)]++(d.p.c++([.v (.int .i64 d.col)]++([.sl (d.out.map intC)]))):=rfl
def EP (d:DQuery) (l:Int):Int:=sq (CJ d.p l) fun l=>sq (F6 d.out.length l) fun l=>l
theorem KE (d:DQuery) (l:Int):EP d l=sq (CJ d.p l) fun l=>sq (F6 d.out.length l) fun l=>l:=rfl
structure DResult where
 rows:List DRow
 n:Int
 has:Bool
 v:DVal
def DResult.c (d:DResult):List Cl:=[.sl (d.rows.map DRow.c)]++([.v (.int .i64 d.n)]++([.v (.bool d.has)]++(d.v.c)))
@[go_sem] theorem DResult.c_eq (d:DResult):d.c = [.sl (d.rows.map DRow.c)]++([.v (.int .i64 d.n)]++([.v (.bool d.has)]++(d.v.c))):=rfl
def LK (d:DResult) (l:Int):Int:=sq (DW Jg d.rows l) fun l=>sq (BA d.v l) fun l=>l
theorem Nj (d:DResult) (l:Int):LK d l=sq (DW Jg d.rows l) fun l=>sq (BA d.v l) fun l=>l:=rfl
structure DSlot where
 ins:Int
 l:List DVal
def DSlot.c (d:DSlot):List Cl:=[.v (.int .i64 d.ins)]++([.sl (d.l.map DVal.c)])
@[go_sem] theorem DSlot.c_eq (d:DSlot):d.c = [.v (.int .i64 d.ins)]++([.sl (d.l.map DVal.c)]):=rfl
def Ll (d:DSlot) (l:Int):Int:=sq (DW BA d.l l) fun l=>l
theorem Rw (d:DSlot) (l:Int):Ll d l=sq (DW BA d.l l) fun l=>l:=rfl
structure DChunk where
 next:Int
 l:List DSlot
def DChunk.c (d:DChunk):List Cl:=[.v (.int .i64 d.next)]++([.sl (d.l.map DSlot.c)])
@[go_sem] theorem DChunk.c_eq (d:DChunk):d.c = [.v (.int .i64 d.next)]++([.sl (d.l.map DSlot.c)]):=rfl
def Ku (d:DChunk) (l:Int):Int:=sq (DW Ll d.l l) fun l=>l
theorem PN (d:DChunk) (l:Int):Ku d l=sq (DW Ll d.l l) fun l=>l:=rfl
structure DBuf where
 gen:Int
 kind:Int
 c0:DChunk
 g:List Int
def DBuf.c (d:DBuf):List Cl:=[.v (.int .i64 d.gen)]++([.v (.int .i64 d.kind)]++(d.c0.c++([.sl (d.g.map byteC)])))
@[go_sem] theorem DBuf.c_eq (d:DBuf):d.c = [.v (.int .i64 d.gen)]++([.v (.int .i64 d.kind)]++(d.c0.c++([.sl (d.g.map byteC)]))):=rfl
def HY (d:DBuf) (l:Int):Int:=sq (Ku d.c0 l) fun l=>sq (F6 d.g.length l) fun l=>l
theorem Uc (d:DBuf) (l:Int):HY d l=sq (Ku d.c0 l) fun l=>sq (F6 d.g.length l) fun l=>l:=rfl
structure DDead where
 buf:Int
 gen:Int
 at0:Int
def DDead.c (d:DDead):List Cl:=[.v (.int .i64 d.buf)]++([.v (.int .i64 d.gen)]++([.v (.int .i64 d.at0)]))
@[go_sem] theorem DDead.c_eq (d:DDead):d.c = [.v (.int .i64 d.buf)]++([.v (.int .i64 d.gen)]++([.v (.int .i64 d.at0)])):=rfl
structure DRef where
 buf:Int
 gen:Int
 kind:Int
 first:Int
 many:Int
def DRef.c (d:DRef):List Cl:=[.v (.int .i64 d.buf)]++([.v (.int .i64 d.gen)]++([.v (.int .i64 d.kind)]++([.v (.int .i64 d.first)]++([.v (.int .i64 d.many)]))))
@[go_sem] theorem DRef.c_eq (d:DRef):d.c = [.v (.int .i64 d.buf)]++([.v (.int .i64 d.gen)]++([.v (.int .i64 d.kind)]++([.v (.int .i64 d.first)]++([.v (.int .i64 d.many)])))):=rfl
structure DDir where
 ver:Int
 l:List DRef
def DDir.c (d:DDir):List Cl:=[.v (.int .i64 d.ver)]++([.sl (d.l.map DRef.c)])
@[go_sem] theorem DDir.c_eq (d:DDir):d.c = [.v (.int .i64 d.ver)]++([.sl (d.l.map DRef.c)]):=rfl
def Ha (d:DDir) (l:Int):Int:=sq (F6 d.l.length l) fun l=>l
theorem Y8 (d:DDir) (l:Int):Ha d l=sq (F6 d.l.length l) fun l=>l:=rfl
structure DTask where
 op:Int
 pc:Int
 h:Int
 r:List DVal
 id:Int
 q:DQuery
 ts:Int
 ver:Int
 l:List DRef
 i:Int
 j:Int
 s:Int
 at0:Int
 own:Int
 won:Bool
 got:List DRow
def DTask.c (d:DTask):List Cl:=[.v (.int .i64 d.op)]++([.v (.int .i64 d.pc)]++([.v (.int .i64 d.h)]++([.sl (d.r.map DVal.c)]++([.v (.int .i64 d.id)]++(d.q.c++([.v (.int .i64 d.ts)]++([.v (.int .i64 d.ver)]++([.sl (d.l.map DRef.c)]++([.v (.int .i64 d.i)]++([.v (.int .i64 d.j)]++([.v (.int .i64 d.s)]++([.v (.int .i64 d.at0)]++([.v (.int .i64 d.own)]++([.v (.bool d.won)]++([.sl (d.got.map DRow.c)])))))))))))))))
@[go_sem] theorem DTask.c_eq (d:DTask):d.c = [.v (.int .i64 d.op)]++([.v (.int .i64 d.pc)]++([.v (.int .i64 d.h)]++([.sl (d.r.map DVal.c)]++([.v (.int .i64 d.id)]++(d.q.c++([.v (.int .i64 d.ts)]++([.v (.int .i64 d.ver)]++([.sl (d.l.map DRef.c)]++([.v (.int .i64 d.i)]++([.v (.int .i64 d.j)]++([.v (.int .i64 d.s)]++([.v (.int .i64 d.at0)]++([.v (.int .i64 d.own)]++([.v (.bool d.won)]++([.sl (d.got.map DRow.c)]))))))))))))))):=rfl
def I4 (d:DTask) (l:Int):Int:=sq (DW BA d.r l) fun l=>sq (EP d.q l) fun l=>sq (F6 d.l.length l) fun l=>sq (DW Jg d.got l) fun l=>l
theorem Rx (d:DTask) (l:Int):I4 d l=sq (DW BA d.r l) fun l=>sq (EP d.q l) fun l=>sq (F6 d.l.length l) fun l=>sq (DW Jg d.got l) fun l=>l:=rfl
structure DDeed where
 op:Int
 task:Int
 r:List DVal
 id:Int
 q:DQuery
 res:DResult
 code:Int
 stamp:Int
 inv:Int
 lin:Int
 ret:Int
def DDeed.c (d:DDeed):List Cl:=[.v (.int .i64 d.op)]++([.v (.int .i64 d.task)]++([.sl (d.r.map DVal.c)]++([.v (.int .i64 d.id)]++(d.q.c++(d.res.c++([.v (.int .i64 d.code)]++([.v (.int .i64 d.stamp)]++([.v (.int .i64 d.inv)]++([.v (.int .i64 d.lin)]++([.v (.int .i64 d.ret)]))))))))))
@[go_sem] theorem DDeed.c_eq (d:DDeed):d.c = [.v (.int .i64 d.op)]++([.v (.int .i64 d.task)]++([.sl (d.r.map DVal.c)]++([.v (.int .i64 d.id)]++(d.q.c++(d.res.c++([.v (.int .i64 d.code)]++([.v (.int .i64 d.stamp)]++([.v (.int .i64 d.inv)]++([.v (.int .i64 d.lin)]++([.v (.int .i64 d.ret)])))))))))):=rfl
def KF (d:DDeed) (l:Int):Int:=sq (DW BA d.r l) fun l=>sq (EP d.q l) fun l=>sq (LK d.res l) fun l=>l
theorem Ry (d:DDeed) (l:Int):KF d l=sq (DW BA d.r l) fun l=>sq (EP d.q l) fun l=>sq (LK d.res l) fun l=>l:=rfl
structure DConf where
 cols:List Int
 slots:Int
 bufs:Int
def DConf.c (d:DConf):List Cl:=[.sl (d.cols.map intC)]++([.v (.int .i64 d.slots)]++([.v (.int .i64 d.bufs)]))
@[go_sem] theorem DConf.c_eq (d:DConf):d.c = [.sl (d.cols.map intC)]++([.v (.int .i64 d.slots)]++([.v (.int .i64 d.bufs)])):=rfl
def Ee (d:DConf) (l:Int):Int:=sq (F6 d.cols.length l) fun l=>l
theorem WG (d:DConf) (l:Int):Ee d l=sq (F6 d.cols.length l) fun l=>l:=rfl
structure DWorld where
 c0:DConf
 time:Int
 t:Int
 e:Int
 d:DDir
 b:List DBuf
 m:List Int
 x:List DDead
 p:List Int
 tasks:List DTask
 deeds:List DDeed
def DWorld.c (d:DWorld):List Cl:=d.c0.c++([.v (.int .i64 d.time)]++([.v (.int .i64 d.t)]++([.v (.int .i64 d.e)]++(d.d.c++([.sl (d.b.map DBuf.c)]++([.sl (d.m.map intC)]++([.sl (d.x.map DDead.c)]++([.sl (d.p.map intC)]++([.sl (d.tasks.map DTask.c)]++([.sl (d.deeds.map DDeed.c)]))))))))))
@[go_sem] theorem DWorld.c_eq (d:DWorld):d.c=d.c0.c++([.v (.int .i64 d.time)]++([.v (.int .i64 d.t)]++([.v (.int .i64 d.e)]++(d.d.c++([.sl (d.b.map DBuf.c)]++([.sl (d.m.map intC)]++([.sl (d.x.map DDead.c)]++([.sl (d.p.map intC)]++([.sl (d.tasks.map DTask.c)]++([.sl (d.deeds.map DDeed.c)])))))))))):=rfl
def Ip (d:DWorld) (l:Int):Int:=sq (Ee d.c0 l) fun l=>sq (Ha d.d l) fun l=>sq (DW HY d.b l) fun l=>sq (F6 d.m.length l) fun l=>sq (F6 d.x.length l) fun l=>sq (F6 d.p.length l) fun l=>sq (DW I4 d.tasks l) fun l=>sq (DW KF d.deeds l) fun l=>l
theorem KG (d:DWorld) (l:Int):Ip d l=sq (Ee d.c0 l) fun l=>sq (Ha d.d l) fun l=>sq (DW HY d.b l) fun l=>sq (F6 d.m.length l) fun l=>sq (F6 d.x.length l) fun l=>sq (F6 d.p.length l) fun l=>sq (DW I4 d.tasks l) fun l=>sq (DW KF d.deeds l) fun l=>l:=rfl
def Gj (d:DVal):Prop:=d.s.size≤1048576
theorem Rz (d:DVal):Gj d=(d.s.size≤1048576):=rfl
theorem D7 (d:DVal) (l:Int) (h0:0≤BA d l) (hl:l≤1048576):Gj d∧BA d l≤l:=by
 rw[H9] at h0 ⊢
 rw[Rz]
 exact AL3
def Hf (d:DRow):Prop:=fitS Gj d.l
theorem JW (d:DRow):Hf d=(fitS Gj d.l):=rfl
theorem MX (d:DRow) (l:Int) (h0:0≤Jg d l) (hl:l≤1048576):Hf d∧Jg d l≤l:=by
 rw[Ub] at h0 ⊢
 rw[JW]
 exact AM0
mutual
def BD:DPred→Prop
 | .mk kind col op v l=>Gj v∧(l.length≤1048576∧QX l)
def QX:List DPred→Prop
 | []=>True
 | x::xs=>BD x∧QX xs
end
theorem XW:∀ l:List DPred,QX l=∀ x∈l,BD x
 | []=>by simp[QX]
 | x::xs=>by simp[QX,XW xs]
theorem Bg (d:DPred):BD d=(Gj d.v∧fitS BD d.l):=by
 cases d
 simp only[BD,fitS,XW,DPred.kind,DPred.col,DPred.op,DPred.v,DPred.l]
theorem lC (d:DPred) (hx:∀ x∈d.l,∀ l,0≤CJ x l→l≤1048576→BD x∧CJ x l≤l) (l:Int) (h0:0≤CJ d l) (hl:l≤1048576):BD d∧CJ d l≤l:=by
 rw[JV] at h0 ⊢
 rw[Bg]
 obtain⟨a0,h1,e0⟩:=AZ h0
 obtain⟨g0,b0⟩:=D7 d.v _ a0 AOQ
 obtain⟨a1,h2,e1⟩:=AZ h1
 obtain⟨g1,b1⟩:=Dp d.l hx a1 AOQ
 exact⟨⟨g0,g1⟩,by rw[e0,e1]; omega⟩
theorem XX:∀ (n:Nat) (d:DPred),SizeOf.sizeOf d≤n→∀ l,0≤CJ d l→l≤1048576→BD d∧CJ d l≤l
 | 0,d,h=>APf
 | n+1,d,h=>lC d fun x hx=>XX n x (by
  have h1:SizeOf.sizeOf x<SizeOf.sizeOf d.l:=zg hx
  have h2:SizeOf.sizeOf d.l<SizeOf.sizeOf d:=APX
  omega)
theorem Hg (d:DPred) (l:Int) (h:0≤CJ d l) (hl:l≤1048576):BD d∧CJ d l≤l:=XX _ d (aT _) l h hl
def Eh (d:DQuery):Prop:=BD d.p∧d.out.length≤1048576
theorem GI (d:DQuery):Eh d=(BD d.p∧d.out.length≤1048576):=rfl
theorem Nk (d:DQuery) (l:Int) (h0:0≤EP d l) (hl:l≤1048576):Eh d∧EP d l≤l:=by
 rw[KE] at h0 ⊢
 rw[GI]
 obtain⟨a0,h1,e0⟩:=AZ h0
 obtain⟨g0,b0⟩:=Hg d.p _ a0 AOQ
 exact ANM
def KH (d:DResult):Prop:=fitS Hf d.rows∧Gj d.v
theorem MH (d:DResult):KH d=(fitS Hf d.rows∧Gj d.v):=rfl
theorem Ud (d:DResult) (l:Int) (h0:0≤LK d l) (hl:l≤1048576):KH d∧LK d l≤l:=by
 rw[Nj] at h0 ⊢
 rw[MH]
 obtain⟨a0,h1,e0⟩:=AZ h0
 obtain⟨g0,b0⟩:=Dp d.rows (fun x _=>MX x) a0 AOQ
 obtain⟨a1,h2,e1⟩:=AZ h1
 obtain⟨g1,b1⟩:=D7 d.v _ a1 AOQ
 exact⟨⟨g0,g1⟩,by rw[e0,e1]; omega⟩
def Kv (d:DSlot):Prop:=fitS Gj d.l
theorem IY (d:DSlot):Kv d=(fitS Gj d.l):=rfl
theorem Td (d:DSlot) (l:Int) (h0:0≤Ll d l) (hl:l≤1048576):Kv d∧Ll d l≤l:=by
 rw[Rw] at h0 ⊢
 rw[IY]
 exact AM0
def EI (d:DChunk):Prop:=fitS Kv d.l
theorem CE (d:DChunk):EI d=(fitS Kv d.l):=rfl
theorem XY (d:DChunk) (l:Int) (h0:0≤Ku d l) (hl:l≤1048576):EI d∧Ku d l≤l:=by
 rw[PN] at h0 ⊢
 rw[CE]
 obtain⟨a0,h1,e0⟩:=AZ h0
 obtain⟨g0,b0⟩:=Dp d.l (fun x _=>Td x) a0 AOQ
 exact⟨g0,by rw[e0]; omega⟩
def E8 (d:DBuf):Prop:=EI d.c0∧d.g.length≤1048576
theorem Fa (d:DBuf):E8 d=(EI d.c0∧d.g.length≤1048576):=rfl
theorem KI (d:DBuf) (l:Int) (h0:0≤HY d l) (hl:l≤1048576):E8 d∧HY d l≤l:=by
 rw[Uc] at h0 ⊢
 rw[Fa]
 obtain⟨a0,h1,e0⟩:=AZ h0
 obtain⟨g0,b0⟩:=XY d.c0 _ a0 AOQ
 exact ANM
def Tf (d:DDir):Prop:=d.l.length≤1048576
theorem IG (d:DDir):Tf d=(d.l.length≤1048576):=rfl
theorem Oc (d:DDir) (l:Int) (h0:0≤Ha d l) (hl:l≤1048576):Tf d∧Ha d l≤l:=by
 rw[Y8] at h0 ⊢
 rw[IG]
 exact AL3
def Gu (d:DTask):Prop:=fitS Gj d.r∧Eh d.q∧d.l.length≤1048576∧fitS Hf d.got
theorem DR (d:DTask):Gu d=(fitS Gj d.r∧Eh d.q∧d.l.length≤1048576∧fitS Hf d.got):=rfl
theorem JP (d:DTask) (l:Int) (h0:0≤I4 d l) (hl:l≤1048576):Gu d∧I4 d l≤l:=by
 rw[Rx] at h0 ⊢
 rw[DR]
 obtain⟨a0,h1,e0⟩:=AZ h0
 obtain⟨g0,b0⟩:=Dp d.r (fun x _=>D7 x) a0 AOQ
 obtain⟨a1,h2,e1⟩:=AZ h1
 obtain⟨g1,b1⟩:=Nk d.q _ a1 AOQ
 obtain⟨a2,h3,e2⟩:=AZ h2
 obtain⟨g2,b2⟩:=CB a2 AOQ
 obtain⟨a3,h4,e3⟩:=AZ h3
 obtain⟨g3,b3⟩:=Dp d.got (fun x _=>MX x) a3 AOQ
 exact⟨⟨g0,g1,g2,g3⟩,by rw[e0,e1,e2,e3]; omega⟩
def GK (d:DDeed):Prop:=fitS Gj d.r∧Eh d.q∧KH d.res
theorem IZ (d:DDeed):GK d=(fitS Gj d.r∧Eh d.q∧KH d.res):=rfl
theorem NG (d:DDeed) (l:Int) (h0:0≤KF d l) (hl:l≤1048576):GK d∧KF d l≤l:=by
 rw[Ry] at h0 ⊢
 rw[IZ]
 obtain⟨a0,h1,e0⟩:=AZ h0
 obtain⟨g0,b0⟩:=Dp d.r (fun x _=>D7 x) a0 AOQ
 obtain⟨a1,h2,e1⟩:=AZ h1
 obtain⟨g1,b1⟩:=Nk d.q _ a1 AOQ
 obtain⟨a2,h3,e2⟩:=AZ h2
 obtain⟨g2,b2⟩:=Ud d.res _ a2 AOQ
 exact⟨⟨g0,g1,g2⟩,by rw[e0,e1,e2]; omega⟩
def PO (d:DConf):Prop:=d.cols.length≤1048576
theorem KJ (d:DConf):PO d=(d.cols.length≤1048576):=rfl
theorem NH (d:DConf) (l:Int) (h0:0≤Ee d l) (hl:l≤1048576):PO d∧Ee d l≤l:=by
 rw[WG] at h0 ⊢
 rw[KJ]
 exact AL3
def Aa (d:DWorld):Prop:=PO d.c0∧Tf d.d∧fitS E8 d.b∧d.m.length≤1048576∧d.x.length≤1048576∧d.p.length≤1048576∧fitS Gu d.tasks∧fitS GK d.deeds
theorem Ar (d:DWorld):Aa d=(PO d.c0∧Tf d.d∧fitS E8 d.b∧d.m.length≤1048576∧d.x.length≤1048576∧d.p.length≤1048576∧fitS Gu d.tasks∧fitS GK d.deeds):=rfl
theorem QY (d:DWorld) (l:Int) (h0:0≤Ip d l) (hl:l≤1048576):Aa d∧Ip d l≤l:=by
 rw[KG] at h0 ⊢
 rw[Ar]
 obtain⟨a0,h1,e0⟩:=AZ h0
 obtain⟨g0,b0⟩:=NH d.c0 _ a0 AOQ
 obtain⟨a1,h2,e1⟩:=AZ h1
 obtain⟨g1,b1⟩:=Oc d.d _ a1 AOQ
 obtain⟨a2,h3,e2⟩:=AZ h2
 obtain⟨g2,b2⟩:=Dp d.b (fun x _=>KI x) a2 AOQ
 obtain⟨a3,h4,e3⟩:=AZ h3
 obtain⟨g3,b3⟩:=CB a3 AOQ
 obtain⟨a4,h5,e4⟩:=AZ h4
 obtain⟨g4,b4⟩:=CB a4 AOQ
 obtain⟨a5,h6,e5⟩:=AZ h5
 obtain⟨g5,b5⟩:=CB a5 AOQ
 obtain⟨a6,h7,e6⟩:=AZ h6
 obtain⟨g6,b6⟩:=Dp d.tasks (fun x _=>JP x) a6 AOQ
 obtain⟨a7,h8,e7⟩:=AZ h7
 obtain⟨g7,b7⟩:=Dp d.deeds (fun x _=>NG x) a7 AOQ
 exact⟨⟨g0,g1,g2,g3,g4,g5,g6,g7⟩,by rw[e0,e1,e2,e3,e4,e5,e6,e7]; omega⟩
theorem DVal.pure (d:DVal):C_ d.c=true:=by
 simp[DVal.c_eq,C_,AB]
theorem DRow.pure (d:DRow):C_ d.c=true:=by
 simp[DRow.c_eq,C_,AB]
theorem DPred.pure (d:DPred):C_ d.c=true:=by
 have h0:=DVal.pure d.v
 rw[C_] at h0
 simp[DPred.c_eq,C_,AB,h0]
theorem DQuery.pure (d:DQuery):C_ d.c=true:=by
 have h0:=DPred.pure d.p
 rw[C_] at h0
 simp[DQuery.c_eq,C_,AB,h0]
theorem DResult.pure (d:DResult):C_ d.c=true:=by
 have h0:=DVal.pure d.v
 rw[C_] at h0
 simp[DResult.c_eq,C_,AB,h0]
theorem DSlot.pure (d:DSlot):C_ d.c=true:=by
 simp[DSlot.c_eq,C_,AB]
theorem DChunk.pure (d:DChunk):C_ d.c=true:=by
 simp[DChunk.c_eq,C_,AB]
theorem DBuf.pure (d:DBuf):C_ d.c=true:=by
 have h0:=DChunk.pure d.c0
 rw[C_] at h0
 simp[DBuf.c_eq,C_,AB,h0]
theorem DDead.pure (d:DDead):C_ d.c=true:=by
 simp[DDead.c_eq,C_,AB]
theorem DRef.pure (d:DRef):C_ d.c=true:=by
 simp[DRef.c_eq,C_,AB]
theorem DDir.pure (d:DDir):C_ d.c=true:=by
 simp[DDir.c_eq,C_,AB]
theorem DTask.pure (d:DTask):C_ d.c=true:=by
 have h0:=DQuery.pure d.q
 rw[C_] at h0
 simp[DTask.c_eq,C_,AB,h0]
theorem DDeed.pure (d:DDeed):C_ d.c=true:=by
 have h0:=DQuery.pure d.q
 rw[C_] at h0
 have h1:=DResult.pure d.res
 rw[C_] at h1
 simp[DDeed.c_eq,C_,AB,h0,h1]
theorem DConf.pure (d:DConf):C_ d.c=true:=by
 simp[DConf.c_eq,C_,AB]
theorem DWorld.pure (d:DWorld):C_ d.c=true:=by
 have h0:=DConf.pure d.c0
 rw[C_] at h0
 have h1:=DDir.pure d.d
 rw[C_] at h1
 simp[DWorld.c_eq,C_,AB,h0,h1]
theorem intC.pure (n:Int):C_ (intC n)=true:=rfl
theorem byteC.pure (n:Int):C_ (byteC n)=true:=rfl
end Go.Proofs.YtnoldekcdlaahaaGreat
