/- A part. -/
import Derived.Test.YtgkmefoghbjfnaaGreatVmW
set_option linter.unusedSimpArgs false
set_option linter.unusedVariables false
namespace Go.Proofs.YtgkmefoghbjfnaaGreat
open Go.Vm
def intC (n:Int):List Cl:=[.v (.int .i64 n)]
@[go_sem] theorem lM (n:Int):intC n = [.v (.int .i64 n)]:=rfl
def byteC (n:Int):List Cl:=[.v (.int .u8 n)]
@[go_sem] theorem g_ (n:Int):byteC n = [.v (.int .u8 n)]:=rfl
def sq (x:Int) (k:Int→Int):Int:=if x<0 then -1 else k x
theorem qA {x:Int} {k:Int→Int} (h:x<0):sq x k = -1:=ED h
theorem qB {x:Int} {k:Int→Int} (h:¬ x<0):sq x k=k x:=Eh h
def Di (n:Nat) (l:Int):Int:=if l-n<0 then -1 else l-n
def SN {α:Type} (f:α→Int→Int):List α→Int→Int
 | [],l=>l
 | x::xs,l=>sq (f x l) (SN f xs)
def BZ {α:Type} (f:α→Int→Int) (xs:List α) (l:Int):Int:=sq (Di xs.length l) (SN f xs)
def fitS {α:Type} (F:α→Prop) (xs:List α):Prop:=xs.length≤1048576∧∀ x∈xs,F x
theorem Bo {n:Nat} {l:Int} (h:0≤Di n l) (hl:l≤1048576):n≤1048576∧Di n l≤l:=by
 unfold Di at *
 split at h<;>simp_all<;>omega
theorem AX {x:Int} {k:Int→Int} (h:0≤sq x k):0≤x∧0≤k x∧sq x k=k x:=by
 unfold sq at *
 split at h
 ·omega
 ·rename_i hx
  exact⟨by omega,h,Eh hx⟩
theorem ZB {α:Type} {f:α→Int→Int} {F:α→Prop}:∀ (xs:List α) (_:∀ x∈xs,∀ l,0≤f x l→l≤1048576→F x∧f x l≤l) (l:Int),0≤SN f xs l→l≤1048576→(∀ x∈xs,F x)∧SN f xs l≤l
 | [],_,l,_,_=>⟨by simp,by simp[SN]⟩
 | x::xs,hf,l,h,hl=>by
  simp only[SN] at h ⊢
  obtain⟨h1,h2,h3⟩:=AX h
  obtain⟨g1,g2⟩:=hf x (by simp) l h1 hl
  obtain⟨g3,g4⟩:=ZB xs (fun y hy=>hf y (by simp[hy])) _ h2 (by omega)
  exact⟨by simp only[Xz,forall_eq_or_imp]; exact⟨g1,g3⟩,by rw[h3]; omega⟩
theorem Bq {α:Type} {f:α→Int→Int} {F:α→Prop} (xs:List α) (hf:∀ x∈xs,∀ l,0≤f x l→l≤1048576→F x∧f x l≤l) {l:Int} (h:0≤BZ f xs l) (hl:l≤1048576):fitS F xs∧BZ f xs l≤l:=by
 unfold BZ at h ⊢
 obtain⟨h1,h2,h3⟩:=AX h
 obtain⟨g1,g2⟩:=Bo h1 hl
 obtain⟨g3,g4⟩:=ZB xs hf _ h2 (by omega)
 exact⟨⟨g1,g3⟩,by rw[h3]; omega⟩
structure DVal where
 ty:Int
 n:Int
 s:ByteArray
def DVal.c (d:DVal):List Cl:=[.v (.int .i64 d.ty)]++([.v (.int .i64 d.n)]++([.v (.string d.s)]))
@[go_sem] theorem DVal.c_eq (d:DVal):d.c = [.v (.int .i64 d.ty)]++([.v (.int .i64 d.n)]++([.v (.string d.s)])):=rfl
def Ad (d:DVal) (l:Int):Int:=sq (Di d.s.size l) fun l=>l
theorem D8 (d:DVal) (l:Int):Ad d l=sq (Di d.s.size l) fun l=>l:=rfl
structure DRow where
 id:Int
 l:List DVal
def DRow.c (d:DRow):List Cl:=[.v (.int .i64 d.id)]++([.sl (d.l.map DVal.c)])
@[go_sem] theorem DRow.c_eq (d:DRow):d.c = [.v (.int .i64 d.id)]++([.sl (d.l.map DVal.c)]):=rfl
def EM (d:DRow) (l:Int):Int:=sq (BZ Ad d.l l) fun l=>l
theorem NI (d:DRow) (l:Int):EM d l=sq (BZ Ad d.l l) fun l=>l:=rfl
inductive DPred where
 | mk (kind:Int) (col:Int) (op:Int) (v:DVal) (l:List DPred)
def DPred.kind:DPred→Int | .mk kind _ _ _ _=>kind
def DPred.col:DPred→Int | .mk _ col _ _ _=>col
def DPred.op:DPred→Int | .mk _ _ op _ _=>op
def DPred.v:DPred→DVal | .mk _ _ _ v _=>v
def DPred.l:DPred→List DPred | .mk _ _ _ _ l=>l
mutual
def DPred.c:DPred→List Cl
 | .mk kind col op v l=>[.v (.int .i64 kind)]++([.v (.int .i64 col)]++([.v (.int .i64 op)]++(v.c++([.sl (DPred.cs l)]))))
def DPred.cs:List DPred→List (List Cl)
 | []=>[]
 | x::xs=>x.c::DPred.cs xs
end
theorem DPred.cs_eq:∀ l:List DPred,DPred.cs l=l.map DPred.c
 | []=>by simp only[DPred.cs,lF]
 | x::xs=>by simp only[DPred.cs,U9,DPred.cs_eq xs]
@[go_sem] theorem DPred.c_eq (d:DPred):d.c = [.v (.int .i64 d.kind)]++([.v (.int .i64 d.col)]++([.v (.int .i64 d.op)]++(d.v.c++([.sl (d.l.map DPred.c)])))):=by
 cases d
 simp only[DPred.c,DPred.cs_eq,DPred.kind,DPred.col,DPred.op,DPred.v,DPred.l]
mutual
def Ar:DPred→Int→Int
 | .mk kind col op v l,m0=>sq ((Ad v) m0) fun m0=>sq ((fun m=>sq (Di l.length m) (KU l)) m0) fun m0=>m0
def KU:List DPred→Int→Int
 | [],l=>l
 | x::xs,l=>sq (Ar x l) (KU xs)
end
theorem Qi:∀ (l:List DPred) (m:Int),KU l m=SN Ar l m
 | [],m=>by simp only[KU,SN]
 | x::xs,m=>by
  simp only[KU,SN]
  congr 1
  funext m
  exact Qi xs m
theorem FI (d:DPred) (l:Int):Ar d l=sq (Ad d.v l) fun l=>sq (BZ Ar d.l l) fun l=>l:=by
 have h:KU=SN Ar:=by funext l m; exact Qi l m
 cases d
 simp only[Ar,BZ,h,DPred.kind,DPred.col,DPred.op,DPred.v,DPred.l]
structure DQuery where
 kind:Int
 p:DPred
 col:Int
 out:List Int
def DQuery.c (d:DQuery):List Cl:=[.v (.int .i64 d.kind)]++(d.p.c++([.v (.int .i64 d.col)]++([.sl (d.out.map intC)])))
@[go_sem] theorem DQuery.c_eq (d:DQuery):d.c = [.v (.int .i64 d.kind)]++(d.p.c++([.v (.int .i64 d.col)]++([.sl (d.out.map intC)]))):=rfl
def Bv (d:DQuery) (l:Int):Int:=sq (Ar d.p l) fun l=>sq (Di d.out.length l) fun l=>l
theorem Fv (d:DQuery) (l:Int):Bv d l=sq (Ar d.p l) fun l=>sq (Di d.out.length l) fun l=>l:=rfl
structure DResult where
 rows:List DRow
 n:Int
 has:Bool
 v:DVal
def DResult.c (d:DResult):List Cl:=[.sl (d.rows.map DRow.c)]++([.v (.int .i64 d.n)]++([.v (.bool d.has)]++(d.v.c)))
@[go_sem] theorem DResult.c_eq (d:DResult):d.c = [.sl (d.rows.map DRow.c)]++([.v (.int .i64 d.n)]++([.v (.bool d.has)]++(d.v.c))):=rfl
def GY (d:DResult) (l:Int):Int:=sq (BZ EM d.rows l) fun l=>sq (Ad d.v l) fun l=>l
theorem IL (d:DResult) (l:Int):GY d l=sq (BZ EM d.rows l) fun l=>sq (Ad d.v l) fun l=>l:=rfl
structure DSlot where
 ins:Int
 l:List DVal
def DSlot.c (d:DSlot):List Cl:=[.v (.int .i64 d.ins)]++([.sl (d.l.map DVal.c)])
@[go_sem] theorem DSlot.c_eq (d:DSlot):d.c = [.v (.int .i64 d.ins)]++([.sl (d.l.map DVal.c)]):=rfl
def ER (d:DSlot) (l:Int):Int:=sq (BZ Ad d.l l) fun l=>l
theorem KW (d:DSlot) (l:Int):ER d l=sq (BZ Ad d.l l) fun l=>l:=rfl
structure DChunk where
 next:Int
 l:List DSlot
def DChunk.c (d:DChunk):List Cl:=[.v (.int .i64 d.next)]++([.sl (d.l.map DSlot.c)])
@[go_sem] theorem DChunk.c_eq (d:DChunk):d.c = [.v (.int .i64 d.next)]++([.sl (d.l.map DSlot.c)]):=rfl
def F9 (d:DChunk) (l:Int):Int:=sq (BZ ER d.l l) fun l=>l
theorem JH (d:DChunk) (l:Int):F9 d l=sq (BZ ER d.l l) fun l=>l:=rfl
structure DBuf where
 gen:Int
 kind:Int
 c0:DChunk
 g:List Int
def DBuf.c (d:DBuf):List Cl:=[.v (.int .i64 d.gen)]++([.v (.int .i64 d.kind)]++(d.c0.c++([.sl (d.g.map byteC)])))
@[go_sem] theorem DBuf.c_eq (d:DBuf):d.c = [.v (.int .i64 d.gen)]++([.v (.int .i64 d.kind)]++(d.c0.c++([.sl (d.g.map byteC)]))):=rfl
def Dp (d:DBuf) (l:Int):Int:=sq (F9 d.c0 l) fun l=>sq (Di d.g.length l) fun l=>l
theorem NJ (d:DBuf) (l:Int):Dp d l=sq (F9 d.c0 l) fun l=>sq (Di d.g.length l) fun l=>l:=rfl
structure DDead where
 buf:Int
 gen:Int
 at0:Int
def DDead.c (d:DDead):List Cl:=[.v (.int .i64 d.buf)]++([.v (.int .i64 d.gen)]++([.v (.int .i64 d.at0)]))
@[go_sem] theorem DDead.c_eq (d:DDead):d.c = [.v (.int .i64 d.buf)]++([.v (.int .i64 d.gen)]++([.v (.int .i64 d.at0)])):=rfl
structure DRef where
 buf:Int
 gen:Int
 kind:Int
 first:Int
 many:Int
def DRef.c (d:DRef):List Cl:=[.v (.int .i64 d.buf)]++([.v (.int .i64 d.gen)]++([.v (.int .i64 d.kind)]++([.v (.int .i64 d.first)]++([.v (.int .i64 d.many)]))))
@[go_sem] theorem DRef.c_eq (d:DRef):d.c = [.v (.int .i64 d.buf)]++([.v (.int .i64 d.gen)]++([.v (.int .i64 d.kind)]++([.v (.int .i64 d.first)]++([.v (.int .i64 d.many)])))):=rfl
structure DDir where
 ver:Int
 l:List DRef
def DDir.c (d:DDir):List Cl:=[.v (.int .i64 d.ver)]++([.sl (d.l.map DRef.c)])
@[go_sem] theorem DDir.c_eq (d:DDir):d.c = [.v (.int .i64 d.ver)]++([.sl (d.l.map DRef.c)]):=rfl
def ES (d:DDir) (l:Int):Int:=sq (Di d.l.length l) fun l=>l
theorem Qj (d:DDir) (l:Int):ES d l=sq (Di d.l.length l) fun l=>l:=rfl
structure DTask where
 op:Int
 pc:Int
 h:Int
 r:List DVal
 id:Int
 q:DQuery
 ts:Int
 ver:Int
 l:List DRef
 i:Int
 j:Int
 s:Int
 at0:Int
 own:Int
 won:Bool
 got:List DRow
def DTask.c (d:DTask):List Cl:=[.v (.int .i64 d.op)]++([.v (.int .i64 d.pc)]++([.v (.int .i64 d.h)]++([.sl (d.r.map DVal.c)]++([.v (.int .i64 d.id)]++(d.q.c++([.v (.int .i64 d.ts)]++([.v (.int .i64 d.ver)]++([.sl (d.l.map DRef.c)]++([.v (.int .i64 d.i)]++([.v (.int .i64 d.j)]++([.v (.int .i64 d.s)]++([.v (.int .i64 d.at0)]++([.v (.int .i64 d.own)]++([.v (.bool d.won)]++([.sl (d.got.map DRow.c)])))))))))))))))
@[go_sem] theorem DTask.c_eq (d:DTask):d.c = [.v (.int .i64 d.op)]++([.v (.int .i64 d.pc)]++([.v (.int .i64 d.h)]++([.sl (d.r.map DVal.c)]++([.v (.int .i64 d.id)]++(d.q.c++([.v (.int .i64 d.ts)]++([.v (.int .i64 d.ver)]++([.sl (d.l.map DRef.c)]++([.v (.int .i64 d.i)]++([.v (.int .i64 d.j)]++([.v (.int .i64 d.s)]++([.v (.int .i64 d.at0)]++([.v (.int .i64 d.own)]++([.v (.bool d.won)]++([.sl (d.got.map DRow.c)]))))))))))))))):=rfl
def Dw (d:DTask) (l:Int):Int:=sq (BZ Ad d.r l) fun l=>sq (Bv d.q l) fun l=>sq (Di d.l.length l) fun l=>sq (BZ EM d.got l) fun l=>l
theorem KX (d:DTask) (l:Int):Dw d l=sq (BZ Ad d.r l) fun l=>sq (Bv d.q l) fun l=>sq (Di d.l.length l) fun l=>sq (BZ EM d.got l) fun l=>l:=rfl
structure DDeed where
 op:Int
 task:Int
 r:List DVal
 id:Int
 q:DQuery
 res:DResult
 code:Int
 stamp:Int
 inv:Int
 lin:Int
 ret:Int
def DDeed.c (d:DDeed):List Cl:=[.v (.int .i64 d.op)]++([.v (.int .i64 d.task)]++([.sl (d.r.map DVal.c)]++([.v (.int .i64 d.id)]++(d.q.c++(d.res.c++([.v (.int .i64 d.code)]++([.v (.int .i64 d.stamp)]++([.v (.int .i64 d.inv)]++([.v (.int .i64 d.lin)]++([.v (.int .i64 d.ret)]))))))))))
@[go_sem] theorem DDeed.c_eq (d:DDeed):d.c = [.v (.int .i64 d.op)]++([.v (.int .i64 d.task)]++([.sl (d.r.map DVal.c)]++([.v (.int .i64 d.id)]++(d.q.c++(d.res.c++([.v (.int .i64 d.code)]++([.v (.int .i64 d.stamp)]++([.v (.int .i64 d.inv)]++([.v (.int .i64 d.lin)]++([.v (.int .i64 d.ret)])))))))))):=rfl
def ET (d:DDeed) (l:Int):Int:=sq (BZ Ad d.r l) fun l=>sq (Bv d.q l) fun l=>sq (GY d.res l) fun l=>l
theorem KY (d:DDeed) (l:Int):ET d l=sq (BZ Ad d.r l) fun l=>sq (Bv d.q l) fun l=>sq (GY d.res l) fun l=>l:=rfl
structure DConf where
 cols:List Int
 slots:Int
 bufs:Int
def DConf.c (d:DConf):List Cl:=[.sl (d.cols.map intC)]++([.v (.int .i64 d.slots)]++([.v (.int .i64 d.bufs)]))
@[go_sem] theorem DConf.c_eq (d:DConf):d.c = [.sl (d.cols.map intC)]++([.v (.int .i64 d.slots)]++([.v (.int .i64 d.bufs)])):=rfl
def Cm (d:DConf) (l:Int):Int:=sq (Di d.cols.length l) fun l=>l
theorem OZ (d:DConf) (l:Int):Cm d l=sq (Di d.cols.length l) fun l=>l:=rfl
structure DWorld where
 c0:DConf
 time:Int
 t:Int
 e:Int
 d:DDir
 b:List DBuf
 m:List Int
 x:List DDead
 p:List Int
 tasks:List DTask
 deeds:List DDeed
def DWorld.c (d:DWorld):List Cl:=d.c0.c++([.v (.int .i64 d.time)]++([.v (.int .i64 d.t)]++([.v (.int .i64 d.e)]++(d.d.c++([.sl (d.b.map DBuf.c)]++([.sl (d.m.map intC)]++([.sl (d.x.map DDead.c)]++([.sl (d.p.map intC)]++([.sl (d.tasks.map DTask.c)]++([.sl (d.deeds.map DDeed.c)]))))))))))
@[go_sem] theorem DWorld.c_eq (d:DWorld):d.c=d.c0.c++([.v (.int .i64 d.time)]++([.v (.int .i64 d.t)]++([.v (.int .i64 d.e)]++(d.d.c++([.sl (d.b.map DBuf.c)]++([.sl (d.m.map intC)]++([.sl (d.x.map DDead.c)]++([.sl (d.p.map intC)]++([.sl (d.tasks.map DTask.c)]++([.sl (d.deeds.map DDeed.c)])))))))))):=rfl
def IM (d:DWorld) (l:Int):Int:=sq (Cm d.c0 l) fun l=>sq (ES d.d l) fun l=>sq (BZ Dp d.b l) fun l=>sq (Di d.m.length l) fun l=>sq (Di d.x.length l) fun l=>sq (Di d.p.length l) fun l=>sq (BZ Dw d.tasks l) fun l=>sq (BZ ET d.deeds l) fun l=>l
theorem MC (d:DWorld) (l:Int):IM d l=sq (Cm d.c0 l) fun l=>sq (ES d.d l) fun l=>sq (BZ Dp d.b l) fun l=>sq (Di d.m.length l) fun l=>sq (Di d.x.length l) fun l=>sq (Di d.p.length l) fun l=>sq (BZ Dw d.tasks l) fun l=>sq (BZ ET d.deeds l) fun l=>l:=rfl
structure DTable where
 cols:List Int
 l:List DRow
def DTable.c (d:DTable):List Cl:=[.sl (d.cols.map intC)]++([.sl (d.l.map DRow.c)])
@[go_sem] theorem DTable.c_eq (d:DTable):d.c = [.sl (d.cols.map intC)]++([.sl (d.l.map DRow.c)]):=rfl
def EK (d:DVal):Prop:=d.s.size≤1048576
theorem TG (d:DVal):EK d=(d.s.size≤1048576):=rfl
theorem Ba (d:DVal) (l:Int) (h0:0≤Ad d l) (hl:l≤1048576):EK d∧Ad d l≤l:=by
 rw[D8] at h0 ⊢
 rw[TG]
 obtain⟨a0,h1,e0⟩:=AX h0
 obtain⟨g0,b0⟩:=Bo a0 (by omega)
 exact⟨g0,by rw[e0]; omega⟩
def Ah (d:DRow):Prop:=fitS EK d.l
theorem Bc (d:DRow):Ah d=(fitS EK d.l):=rfl
theorem Ha (d:DRow) (l:Int) (h0:0≤EM d l) (hl:l≤1048576):Ah d∧EM d l≤l:=by
 rw[NI] at h0 ⊢
 rw[Bc]
 obtain⟨a0,h1,e0⟩:=AX h0
 obtain⟨g0,b0⟩:=Bq d.l (fun x _=>Ba x) a0 (by omega)
 exact⟨g0,by rw[e0]; omega⟩
mutual
def BF:DPred→Prop
 | .mk kind col op v l=>EK v∧(l.length≤1048576∧Jp l)
def Jp:List DPred→Prop
 | []=>True
 | x::xs=>BF x∧Jp xs
end
theorem PS:∀ l:List DPred,Jp l=∀ x∈l,BF x
 | []=>by simp[Jp]
 | x::xs=>by simp[Jp,PS xs]
theorem Bi (d:DPred):BF d=(EK d.v∧fitS BF d.l):=by
 cases d
 simp only[BF,fitS,PS,DPred.kind,DPred.col,DPred.op,DPred.v,DPred.l]
theorem UO (d:DPred) (hx:∀ x∈d.l,∀ l,0≤Ar x l→l≤1048576→BF x∧Ar x l≤l) (l:Int) (h0:0≤Ar d l) (hl:l≤1048576):BF d∧Ar d l≤l:=by
 rw[FI] at h0 ⊢
 rw[Bi]
 obtain⟨a0,h1,e0⟩:=AX h0
 obtain⟨g0,b0⟩:=Ba d.v _ a0 (by omega)
 obtain⟨a1,h2,e1⟩:=AX h1
 obtain⟨g1,b1⟩:=Bq d.l hx a1 (by omega)
 exact⟨⟨g0,g1⟩,by rw[e0,e1]; omega⟩
theorem PT:∀ (n:Nat) (d:DPred),SizeOf.sizeOf d≤n→∀ l,0≤Ar d l→l≤1048576→BF d∧Ar d l≤l
 | 0,d,h=>by cases d; simp at h
 | n+1,d,h=>UO d fun x hx=>PT n x (by
  have h1:SizeOf.sizeOf x<SizeOf.sizeOf d.l:=eu hx
  have h2:SizeOf.sizeOf d.l<SizeOf.sizeOf d:=by cases d; simp[DPred.l]; omega
  omega)
theorem Dx (d:DPred) (l:Int) (h:0≤Ar d l) (hl:l≤1048576):BF d∧Ar d l≤l:=PT _ d (aQ _) l h hl
def DW (d:DQuery):Prop:=BF d.p∧d.out.length≤1048576
theorem DX (d:DQuery):DW d=(BF d.p∧d.out.length≤1048576):=rfl
theorem IP (d:DQuery) (l:Int) (h0:0≤Bv d l) (hl:l≤1048576):DW d∧Bv d l≤l:=by
 rw[Fv] at h0 ⊢
 rw[DX]
 obtain⟨a0,h1,e0⟩:=AX h0
 obtain⟨g0,b0⟩:=Dx d.p _ a0 (by omega)
 obtain⟨a1,h2,e1⟩:=AX h1
 obtain⟨g1,b1⟩:=Bo a1 (by omega)
 exact⟨⟨g0,g1⟩,by rw[e0,e1]; omega⟩
def He (d:DResult):Prop:=fitS Ah d.rows∧EK d.v
theorem JI (d:DResult):He d=(fitS Ah d.rows∧EK d.v):=rfl
theorem NK (d:DResult) (l:Int) (h0:0≤GY d l) (hl:l≤1048576):He d∧GY d l≤l:=by
 rw[IL] at h0 ⊢
 rw[JI]
 obtain⟨a0,h1,e0⟩:=AX h0
 obtain⟨g0,b0⟩:=Bq d.rows (fun x _=>Ha x) a0 (by omega)
 obtain⟨a1,h2,e1⟩:=AX h1
 obtain⟨g1,b1⟩:=Ba d.v _ a1 (by omega)
 exact⟨⟨g0,g1⟩,by rw[e0,e1]; omega⟩
def JJ (d:DSlot):Prop:=fitS EK d.l
theorem Qk (d:DSlot):JJ d=(fitS EK d.l):=rfl
theorem MF (d:DSlot) (l:Int) (h0:0≤ER d l) (hl:l≤1048576):JJ d∧ER d l≤l:=by
 rw[KW] at h0 ⊢
 rw[Qk]
 obtain⟨a0,h1,e0⟩:=AX h0
 obtain⟨g0,b0⟩:=Bq d.l (fun x _=>Ba x) a0 (by omega)
 exact⟨g0,by rw[e0]; omega⟩
def Jq (d:DChunk):Prop:=fitS JJ d.l
theorem PU (d:DChunk):Jq d=(fitS JJ d.l):=rfl
theorem PV (d:DChunk) (l:Int) (h0:0≤F9 d l) (hl:l≤1048576):Jq d∧F9 d l≤l:=by
 rw[JH] at h0 ⊢
 rw[PU]
 obtain⟨a0,h1,e0⟩:=AX h0
 obtain⟨g0,b0⟩:=Bq d.l (fun x _=>MF x) a0 (by omega)
 exact⟨g0,by rw[e0]; omega⟩
def MG (d:DBuf):Prop:=Jq d.c0∧d.g.length≤1048576
theorem TI (d:DBuf):MG d=(Jq d.c0∧d.g.length≤1048576):=rfl
theorem Oa (d:DBuf) (l:Int) (h0:0≤Dp d l) (hl:l≤1048576):MG d∧Dp d l≤l:=by
 rw[NJ] at h0 ⊢
 rw[TI]
 obtain⟨a0,h1,e0⟩:=AX h0
 obtain⟨g0,b0⟩:=PV d.c0 _ a0 (by omega)
 obtain⟨a1,h2,e1⟩:=AX h1
 obtain⟨g1,b1⟩:=Bo a1 (by omega)
 exact⟨⟨g0,g1⟩,by rw[e0,e1]; omega⟩
def Oc (d:DDir):Prop:=d.l.length≤1048576
theorem TJ (d:DDir):Oc d=(d.l.length≤1048576):=rfl
theorem TK (d:DDir) (l:Int) (h0:0≤ES d l) (hl:l≤1048576):Oc d∧ES d l≤l:=by
 rw[Qj] at h0 ⊢
 rw[TJ]
 obtain⟨a0,h1,e0⟩:=AX h0
 obtain⟨g0,b0⟩:=Bo a0 (by omega)
 exact⟨g0,by rw[e0]; omega⟩
def JK (d:DTask):Prop:=fitS EK d.r∧DW d.q∧d.l.length≤1048576∧fitS Ah d.got
theorem Ql (d:DTask):JK d=(fitS EK d.r∧DW d.q∧d.l.length≤1048576∧fitS Ah d.got):=rfl
theorem MH (d:DTask) (l:Int) (h0:0≤Dw d l) (hl:l≤1048576):JK d∧Dw d l≤l:=by
 rw[KX] at h0 ⊢
 rw[Ql]
 obtain⟨a0,h1,e0⟩:=AX h0
 obtain⟨g0,b0⟩:=Bq d.r (fun x _=>Ba x) a0 (by omega)
 obtain⟨a1,h2,e1⟩:=AX h1
 obtain⟨g1,b1⟩:=IP d.q _ a1 (by omega)
 obtain⟨a2,h3,e2⟩:=AX h2
 obtain⟨g2,b2⟩:=Bo a2 (by omega)
 obtain⟨a3,h4,e3⟩:=AX h3
 obtain⟨g3,b3⟩:=Bq d.got (fun x _=>Ha x) a3 (by omega)
 exact⟨⟨g0,g1,g2,g3⟩,by rw[e0,e1,e2,e3]; omega⟩
def Cc (d:DDeed):Prop:=fitS EK d.r∧DW d.q∧He d.res
theorem FB (d:DDeed):Cc d=(fitS EK d.r∧DW d.q∧He d.res):=rfl
theorem MI (d:DDeed) (l:Int) (h0:0≤ET d l) (hl:l≤1048576):Cc d∧ET d l≤l:=by
 rw[KY] at h0 ⊢
 rw[FB]
 obtain⟨a0,h1,e0⟩:=AX h0
 obtain⟨g0,b0⟩:=Bq d.r (fun x _=>Ba x) a0 (by omega)
 obtain⟨a1,h2,e1⟩:=AX h1
 obtain⟨g1,b1⟩:=IP d.q _ a1 (by omega)
 obtain⟨a2,h3,e2⟩:=AX h2
 obtain⟨g2,b2⟩:=NK d.res _ a2 (by omega)
 exact⟨⟨g0,g1,g2⟩,by rw[e0,e1,e2]; omega⟩
def KZ (d:DConf):Prop:=d.cols.length≤1048576
theorem Ho (d:DConf):KZ d=(d.cols.length≤1048576):=rfl
theorem Qm (d:DConf) (l:Int) (h0:0≤Cm d l) (hl:l≤1048576):KZ d∧Cm d l≤l:=by
 rw[OZ] at h0 ⊢
 rw[Ho]
 obtain⟨a0,h1,e0⟩:=AX h0
 obtain⟨g0,b0⟩:=Bo a0 (by omega)
 exact⟨g0,by rw[e0]; omega⟩
def Hq (d:DWorld):Prop:=KZ d.c0∧Oc d.d∧fitS MG d.b∧d.m.length≤1048576∧d.x.length≤1048576∧d.p.length≤1048576∧fitS JK d.tasks∧fitS Cc d.deeds
theorem GZ (d:DWorld):Hq d=(KZ d.c0∧Oc d.d∧fitS MG d.b∧d.m.length≤1048576∧d.x.length≤1048576∧d.p.length≤1048576∧fitS JK d.tasks∧fitS Cc d.deeds):=rfl
theorem V3 (d:DWorld) (l:Int) (h0:0≤IM d l) (hl:l≤1048576):Hq d∧IM d l≤l:=by
 rw[MC] at h0 ⊢
 rw[GZ]
 obtain⟨a0,h1,e0⟩:=AX h0
 obtain⟨g0,b0⟩:=Qm d.c0 _ a0 (by omega)
 obtain⟨a1,h2,e1⟩:=AX h1
 obtain⟨g1,b1⟩:=TK d.d _ a1 (by omega)
 obtain⟨a2,h3,e2⟩:=AX h2
 obtain⟨g2,b2⟩:=Bq d.b (fun x _=>Oa x) a2 (by omega)
 obtain⟨a3,h4,e3⟩:=AX h3
 obtain⟨g3,b3⟩:=Bo a3 (by omega)
 obtain⟨a4,h5,e4⟩:=AX h4
 obtain⟨g4,b4⟩:=Bo a4 (by omega)
 obtain⟨a5,h6,e5⟩:=AX h5
 obtain⟨g5,b5⟩:=Bo a5 (by omega)
 obtain⟨a6,h7,e6⟩:=AX h6
 obtain⟨g6,b6⟩:=Bq d.tasks (fun x _=>MH x) a6 (by omega)
 obtain⟨a7,h8,e7⟩:=AX h7
 obtain⟨g7,b7⟩:=Bq d.deeds (fun x _=>MI x) a7 (by omega)
 exact⟨⟨g0,g1,g2,g3,g4,g5,g6,g7⟩,by rw[e0,e1,e2,e3,e4,e5,e6,e7]; omega⟩
def Bf (d:DTable):Prop:=d.cols.length≤1048576∧fitS Ah d.l
theorem BL (d:DTable):Bf d=(d.cols.length≤1048576∧fitS Ah d.l):=rfl
theorem DVal.pure (d:DVal):BI d.c=true:=by
 simp[DVal.c_eq,BI,AO]
theorem DRow.pure (d:DRow):BI d.c=true:=by
 simp[DRow.c_eq,BI,AO]
theorem DPred.pure (d:DPred):BI d.c=true:=by
 have h0:=DVal.pure d.v
 rw[BI] at h0
 simp[DPred.c_eq,BI,AO,h0]
theorem DQuery.pure (d:DQuery):BI d.c=true:=by
 have h0:=DPred.pure d.p
 rw[BI] at h0
 simp[DQuery.c_eq,BI,AO,h0]
theorem DResult.pure (d:DResult):BI d.c=true:=by
 have h0:=DVal.pure d.v
 rw[BI] at h0
 simp[DResult.c_eq,BI,AO,h0]
theorem DSlot.pure (d:DSlot):BI d.c=true:=by
 simp[DSlot.c_eq,BI,AO]
theorem DChunk.pure (d:DChunk):BI d.c=true:=by
 simp[DChunk.c_eq,BI,AO]
theorem DBuf.pure (d:DBuf):BI d.c=true:=by
 have h0:=DChunk.pure d.c0
 rw[BI] at h0
 simp[DBuf.c_eq,BI,AO,h0]
theorem DDead.pure (d:DDead):BI d.c=true:=by
 simp[DDead.c_eq,BI,AO]
theorem DRef.pure (d:DRef):BI d.c=true:=by
 simp[DRef.c_eq,BI,AO]
theorem DDir.pure (d:DDir):BI d.c=true:=by
 simp[DDir.c_eq,BI,AO]
theorem DTask.pure (d:DTask):BI d.c=true:=by
 have h0:=DQuery.pure d.q
 rw[BI] at h0
 simp[DTask.c_eq,BI,AO,h0]
theorem DDeed.pure (d:DDeed):BI d.c=true:=by
 have h0:=DQuery.pure d.q
 rw[BI] at h0
 have h1:=DResult.pure d.res
 rw[BI] at h1
 simp[DDeed.c_eq,BI,AO,h0,h1]
theorem DConf.pure (d:DConf):BI d.c=true:=by
 simp[DConf.c_eq,BI,AO]
theorem DWorld.pure (d:DWorld):BI d.c=true:=by
 have h0:=DConf.pure d.c0
 rw[BI] at h0
 have h1:=DDir.pure d.d
 rw[BI] at h1
 simp[DWorld.c_eq,BI,AO,h0,h1]
theorem DTable.pure (d:DTable):BI d.c=true:=by
 simp[DTable.c_eq,BI,AO]
theorem intC.pure (n:Int):BI (intC n)=true:=rfl
theorem byteC.pure (n:Int):BI (byteC n)=true:=rfl
end Go.Proofs.YtgkmefoghbjfnaaGreat
