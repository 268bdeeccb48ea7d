/- A part. -/
import Derived.Test.YtdagmocgcanknaaGreatVmW
set_option linter.unusedSimpArgs false
set_option linter.unusedVariables false
namespace Go.Proofs.YtdagmocgcanknaaGreat
open Go.Vm
def intC (n:Int):List Cl:=[.v (.int .i64 n)]
@[go_sem] theorem zf (n:Int):intC n = [.v (.int .i64 n)]:=rfl
def byteC (n:Int):List Cl:=[.v (.int .u8 n)]
@[go_sem] theorem PI (n:Int):byteC n = [.v (.int .u8 n)]:=rfl
def sq (x:Int) (k:Int->Int):Int:=if x<0 then -1 else k x
theorem AGo {x:Int} {k:Int->Int} (h:x<0):sq x k = -1:=aV h
theorem AGp {x:Int} {k:Int->Int} (h:¬ x<0):sq x k=k x:=aR h
def Fq (n:Nat) (l:Int):Int:=if l-n<0 then -1 else l-n
theorem zg {n:Nat} {l:Int} (h:l-n<0):Fq n l = -1:=aV h
theorem lg {n:Nat} {l:Int} (h:¬ l-n<0):Fq n l=l-n:=aR h
def YB {α:Type} (f:α->Int->Int):List α->Int->Int
 | [],l=>l
 | x::xs,l=>sq (f x l) (YB f xs)
def Dj {α:Type} (f:α->Int->Int) (xs:List α) (l:Int):Int:=sq (Fq xs.length l) (YB f xs)
def fitS {α:Type} (F:α->Prop) (xs:List α):Prop:=xs.length<=1048576/\∀ x∈xs,F x
theorem CJ {n:Nat} {l:Int} (h:0<=Fq n l) (hl:l<=1048576):n<=1048576/\Fq n l<=l:=by unfold Fq at *;split at h<;>simp_all<;>omega
theorem Ac {x:Int} {k:Int->Int} (h:0<=sq x k):0<=x/\0<=k x/\sq x k=k x:=by
 unfold sq at *;split at h
 .omega
 .rename_i hx;exact⟨AOl,h,aR hx⟩
theorem lh {α:Type} {f:α->Int->Int} {F:α->Prop}:∀ (xs:List α) (_:∀ x∈xs,∀ l,0<=f x l->l<=1048576->F x/\f x l<=l) (l:Int),0<=YB f xs l->l<=1048576->(∀ x∈xs,F x)/\YB f xs l<=l
 | [],_,l,_,_=>⟨AOm,by simp[YB]⟩
 | x::xs,hf,l,h,hl=>by simp only[YB] at h ⊢;obtain⟨h1,h2,h3⟩:=Ac h;obtain⟨g1,g2⟩:=hf x AOm l h1 hl;obtain⟨g3,g4⟩:=lh xs (fun y hy=>hf y AP_) _ h2 AOl;exact⟨by simp only[TM,forall_eq_or_imp]; exact⟨g1,g3⟩,by rw[h3]; omega⟩
theorem Dv {α:Type} {f:α->Int->Int} {F:α->Prop} (xs:List α) (hf:∀ x∈xs,∀ l,0<=f x l->l<=1048576->F x/\f x l<=l) {l:Int} (h:0<=Dj f xs l) (hl:l<=1048576):fitS F xs/\Dj f xs l<=l:=by unfold Dj at h ⊢;obtain⟨h1,h2,h3⟩:=Ac h;obtain⟨g1,g2⟩:=CJ h1 hl;obtain⟨g3,g4⟩:=lh xs hf _ h2 AOl;exact⟨⟨g1,g3⟩,by rw[h3]; omega⟩
structure DVal where
 ty:Int
 n:Int
 s:ByteArray
def DVal.c (d:DVal):List Cl:=[.v (.int .i64 d.ty)]++([.v (.int .i64 d.n)]++([.v (.string d.s)]))
@[go_sem] theorem DVal.c_eq (d:DVal):d.c = [.v (.int .i64 d.ty)]++([.v (.int .i64 d.n)]++([.v (.string d.s)])):=rfl
def BD (d:DVal) (l:Int):Int:=sq (Fq d.s.size l) fun l=>l
theorem II (d:DVal) (l:Int):BD d l=sq (Fq d.s.size l) fun l=>l:=rfl
structure DRow where
 id:Int
 l:List DVal
def DRow.c (d:DRow):List Cl:=[.v (.int .i64 d.id)]++([.sl (d.l.map DVal.c)])
@[go_sem] theorem DRow.c_eq (d:DRow):d.c = [.v (.int .i64 d.id)]++([.sl (d.l.map DVal.c)]):=rfl
def J6 (d:DRow) (l:Int):Int:=sq (Dj BD d.l l) fun l=>l
theorem U6 (d:DRow) (l:Int):J6 d l=sq (Dj BD d.l l) fun l=>l:=rfl
inductive DPred where
 | mk (kind:Int) (col:Int) (op:Int) (v:DVal) (l:List DPred)
def DPred.kind:DPred->Int | .mk kind _ _ _ _=>kind
def DPred.col:DPred->Int | .mk _ col _ _ _=>col
def DPred.op:DPred->Int | .mk _ _ op _ _=>op
def DPred.v:DPred->DVal | .mk _ _ _ v _=>v
def DPred.l:DPred->List DPred | .mk _ _ _ _ l=>l
mutual
def DPred.c:DPred->List Cl
 | .mk kind col op v l=>[.v (.int .i64 kind)]++([.v (.int .i64 col)]++([.v (.int .i64 op)]++(v.c++([.sl (DPred.cs l)]))))
def DPred.cs:List DPred->List (List Cl)
 | []=>[]
 | x::xs=>x.c::DPred.cs xs
end
theorem DPred.cs_eq:∀ l:List DPred,DPred.cs l=l.map DPred.c
 | []=>by simp only[DPred.cs,ap]
 | x::xs=>by simp only[DPred.cs,ao,DPred.cs_eq xs]
@[go_sem] theorem DPred.c_eq (d:DPred):d.c = [.v (.int .i64 d.kind)]++([.v (.int .i64 d.col)]++([.v (.int .i64 d.op)]++(d.v.c++([.sl (d.l.map DPred.c)])))):=by cases d;simp only[DPred.c,DPred.cs_eq,DPred.kind,DPred.col,DPred.op,DPred.v,DPred.l]
mutual
def CS:DPred->Int->Int
 | .mk kind col op v l,m0=>sq ((BD v) m0) fun m0=>sq ((fun m=>sq (Fq l.length m) (TC l)) m0) fun m0=>m0
def TC:List DPred->Int->Int
 | [],l=>l
 | x::xs,l=>sq (CS x l) (TC xs)
end
theorem Zp:∀ (l:List DPred) (m:Int),TC l m=YB CS l m
 | [],m=>by simp only[TC,YB]
 | x::xs,m=>by simp only[TC,YB];congr 1;funext m;exact Zp xs m
theorem Js (d:DPred) (l:Int):CS d l=sq (BD d.v l) fun l=>sq (Dj CS d.l l) fun l=>l:=by
 have h:TC=YB CS:=by funext l m; exact Zp l m
 cases d;simp only[CS,Dj,h,DPred.kind,DPred.col,DPred.op,DPred.v,DPred.l]
structure DQuery where
 kind:Int
 p:DPred
 col:Int
 out:List Int
def DQuery.c (d:DQuery):List Cl:=[.v (.int .i64 d.kind)]++(d.p.c++([.v (.int .i64 d.col)]++([.sl (d.out.map intC)])))
@[go_sem] theorem DQuery.c_eq (d:DQuery):d.c = [.v (.int .i64 d.kind)]++(d.p.c++([.v (.int .i64 d.col)]++([.sl (d.out.map intC)]))):=rfl
def ES (d:DQuery) (l:Int):Int:=sq (CS d.p l) fun l=>sq (Fq d.out.length l) fun l=>l
theorem Kt (d:DQuery) (l:Int):ES d l=sq (CS d.p l) fun l=>sq (Fq d.out.length l) fun l=>l:=rfl
structure DResult where
 rows:List DRow
 n:Int
 has:Bool
 v:DVal
def DResult.c (d:DResult):List Cl:=[.sl (d.rows.map DRow.c)]++([.v (.int .i64 d.n)]++([.v (.bool d.has)]++(d.v.c)))
@[go_sem] theorem DResult.c_eq (d:DResult):d.c = [.sl (d.rows.map DRow.c)]++([.v (.int .i64 d.n)]++([.v (.bool d.has)]++(d.v.c))):=rfl
def L6 (d:DResult) (l:Int):Int:=sq (Dj J6 d.rows l) fun l=>sq (BD d.v l) fun l=>l
theorem OM (d:DResult) (l:Int):L6 d l=sq (Dj J6 d.rows l) fun l=>sq (BD d.v l) fun l=>l:=rfl
structure DSlot where
 ins:Int
 l:List DVal
def DSlot.c (d:DSlot):List Cl:=[.v (.int .i64 d.ins)]++([.sl (d.l.map DVal.c)])
@[go_sem] theorem DSlot.c_eq (d:DSlot):d.c = [.v (.int .i64 d.ins)]++([.sl (d.l.map DVal.c)]):=rfl
def MN (d:DSlot) (l:Int):Int:=sq (Dj BD d.l l) fun l=>l
theorem TD (d:DSlot) (l:Int):MN d l=sq (Dj BD d.l l) fun l=>l:=rfl
structure DChunk where
 next:Int
 l:List DSlot
def DChunk.c (d:DChunk):List Cl:=[.v (.int .i64 d.next)]++([.sl (d.l.map DSlot.c)])
@[go_sem] theorem DChunk.c_eq (d:DChunk):d.c = [.v (.int .i64 d.next)]++([.sl (d.l.map DSlot.c)]):=rfl
def Ld (d:DChunk) (l:Int):Int:=sq (Dj MN d.l l) fun l=>l
theorem P8 (d:DChunk) (l:Int):Ld d l=sq (Dj MN d.l l) fun l=>l:=rfl
structure DBuf where
 gen:Int
 kind:Int
 c0:DChunk
 g:List Int
def DBuf.c (d:DBuf):List Cl:=[.v (.int .i64 d.gen)]++([.v (.int .i64 d.kind)]++(d.c0.c++([.sl (d.g.map byteC)])))
@[go_sem] theorem DBuf.c_eq (d:DBuf):d.c = [.v (.int .i64 d.gen)]++([.v (.int .i64 d.kind)]++(d.c0.c++([.sl (d.g.map byteC)]))):=rfl
def Hz (d:DBuf) (l:Int):Int:=sq (Ld d.c0 l) fun l=>sq (Fq d.g.length l) fun l=>l
theorem U7 (d:DBuf) (l:Int):Hz d l=sq (Ld d.c0 l) fun l=>sq (Fq d.g.length l) fun l=>l:=rfl
structure DDead where
 buf:Int
 gen:Int
 at0:Int
def DDead.c (d:DDead):List Cl:=[.v (.int .i64 d.buf)]++([.v (.int .i64 d.gen)]++([.v (.int .i64 d.at0)]))
@[go_sem] theorem DDead.c_eq (d:DDead):d.c = [.v (.int .i64 d.buf)]++([.v (.int .i64 d.gen)]++([.v (.int .i64 d.at0)])):=rfl
structure DRef where
 buf:Int
 gen:Int
 kind:Int
 first:Int
 many:Int
def DRef.c (d:DRef):List Cl:=[.v (.int .i64 d.buf)]++([.v (.int .i64 d.gen)]++([.v (.int .i64 d.kind)]++([.v (.int .i64 d.first)]++([.v (.int .i64 d.many)]))))
@[go_sem] theorem DRef.c_eq (d:DRef):d.c = [.v (.int .i64 d.buf)]++([.v (.int .i64 d.gen)]++([.v (.int .i64 d.kind)]++([.v (.int .i64 d.first)]++([.v (.int .i64 d.many)])))):=rfl
structure DDir where
 ver:Int
 l:List DRef
def DDir.c (d:DDir):List Cl:=[.v (.int .i64 d.ver)]++([.sl (d.l.map DRef.c)])
@[go_sem] theorem DDir.c_eq (d:DDir):d.c = [.v (.int .i64 d.ver)]++([.sl (d.l.map DRef.c)]):=rfl
def H5 (d:DDir) (l:Int):Int:=sq (Fq d.l.length l) fun l=>l
theorem Zq (d:DDir) (l:Int):H5 d l=sq (Fq d.l.length l) fun l=>l:=rfl
structure DTask where
 op:Int
 pc:Int
 h:Int
 r:List DVal
 id:Int
 q:DQuery
 ts:Int
 ver:Int
 l:List DRef
 i:Int
 j:Int
 s:Int
 at0:Int
 own:Int
 won:Bool
 got:List DRow
def DTask.c (d:DTask):List Cl:=[.v (.int .i64 d.op)]++([.v (.int .i64 d.pc)]++([.v (.int .i64 d.h)]++([.sl (d.r.map DVal.c)]++([.v (.int .i64 d.id)]++(d.q.c++([.v (.int .i64 d.ts)]++([.v (.int .i64 d.ver)]++([.sl (d.l.map DRef.c)]++([.v (.int .i64 d.i)]++([.v (.int .i64 d.j)]++([.v (.int .i64 d.s)]++([.v (.int .i64 d.at0)]++([.v (.int .i64 d.own)]++([.v (.bool d.won)]++([.sl (d.got.map DRow.c)])))))))))))))))
@[go_sem] theorem DTask.c_eq (d:DTask):d.c = [.v (.int .i64 d.op)]++([.v (.int .i64 d.pc)]++([.v (.int .i64 d.h)]++([.sl (d.r.map DVal.c)]++([.v (.int .i64 d.id)]++(d.q.c++([.v (.int .i64 d.ts)]++([.v (.int .i64 d.ver)]++([.sl (d.l.map DRef.c)]++([.v (.int .i64 d.i)]++([.v (.int .i64 d.j)]++([.v (.int .i64 d.s)]++([.v (.int .i64 d.at0)]++([.v (.int .i64 d.own)]++([.v (.bool d.won)]++([.sl (d.got.map DRow.c)]))))))))))))))):=rfl
def JO (d:DTask) (l:Int):Int:=sq (Dj BD d.r l) fun l=>sq (ES d.q l) fun l=>sq (Fq d.l.length l) fun l=>sq (Dj J6 d.got l) fun l=>l
theorem TE (d:DTask) (l:Int):JO d l=sq (Dj BD d.r l) fun l=>sq (ES d.q l) fun l=>sq (Fq d.l.length l) fun l=>sq (Dj J6 d.got l) fun l=>l:=rfl
structure DDeed where
 op:Int
 task:Int
 r:List DVal
 id:Int
 q:DQuery
 res:DResult
 code:Int
 stamp:Int
 inv:Int
 lin:Int
 ret:Int
def DDeed.c (d:DDeed):List Cl:=[.v (.int .i64 d.op)]++([.v (.int .i64 d.task)]++([.sl (d.r.map DVal.c)]++([.v (.int .i64 d.id)]++(d.q.c++(d.res.c++([.v (.int .i64 d.code)]++([.v (.int .i64 d.stamp)]++([.v (.int .i64 d.inv)]++([.v (.int .i64 d.lin)]++([.v (.int .i64 d.ret)]))))))))))
@[go_sem] theorem DDeed.c_eq (d:DDeed):d.c = [.v (.int .i64 d.op)]++([.v (.int .i64 d.task)]++([.sl (d.r.map DVal.c)]++([.v (.int .i64 d.id)]++(d.q.c++(d.res.c++([.v (.int .i64 d.code)]++([.v (.int .i64 d.stamp)]++([.v (.int .i64 d.inv)]++([.v (.int .i64 d.lin)]++([.v (.int .i64 d.ret)])))))))))):=rfl
def Ku (d:DDeed) (l:Int):Int:=sq (Dj BD d.r l) fun l=>sq (ES d.q l) fun l=>sq (L6 d.res l) fun l=>l
theorem TF (d:DDeed) (l:Int):Ku d l=sq (Dj BD d.r l) fun l=>sq (ES d.q l) fun l=>sq (L6 d.res l) fun l=>l:=rfl
structure DConf where
 cols:List Int
 slots:Int
 bufs:Int
def DConf.c (d:DConf):List Cl:=[.sl (d.cols.map intC)]++([.v (.int .i64 d.slots)]++([.v (.int .i64 d.bufs)]))
@[go_sem] theorem DConf.c_eq (d:DConf):d.c = [.sl (d.cols.map intC)]++([.v (.int .i64 d.slots)]++([.v (.int .i64 d.bufs)])):=rfl
def Ee (d:DConf) (l:Int):Int:=sq (Fq d.cols.length l) fun l=>l
theorem XC (d:DConf) (l:Int):Ee d l=sq (Fq d.cols.length l) fun l=>l:=rfl
structure DWorld where
 c0:DConf
 time:Int
 t:Int
 e:Int
 d:DDir
 b:List DBuf
 m:List Int
 x:List DDead
 p:List Int
 tasks:List DTask
 deeds:List DDeed
def DWorld.c (d:DWorld):List Cl:=d.c0.c++([.v (.int .i64 d.time)]++([.v (.int .i64 d.t)]++([.v (.int .i64 d.e)]++(d.d.c++([.sl (d.b.map DBuf.c)]++([.sl (d.m.map intC)]++([.sl (d.x.map DDead.c)]++([.sl (d.p.map intC)]++([.sl (d.tasks.map DTask.c)]++([.sl (d.deeds.map DDeed.c)]))))))))))
@[go_sem] theorem DWorld.c_eq (d:DWorld):d.c=d.c0.c++([.v (.int .i64 d.time)]++([.v (.int .i64 d.t)]++([.v (.int .i64 d.e)]++(d.d.c++([.sl (d.b.map DBuf.c)]++([.sl (d.m.map intC)]++([.sl (d.x.map DDead.c)]++([.sl (d.p.map intC)]++([.sl (d.tasks.map DTask.c)]++([.sl (d.deeds.map DDeed.c)])))))))))):=rfl
def Ig (d:DWorld) (l:Int):Int:=sq (Ee d.c0 l) fun l=>sq (H5 d.d l) fun l=>sq (Dj Hz d.b l) fun l=>sq (Fq d.m.length l) fun l=>sq (Fq d.x.length l) fun l=>sq (Fq d.p.length l) fun l=>sq (Dj JO d.tasks l) fun l=>sq (Dj Ku d.deeds l) fun l=>l
theorem Kv (d:DWorld) (l:Int):Ig d l=sq (Ee d.c0 l) fun l=>sq (H5 d.d l) fun l=>sq (Dj Hz d.b l) fun l=>sq (Fq d.m.length l) fun l=>sq (Fq d.x.length l) fun l=>sq (Fq d.p.length l) fun l=>sq (Dj JO d.tasks l) fun l=>sq (Dj Ku d.deeds l) fun l=>l:=rfl
def G7 (d:DVal):Prop:=d.s.size<=1048576
theorem TG (d:DVal):G7 d=(d.s.size<=1048576):=rfl
theorem D_ (d:DVal) (l:Int) (h0:0<=BD d l) (hl:l<=1048576):G7 d/\BD d l<=l:=by rw[II] at h0 ⊢;rw[TG];exact AMA
def Dn (d:DRow):Prop:=fitS G7 d.l
theorem JB (d:DRow):Dn d=(fitS G7 d.l):=rfl
theorem NS (d:DRow) (l:Int) (h0:0<=J6 d l) (hl:l<=1048576):Dn d/\J6 d l<=l:=by rw[U6] at h0 ⊢;rw[JB];exact ANE
mutual
def BF:DPred->Prop
 | .mk kind col op v l=>G7 v/\(l.length<=1048576/\Q3 l)
def Q3:List DPred->Prop
 | []=>True
 | x::xs=>BF x/\Q3 xs
end
theorem YC:∀ l:List DPred,Q3 l=∀ x∈l,BF x
 | []=>by simp[Q3]
 | x::xs=>by simp[Q3,YC xs]
theorem Bc (d:DPred):BF d=(G7 d.v/\fitS BF d.l):=by cases d;simp only[BF,fitS,YC,DPred.kind,DPred.col,DPred.op,DPred.v,DPred.l]
theorem lq (d:DPred) (hx:∀ x∈d.l,∀ l,0<=CS x l->l<=1048576->BF x/\CS x l<=l) (l:Int) (h0:0<=CS d l) (hl:l<=1048576):BF d/\CS d l<=l:=by rw[Js] at h0 ⊢;rw[Bc];obtain⟨a0,h1,e0⟩:=Ac h0;obtain⟨g0,b0⟩:=D_ d.v _ a0 AOl;obtain⟨a1,h2,e1⟩:=Ac h1;obtain⟨g1,b1⟩:=Dv d.l hx a1 AOl;exact⟨⟨g0,g1⟩,by rw[e0,e1]; omega⟩
theorem YD:∀ (n:Nat) (d:DPred),SizeOf.sizeOf d<=n->∀ l,0<=CS d l->l<=1048576->BF d/\CS d l<=l
 | 0,d,h=>AP6
 | n+1,d,h=>lq d fun x hx=>YD n x (by
  have h1:SizeOf.sizeOf x<SizeOf.sizeOf d.l:=aar hx;have h2:SizeOf.sizeOf d.l<SizeOf.sizeOf d:=APy;omega)
theorem H8 (d:DPred) (l:Int) (h:0<=CS d l) (hl:l<=1048576):BF d/\CS d l<=l:=YD _ d (aG _) l h hl
def En (d:DQuery):Prop:=BF d.p/\d.out.length<=1048576
theorem GY (d:DQuery):En d=(BF d.p/\d.out.length<=1048576):=rfl
theorem OO (d:DQuery) (l:Int) (h0:0<=ES d l) (hl:l<=1048576):En d/\ES d l<=l:=by rw[Kt] at h0 ⊢;rw[GY];obtain⟨a0,h1,e0⟩:=Ac h0;obtain⟨g0,b0⟩:=H8 d.p _ a0 AOl;exact ANb
def Kw (d:DResult):Prop:=fitS Dn d.rows/\G7 d.v
theorem NE (d:DResult):Kw d=(fitS Dn d.rows/\G7 d.v):=rfl
theorem U8 (d:DResult) (l:Int) (h0:0<=L6 d l) (hl:l<=1048576):Kw d/\L6 d l<=l:=by rw[OM] at h0 ⊢;rw[NE];obtain⟨a0,h1,e0⟩:=Ac h0;obtain⟨g0,b0⟩:=Dv d.rows (fun x _=>NS x) a0 AOl;obtain⟨a1,h2,e1⟩:=Ac h1;obtain⟨g1,b1⟩:=D_ d.v _ a1 AOl;exact⟨⟨g0,g1⟩,by rw[e0,e1]; omega⟩
def OQ (d:DSlot):Prop:=fitS G7 d.l
theorem Jk (d:DSlot):OQ d=(fitS G7 d.l):=rfl
theorem UW (d:DSlot) (l:Int) (h0:0<=MN d l) (hl:l<=1048576):OQ d/\MN d l<=l:=by rw[TD] at h0 ⊢;rw[Jk];exact ANE
def FD (d:DChunk):Prop:=fitS OQ d.l
theorem CO (d:DChunk):FD d=(fitS OQ d.l):=rfl
theorem YE (d:DChunk) (l:Int) (h0:0<=Ld d l) (hl:l<=1048576):FD d/\Ld d l<=l:=by rw[P8] at h0 ⊢;rw[CO];obtain⟨a0,h1,e0⟩:=Ac h0;obtain⟨g0,b0⟩:=Dv d.l (fun x _=>UW x) a0 AOl;exact⟨g0,by rw[e0]; omega⟩
def Ef (d:DBuf):Prop:=FD d.c0/\d.g.length<=1048576
theorem GR (d:DBuf):Ef d=(FD d.c0/\d.g.length<=1048576):=rfl
theorem Ky (d:DBuf) (l:Int) (h0:0<=Hz d l) (hl:l<=1048576):Ef d/\Hz d l<=l:=by rw[U7] at h0 ⊢;rw[GR];obtain⟨a0,h1,e0⟩:=Ac h0;obtain⟨g0,b0⟩:=YE d.c0 _ a0 AOl;exact ANb
def UX (d:DDir):Prop:=d.l.length<=1048576
theorem GU (d:DDir):UX d=(d.l.length<=1048576):=rfl
theorem PK (d:DDir) (l:Int) (h0:0<=H5 d l) (hl:l<=1048576):UX d/\H5 d l<=l:=by rw[Zq] at h0 ⊢;rw[GU];exact AMA
def Ei (d:DTask):Prop:=fitS G7 d.r/\En d.q/\d.l.length<=1048576/\fitS Dn d.got
theorem Dy (d:DTask):Ei d=(fitS G7 d.r/\En d.q/\d.l.length<=1048576/\fitS Dn d.got):=rfl
theorem Jl (d:DTask) (l:Int) (h0:0<=JO d l) (hl:l<=1048576):Ei d/\JO d l<=l:=by rw[TE] at h0 ⊢;rw[Dy];obtain⟨a0,h1,e0⟩:=Ac h0;obtain⟨g0,b0⟩:=Dv d.r (fun x _=>D_ x) a0 AOl;obtain⟨a1,h2,e1⟩:=Ac h1;obtain⟨g1,b1⟩:=OO d.q _ a1 AOl;obtain⟨a2,h3,e2⟩:=Ac h2;obtain⟨g2,b2⟩:=CJ a2 AOl;obtain⟨a3,h4,e3⟩:=Ac h3;obtain⟨g3,b3⟩:=Dv d.got (fun x _=>NS x) a3 AOl;exact⟨⟨g0,g1,g2,g3⟩,by rw[e0,e1,e2,e3]; omega⟩
def Ej (d:DDeed):Prop:=fitS G7 d.r/\En d.q/\Kw d.res
theorem G8 (d:DDeed):Ej d=(fitS G7 d.r/\En d.q/\Kw d.res):=rfl
theorem NZ (d:DDeed) (l:Int) (h0:0<=Ku d l) (hl:l<=1048576):Ej d/\Ku d l<=l:=by rw[TF] at h0 ⊢;rw[G8];obtain⟨a0,h1,e0⟩:=Ac h0;obtain⟨g0,b0⟩:=Dv d.r (fun x _=>D_ x) a0 AOl;obtain⟨a1,h2,e1⟩:=Ac h1;obtain⟨g1,b1⟩:=OO d.q _ a1 AOl;obtain⟨a2,h3,e2⟩:=Ac h2;obtain⟨g2,b2⟩:=U8 d.res _ a2 AOl;exact⟨⟨g0,g1,g2⟩,by rw[e0,e1,e2]; omega⟩
def P9 (d:DConf):Prop:=d.cols.length<=1048576
theorem Jm (d:DConf):P9 d=(d.cols.length<=1048576):=rfl
theorem Na (d:DConf) (l:Int) (h0:0<=Ee d l) (hl:l<=1048576):P9 d/\Ee d l<=l:=by rw[XC] at h0 ⊢;rw[Jm];exact AMA
def AU (d:DWorld):Prop:=P9 d.c0/\UX d.d/\fitS Ef d.b/\d.m.length<=1048576/\d.x.length<=1048576/\d.p.length<=1048576/\fitS Ei d.tasks/\fitS Ej d.deeds
theorem AZ (d:DWorld):AU d=(P9 d.c0/\UX d.d/\fitS Ef d.b/\d.m.length<=1048576/\d.x.length<=1048576/\d.p.length<=1048576/\fitS Ei d.tasks/\fitS Ej d.deeds):=rfl
theorem OT (d:DWorld) (l:Int) (h0:0<=Ig d l) (hl:l<=1048576):AU d/\Ig d l<=l:=by rw[Kv] at h0 ⊢;rw[AZ];obtain⟨a0,h1,e0⟩:=Ac h0;obtain⟨g0,b0⟩:=Na d.c0 _ a0 AOl;obtain⟨a1,h2,e1⟩:=Ac h1;obtain⟨g1,b1⟩:=PK d.d _ a1 AOl;obtain⟨a2,h3,e2⟩:=Ac h2;obtain⟨g2,b2⟩:=Dv d.b (fun x _=>Ky x) a2 AOl;obtain⟨a3,h4,e3⟩:=Ac h3;obtain⟨g3,b3⟩:=CJ a3 AOl;obtain⟨a4,h5,e4⟩:=Ac h4;obtain⟨g4,b4⟩:=CJ a4 AOl;obtain⟨a5,h6,e5⟩:=Ac h5;obtain⟨g5,b5⟩:=CJ a5 AOl;obtain⟨a6,h7,e6⟩:=Ac h6;obtain⟨g6,b6⟩:=Dv d.tasks (fun x _=>Jl x) a6 AOl;obtain⟨a7,h8,e7⟩:=Ac h7;obtain⟨g7,b7⟩:=Dv d.deeds (fun x _=>NZ x) a7 AOl;exact⟨⟨g0,g1,g2,g3,g4,g5,g6,g7⟩,by rw[e0,e1,e2,e3,e4,e5,e6,e7]; omega⟩
theorem DVal.pure (d:DVal):DK d.c=true:=by simp[DVal.c_eq,DK,AB]
theorem DRow.pure (d:DRow):DK d.c=true:=by simp[DRow.c_eq,DK,AB]
theorem DPred.pure (d:DPred):DK d.c=true:=by have h0:=DVal.pure d.v;rw[DK] at h0;simp[DPred.c_eq,DK,AB,h0]
theorem DQuery.pure (d:DQuery):DK d.c=true:=by have h0:=DPred.pure d.p;rw[DK] at h0;simp[DQuery.c_eq,DK,AB,h0]
theorem DResult.pure (d:DResult):DK d.c=true:=by have h0:=DVal.pure d.v;rw[DK] at h0;simp[DResult.c_eq,DK,AB,h0]
theorem DSlot.pure (d:DSlot):DK d.c=true:=by simp[DSlot.c_eq,DK,AB]
theorem DChunk.pure (d:DChunk):DK d.c=true:=by simp[DChunk.c_eq,DK,AB]
theorem DBuf.pure (d:DBuf):DK d.c=true:=by have h0:=DChunk.pure d.c0;rw[DK] at h0;simp[DBuf.c_eq,DK,AB,h0]
theorem DDead.pure (d:DDead):DK d.c=true:=by simp[DDead.c_eq,DK,AB]
theorem DRef.pure (d:DRef):DK d.c=true:=by simp[DRef.c_eq,DK,AB]
theorem DDir.pure (d:DDir):DK d.c=true:=by simp[DDir.c_eq,DK,AB]
theorem DTask.pure (d:DTask):DK d.c=true:=by have h0:=DQuery.pure d.q;rw[DK] at h0;simp[DTask.c_eq,DK,AB,h0]
theorem DDeed.pure (d:DDeed):DK d.c=true:=by have h0:=DQuery.pure d.q;rw[DK] at h0;have h1:=DResult.pure d.res;rw[DK] at h1;simp[DDeed.c_eq,DK,AB,h0,h1]
theorem DConf.pure (d:DConf):DK d.c=true:=by simp[DConf.c_eq,DK,AB]
theorem DWorld.pure (d:DWorld):DK d.c=true:=by have h0:=DConf.pure d.c0;rw[DK] at h0;have h1:=DDir.pure d.d;rw[DK] at h1;simp[DWorld.c_eq,DK,AB,h0,h1]
theorem intC.pure (n:Int):DK (intC n)=true:=rfl
theorem byteC.pure (n:Int):DK (byteC n)=true:=rfl
