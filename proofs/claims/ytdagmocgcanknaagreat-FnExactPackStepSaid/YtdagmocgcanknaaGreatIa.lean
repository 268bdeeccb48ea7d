/- A part. -/
import Derived.Test.YtdagmocgcanknaaGreatFa
set_option linter.unusedSimpArgs false
set_option linter.unusedVariables false
set_option maxHeartbeats 1000000
set_option maxRecDepth 10000
open Go.Proofs.Tryz
namespace Go.Proofs.YtdagmocgcanknaaGreat
open Go.Vm
def Ae (x a b:Int):Bool:=decide (a<=x)&&decide (x<=b)
theorem AP (x a b:Int):Ctr prog 20 [.c (.v (.int .i64 x)),.c (.v (.int .i64 a)),.c (.v (.int .i64 b))] [.val (.c (.v (.bool (Ae x a b))))]:=by refine CM call20 func20 ntmps20 results20 fun _=>?_;exact AM_
theorem AL (x a b:Int):Ctr prog 87 [.c (.v (.int .i64 x)),.c (.v (.int .i64 a)),.c (.v (.int .i64 b))] [.val (.c (.v (.bool (Ae x a b))))]:=by refine CM call87 func87 ntmps87 results87 fun _=>?_;exact AM_
def EE (n:Int):Bool:=Ae n (-1000000000) 1000000000
theorem JD (x:Int):Ctr prog 284 [.c (.v (.int .i64 x))] [.val (.c (.v (.bool (EE x))))]:=by refine CM call284 func284 ntmps284 results284 fun _=>?_;simp only[go_sem];refine AAO _ (AP _ _ _) fun _=>?_;simp only[go_sem,EE]
theorem Nj (x:Int):Ctr prog 300 [.c (.v (.int .i64 x))] [.val (.c (.v (.bool (EE x))))]:=by refine CM call300 func300 ntmps300 results300 fun _=>?_;simp only[go_sem];refine AAO _ (AL _ _ _) fun _=>?_;simp only[go_sem,EE]
def Y9 (c:UInt8):Bool:=Ae c.toNat 97 122||Ae c.toNat 48 57
def VT (s:ByteArray):Bool:=decide (∀ i (h:i<s.size),Y9 s[i]=true)
def BX (d:DVal):Bool:=if d.ty=1 then EE d.n&&(d.s.toList==({ data:=#[] }:ByteArray).toList) else(d.ty==2)&&(d.n==0)&&decide (d.s.size<=6)&&VT d.s
theorem Iu (d:DVal):Ctr prog 279 [.agg d.c] [.val (.c (.v (.bool (BX d))))]:=by
 refine CM call279 func279 ntmps279 results279 fun hw=>?_;have hs:d.s.size<=9223372036854775807:=yw hw.1.2.2.1;refine AOd (fun h=>?_) fun h=>?_
 .have h1:d.ty=1:=by simpa using h
  simp only[go_sem];refine AAO _ (JD _) fun _=>?_;exact ANc
 .have h1:¬ d.ty=1:=by simpa using h
  simp only[go_sem];refine ABf 1 [1,3] (A:=Nat) (fun k=>⟨56,[(1,.lp 0 0 0),(3,.c (.v (.int .i64 k)))],[⟨112,3,[d.c],true,true⟩]⟩) (fun k=>k<=d.s.size/\k<=7/\∀ i (h:i<d.s.size),i<k->Y9 d.s[i]=true) (fun k=>d.s.size-k) 0 ⟨⟨rfl,rfl⟩,rfl,aq _,AOl,fun i _ hi=>AOl⟩ ?_;rintro k ⟨hk,hk7,hok⟩;simp only[go_sem];have hW (c:UInt8):IntKind.i64.wrap (c.toNat:Int)=c.toNat:=wrap_i64 AOl (by have:=c.toNat_lt; omega)
  have hfin:k=d.s.size\/(¬ k<=6)->((d.ty==2)&&(d.n==0)&&decide ((d.s.size:Int)<=6))=BX d:=by
   intro hor;simp only[BX,aR h1];by_cases h6:d.s.size<=6
   .have ht:VT d.s=true:=by simp only[VT,aQ];intro i hi;exact hok i hi AOl
    grind
   .grind
  refine ADQ (fun h=>?_) (fun h=>?_)
  .have hk':k<d.s.size:=by simpa using h
   have hb:d.s[k]?=some d.s[k]:=getElem?_pos d.s k hk';simp only[go_sem,h,hk'];refine AAQ (fun h6=>?_) (fun h6=>?_)
   .have h6':k<=6:=by simp at h6; omega
    have hbad:Y9 d.s[k]=false->false=BX d:=by
     intro hc;have ht:VT d.s=false:=by simp only[VT,aaA];intro hall;rw[hall k hk'] at hc;cases hc
     simp[BX,aR h1,ht]
    simp only[go_sem,hb,hW];refine AAO _ (AP _ _ _) fun _=>?_;simp only[go_sem];refine ADQ (fun ha=>?_) (fun ha=>?_)
    .simp only[go_sem,hb,hW,ha];refine AAO _ (AP _ _ _) fun _=>?_;simp only[go_sem,hb,hW,ha];refine AAQ (fun hc=>?_) (fun hc=>?_)
     .simp only[go_sem];rw[hbad (by simp[Y9]; grind)]
     .simp only[go_sem,wrap_i64 (n:=(k:Int)+1) AOl AOl];exact AMr
    .simp only[go_sem,hb,hW,ha,wrap_i64 (n:=(k:Int)+1) AOl AOl];exact AMr
   .have hfin':=hfin (.inr AOo);simp only[go_sem];exact ALr
  .have hk':k=d.s.size:=by simp at h; omega
   have hfin':=hfin (.inl hk');simp only[go_sem,h];exact ALr
theorem AC1 (d:DVal) {k:Nat} (hk:k<d.s.size) (hc:Y9 d.s[k]=false) (h1:¬ d.ty=1):false=BX d:=by
 have ht:VT d.s=false:=by simp only[VT,aaA];intro hall;rw[hall k hk] at hc;cases hc
 simp[BX,aR h1,ht]
theorem D7 (d:DVal):Ctr prog 294 [.agg d.c] [.val (.c (.v (.bool (BX d))))]:=by
 refine CM call294 func294 ntmps294 results294 fun hw=>?_;have hs:d.s.size<=9223372036854775807:=yw hw.1.2.2.1;refine AOd (fun h=>?_) fun h=>?_
 .have h1:d.ty=1:=by simpa using h
  simp only[go_sem];refine AAO _ (Nj _) fun _=>?_;exact ANc
 .have h1:¬ d.ty=1:=by simpa using h
  simp only[go_sem];refine AAQ (fun h2=>?_) (fun h2=>?_)
  .have h2':d.ty=2:=by simpa using h2
   simp only[go_sem];refine ABf 1 [1,3] (A:=Nat) (fun k=>⟨66,[(1,.lp 0 0 0),(3,.c (.v (.int .i64 k)))],[⟨112,3,[d.c],true,true⟩]⟩) (fun k=>k<=d.s.size/\∀ i (h:i<d.s.size),i<k->Y9 d.s[i]=true) (fun k=>d.s.size-k) 0 ⟨⟨rfl,rfl⟩,rfl,aq _,fun i _ hi=>AOl⟩ ?_;rintro k ⟨hk,hok⟩;refine AOd (fun h=>?_) fun h=>?_
   .have hk':k<d.s.size:=by simpa using h
    have hb:d.s[k]?=some d.s[k]:=getElem?_pos d.s k hk'
    have hgood:Y9 d.s[k]=true->∀ i (h:i<d.s.size),i<k+1->Y9 d.s[i]=true:=by
     intro hg i hi hik;by_cases e:i=k
     .grind
     .grind
    rcases hA:decide ((d.s[k].toNat:Int)>=97) with _ | _<;>rcases hB:decide ((d.s[k].toNat:Int)<=122) with _ | _<;>rcases hC:decide ((d.s[k].toNat:Int)>=48) with _ | _<;>rcases hD:decide ((d.s[k].toNat:Int)<=57) with _ | _ <;>
     simp only[go_sem,hb,hA,hB,hC,hD,wrap_i64 (n:=(k:Int)+1) AOl AOl]<;>simp at hA hB hC hD<;>first
     | (rw[AC1 d hk' (by simp[Y9,Ae]; omega) h1]; done)
     | exact⟨k+1,⟨rfl,rfl⟩,rfl,⟨AOl,hgood (by simp[Y9,Ae]; omega)⟩,AOl⟩
   .have hk':k=d.s.size:=by simp at h; omega
    have ht:VT d.s=true:=by simp only[VT,aQ];intro i hi;exact hok i hi AOl
    simp only[go_sem];refine ADQ (fun e1=>?_) (fun e1=>?_)<;>simp only[go_sem,e1]<;>simp[BX,aR h1,ht]<;>simp at e1<;>simp[h2']<;>omega
  .have h2':¬ d.ty=2:=by simpa using h2
   simp only[go_sem];simp[BX,aR h1,h2']
def fits:List Int->List DVal->Bool
 | [],[]=>true
 | c::cs,v::vs=>BX v&&(v.ty==c)&&fits cs vs
 | _,_=>false
theorem bI:∀ (cs:List Int) (vs:List DVal),cs.length≠vs.length->fits cs vs=false
 | [],[],h=>APN
 | [],_::_,_=>rfl
 | _::_,[],_=>rfl
 | c::cs,v::vs,h=>by simp only[fits]; rw[bI cs vs APO]; simp
theorem jY (cs:List Int) (vs:List DVal) {k:Nat} (h1:k<cs.length) (h2:k<vs.length):fits (cs.drop k) (vs.drop k)=(BX vs[k]&&(vs[k].ty==cs[k])&&fits (cs.drop (k+1)) (vs.drop (k+1))):=by rw[aB h1,aB h2]; rfl
theorem QG (cs:List Int) (vs:List DVal):Ctr prog 230 [.c (.sl (cs.map intC)),.c (.sl (vs.map DVal.c))] [.val (.c (.v (.bool (fits cs vs))))]:=by
 refine CM call230 func230 ntmps230 results230 fun hw=>?_;have hlen:vs.length<=9223372036854775807:=by have:=hw.2.1.1; simpa [Go.maxLen] using this
 refine AOe (fun h=>?_) fun h=>?_
 .simp only[go_sem];grind [bI]
 .have he:cs.length=vs.length:=by simp at h; omega
  simp only[go_sem];refine ABf 0 [0,1,5] (A:=Nat) (fun k=>⟨35,[(0,.c (.sl (cs.map intC))),(1,.c (.sl (vs.map DVal.c))),(5,.c (.v (.int .i64 k)))],[]⟩) (fun k=>k<=vs.length/\fits (cs.drop k) (vs.drop k)=fits cs vs) (fun k=>vs.length-k) 0 ⟨⟨rfl,rfl⟩,rfl,aq _,rfl⟩ ?_;rintro k ⟨hk,hf⟩;refine AOe (fun h=>?_) fun h=>?_
  .have hk':k<vs.length:=by simpa using h
   have hk2:k<cs.length:=AOl;rw[jY cs vs hk2 hk'] at hf;simp only[go_sem];refine AAP ?_;simp only[go_sem,aa,AA _ hk',AA _ hk2,hk',hk2];refine CY (Iu vs[k]) ?_;exact AK5
  .exact ANO
theorem QH (cs:List Int) (vs:List DVal):Ctr prog 253 [.c (.sl (cs.map intC)),.c (.sl (vs.map DVal.c))] [.val (.c (.v (.bool (fits cs vs))))]:=by
 refine CM call253 func253 ntmps253 results253 fun hw=>?_;have hlen:vs.length<=9223372036854775807:=by have:=hw.2.1.1; simpa [Go.maxLen] using this
 refine AOe (fun h=>?_) fun h=>?_
 .simp only[go_sem];grind [bI]
 .have he:cs.length=vs.length:=by simp at h; omega
  simp only[go_sem,aa];refine ABf 0 [0,12,13,14] (A:=Nat) (fun k=>⟨32,[(0,.c (.sl (cs.map intC))),(12,.c (.sl (vs.map DVal.c))),(13,.c (.v (.int .i64 vs.length))),(14,.c (.v (.int .i64 k)))],[]⟩) (fun k=>k<=vs.length/\fits (cs.drop k) (vs.drop k)=fits cs vs) (fun k=>vs.length-k) 0 ⟨⟨rfl,rfl⟩,rfl,aq _,rfl⟩ ?_;rintro k ⟨hk,hf⟩;refine AOe (fun h=>?_) fun h=>?_
  .have hk':k<vs.length:=by simpa using h
   have hk2:k<cs.length:=AOl;rw[jY cs vs hk2 hk'] at hf;simp only[go_sem,AA _ hk'];refine AAP ?_;simp only[go_sem,aa,AA _ hk',AA _ hk2,hk',hk2];refine CY (D7 vs[k]) ?_;exact AK5
  .exact ANO
def rowOk (cs:List Int) (r:DRow):Bool:=decide (r.id>=0)&&fits cs r.l
theorem rf (cs:List Int) (r:DRow):Ctr prog 237 [.c (.sl (cs.map intC)),.agg r.c] [.val (.c (.v (.bool (rowOk cs r))))]:=by
 refine CM call237 func237 ntmps237 results237 fun hw=>?_;simp only[go_sem];rcases hi:decide (r.id>=0) with _ | _
 .simp only[go_sem,hi]; simp only[rowOk,hi,ac]
 .simp only[go_sem,hi];refine AAO _ (QG cs r.l) fun _=>?_;simp only[go_sem,hi]; simp only[rowOk,hi,ah]
theorem rq (cs:List Int) (r:DRow):Ctr prog 263 [.c (.sl (cs.map intC)),.agg r.c] [.val (.c (.v (.bool (rowOk cs r))))]:=by
 refine CM call263 func263 ntmps263 results263 fun hw=>?_;simp only[go_sem];rcases hi:decide (r.id>=0) with _ | _
 .simp only[go_sem,hi]; simp only[rowOk,hi,ac]
 .simp only[go_sem,hi];refine AAO _ (QH cs r.l) fun _=>?_;simp only[go_sem,hi]; simp only[rowOk,hi,ah]
def RD (cs:List Int):Bool:=cs.all fun c=>Ae c 1 2
def FX (cs:List Int):Bool:=RD cs&&Ae cs.length 1 3
theorem bJ (cs:List Int) {k:Nat} (h:k<cs.length):RD (cs.drop k)=(Ae cs[k] 1 2&&RD (cs.drop (k+1))):=by rw[aB h]; rfl
theorem QI (cs:List Int):Ctr prog 145 [.c (.sl (cs.map intC))] [.val (.c (.v (.bool (FX cs))))]:=by
 refine CM call145 func145 ntmps145 results145 fun hw=>?_;have hlen:cs.length<=9223372036854775807:=APX;simp only[go_sem,aa];refine ABf 0 [0,3] (A:=Nat) (fun k=>⟨19,[(0,.c (.sl (cs.map intC))),(3,.c (.v (.int .i64 k)))],[]⟩) (fun k=>k<=cs.length/\RD (cs.drop k)=RD cs) (fun k=>cs.length-k) 0 ⟨⟨rfl,rfl⟩,rfl,aq _,rfl⟩ ?_;rintro k ⟨hk,hf⟩;refine AOe (fun h=>?_) fun h=>?_
 .have hk':k<cs.length:=by simpa using h
  rw[bJ cs hk'] at hf;simp only[go_sem,AA _ hk'];refine AAO _ (AP _ _ _) fun _=>?_;simp only[go_sem];rcases hi:Ae cs[k] 1 2 with _ | _
  .simp only[go_sem,hi];rw[hi,ac] at hf;simp only[FX,<- hf,ac]
  .simp only[go_sem,hi,wrap_i64 (n:=(k:Int)+1) AOl AOl];rw[hi,ah] at hf;exact⟨k+1,⟨rfl,rfl⟩,rfl,⟨AOl,hf⟩,AOl⟩
 .have hk':k=cs.length:=by simp at h; omega
  subst hk';simp only[go_sem,aa];refine AAO _ (AP _ _ _) fun _=>?_;simp only[go_sem];rw[aK] at hf;simp only[FX,<- hf]; simp[RD]
theorem QJ (cs:List Int):Ctr prog 177 [.c (.sl (cs.map intC))] [.val (.c (.v (.bool (FX cs))))]:=by
 refine CM call177 func177 ntmps177 results177 fun hw=>?_;have hlen:cs.length<=9223372036854775807:=APX;simp only[go_sem,aa];refine ABf 0 [0,5,6,7] (A:=Nat) (fun k=>⟨21,[(0,.c (.sl (cs.map intC))),(5,.c (.sl (cs.map intC))),(6,.c (.v (.int .i64 cs.length))),(7,.c (.v (.int .i64 k)))],[]⟩) (fun k=>k<=cs.length/\RD (cs.drop k)=RD cs) (fun k=>cs.length-k) 0 ⟨⟨rfl,rfl⟩,rfl,aq _,rfl⟩ ?_;rintro k ⟨hk,hf⟩;refine AOe (fun h=>?_) fun h=>?_
 .have hk':k<cs.length:=by simpa using h
  rw[bJ cs hk'] at hf;simp only[go_sem,AA _ hk'];have hgood:Ae cs[k] 1 2=true->RD (cs.drop (k+1))=RD cs:=by intro hi; rw[hi,ah] at hf; exact hf
  rcases h1:cs[k] != 1 with _ | _
  .simp only[go_sem,h1,wrap_i64 (n:=(k:Int)+1) AOl AOl];exact⟨k+1,⟨rfl,rfl⟩,rfl,⟨AOl,hgood (by simp[Ae]; grind)⟩,AOl⟩
  .rcases h2:cs[k] != 2 with _ | _
   .simp only[go_sem,h1,h2,wrap_i64 (n:=(k:Int)+1) AOl AOl];exact⟨k+1,⟨rfl,rfl⟩,rfl,⟨AOl,hgood (by simp[Ae]; grind)⟩,AOl⟩
   .simp only[go_sem,h1,h2];have hi:Ae cs[k] 1 2=false:=by simp[Ae]; simp at h1 h2; omega
    rw[hi,ac] at hf;simp only[FX,<- hf,ac]
 .have hk':k=cs.length:=by simp at h; omega
  subst hk';simp only[go_sem,aa];refine AAO _ (AL _ _ _) fun _=>?_;simp only[go_sem];rw[aK] at hf;simp only[FX,<- hf]; simp[RD]
def rowAt (cs:List Int) (l:List DRow) (i:Nat):Prop:=∀ h:i<l.length,rowOk cs l[i]=true/\(0<i->l[i-1].id<l[i].id)
noncomputable def Uc (cs:List Int) (l:List DRow):Bool:=@decide (∀ i,rowAt cs l i) (Classical.propDecidable _)
theorem ABP {cs:List Int} {l:List DRow} {i:Nat} (h:¬ rowAt cs l i):Uc cs l=false:=by simp only[Uc,aaA];grind
theorem xg {cs:List Int} {l:List DRow} (h:∀ i,i<l.length->rowAt cs l i):Uc cs l=true:=by simp only[Uc,aQ];intro i hi;exact h i hi hi
