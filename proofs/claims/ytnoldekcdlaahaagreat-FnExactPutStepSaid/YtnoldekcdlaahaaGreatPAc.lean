/- A part. -/
import Derived.Test.YtnoldekcdlaahaaGreatPFa
import Derived.Test.YtnoldekcdlaahaaGreatPVn
set_option linter.unusedSimpArgs false
set_option linter.unusedVariables false
set_option maxHeartbeats 2000000
set_option maxRecDepth 10000
open Go.Proofs.Tryz
namespace Go.Proofs.YtnoldekcdlaahaaGreat
open Go.Vm
def Ad (x a b:Int):Bool:=decide (a≤x)&&decide (x≤b)
theorem AO (x a b:Int):Ctr prog 29 [.c (.v (.int .i64 x)),.c (.v (.int .i64 a)),.c (.v (.int .i64 b))] [.val (.c (.v (.bool (Ad x a b))))]:=by
 refine CM call29 func29 ntmps29 results29 fun _=>?_
 exact AMw
theorem AL (x a b:Int):Ctr prog 40 [.c (.v (.int .i64 x)),.c (.v (.int .i64 a)),.c (.v (.int .i64 b))] [.val (.c (.v (.bool (Ad x a b))))]:=by
 refine CM call40 func40 ntmps40 results40 fun _=>?_
 exact AMw
def ER (n:Int):Bool:=Ad n (-1000000000) 1000000000
theorem Je (x:Int):Ctr prog 367 [.c (.v (.int .i64 x))] [.val (.c (.v (.bool (ER x))))]:=by
 refine CM call367 func367 ntmps367 results367 fun _=>?_
 simp only[go_sem]
 refine AAM _ (AO _ _ _) fun _=>?_
 simp only[go_sem,ER]
theorem NC (x:Int):Ctr prog 371 [.c (.v (.int .i64 x))] [.val (.c (.v (.bool (ER x))))]:=by
 refine CM call371 func371 ntmps371 results371 fun _=>?_
 simp only[go_sem]
 refine AAM _ (AL _ _ _) fun _=>?_
 simp only[go_sem,ER]
def YN (c:UInt8):Bool:=Ad c.toNat 97 122||Ad c.toNat 48 57
def UY (s:ByteArray):Bool:=decide (∀ i (h:i<s.size),YN s[i]=true)
def BQ (d:DVal):Bool:=if d.ty=1 then ER d.n&&(d.s.toList==({ data:=#[] }:ByteArray).toList) else(d.ty==2)&&(d.n==0)&&decide (d.s.size≤6)&&UY d.s
theorem IX (d:DVal):Ctr prog 350 [.agg d.c] [.val (.c (.v (.bool (BQ d))))]:=by
 refine CM call350 func350 ntmps350 results350 fun hw=>?_
 have hs:d.s.size≤9223372036854775807:=yD hw.1.2.2.1
 refine AOJ (fun h=>?_) fun h=>?_
 ·have h1:d.ty=1:=by simpa using h
  simp only[go_sem]
  refine AAM _ (Je _) fun _=>?_
  exact ANN
 ·have h1:¬ d.ty=1:=by simpa using h
  simp only[go_sem]
  refine ABf 1 [1,3] (A:=Nat) (fun k=>⟨56,[(1,.lp 0 0 0),(3,.c (.v (.int .i64 k)))],[⟨64,3,[d.c],true,true⟩]⟩) (fun k=>k≤d.s.size∧k≤7∧∀ i (h:i<d.s.size),i<k→YN d.s[i]=true) (fun k=>d.s.size-k) 0 ⟨⟨rfl,rfl⟩,rfl,aA _,AOQ,fun i _ hi=>AOQ⟩ ?_
  rintro k ⟨hk,hk7,hok⟩
  simp only[go_sem]
  have hW (c:UInt8):IntKind.i64.wrap (c.toNat:Int)=c.toNat:=wrap_i64 AOQ (by have:=c.toNat_lt; omega)
  have hfin:k=d.s.size∨(¬ k≤6)→((d.ty==2)&&(d.n==0)&&decide ((d.s.size:Int)≤6))=BQ d:=by
   intro hor
   simp only[BQ,bz h1]
   by_cases h6:d.s.size≤6
   ·have ht:UY d.s=true:=by
     simp only[UY,aZ]
     intro i hi
     exact hok i hi AOQ
    grind
   ·grind
  refine AEO (fun h=>?_) (fun h=>?_)
  ·have hk':k<d.s.size:=by simpa using h
   have hb:d.s[k]?=some d.s[k]:=getElem?_pos d.s k hk'
   simp only[go_sem,h,hk']
   refine ABG (fun h6=>?_) (fun h6=>?_)
   ·have h6':k≤6:=by simp at h6; omega
    have hbad:YN d.s[k]=false→false=BQ d:=by
     intro hc
     have ht:UY d.s=false:=by
      simp only[UY,aaA]
      intro hall
      rw[hall k hk'] at hc
      cases hc
     simp[BQ,bz h1,ht]
    simp only[go_sem,hb,hW]
    refine AAM _ (AO _ _ _) fun _=>?_
    simp only[go_sem]
    refine AEO (fun ha=>?_) (fun ha=>?_)
    ·simp only[go_sem,hb,hW,ha]
     refine AAM _ (AO _ _ _) fun _=>?_
     simp only[go_sem,hb,hW,ha]
     refine ABG (fun hc=>?_) (fun hc=>?_)
     ·simp only[go_sem]
      rw[hbad (by simp[YN]; grind)]
     ·simp only[go_sem,wrap_i64 (n:=(k:Int)+1) AOQ AOQ]
      exact AMf
    ·simp only[go_sem,hb,hW,ha,wrap_i64 (n:=(k:Int)+1) AOQ AOQ]
     exact AMf
   ·have hfin':=hfin (.inr AOT)
    simp only[go_sem]
    exact ALn
  ·have hk':k=d.s.size:=by simp at h; omega
   have hfin':=hfin (.inl hk')
   simp only[go_sem,h]
   exact ALn
theorem ACV (d:DVal) {k:Nat} (hk:k<d.s.size) (hc:YN d.s[k]=false) (h1:¬ d.ty=1):false=BQ d:=by
 have ht:UY d.s=false:=by
  simp only[UY,aaA]
  intro hall
  rw[hall k hk] at hc
  cases hc
 simp[BQ,bz h1,ht]
theorem Dz (d:DVal):Ctr prog 360 [.agg d.c] [.val (.c (.v (.bool (BQ d))))]:=by
 refine CM call360 func360 ntmps360 results360 fun hw=>?_
 have hs:d.s.size≤9223372036854775807:=yD hw.1.2.2.1
 refine AOJ (fun h=>?_) fun h=>?_
 ·have h1:d.ty=1:=by simpa using h
  simp only[go_sem]
  refine AAM _ (NC _) fun _=>?_
  exact ANN
 ·have h1:¬ d.ty=1:=by simpa using h
  simp only[go_sem]
  refine ABG (fun h2=>?_) (fun h2=>?_)
  ·have h2':d.ty=2:=by simpa using h2
   simp only[go_sem]
   refine ABf 1 [1,3] (A:=Nat) (fun k=>⟨66,[(1,.lp 0 0 0),(3,.c (.v (.int .i64 k)))],[⟨64,3,[d.c],true,true⟩]⟩) (fun k=>k≤d.s.size∧∀ i (h:i<d.s.size),i<k→YN d.s[i]=true) (fun k=>d.s.size-k) 0 ⟨⟨rfl,rfl⟩,rfl,aA _,fun i _ hi=>AOQ⟩ ?_
   rintro k ⟨hk,hok⟩
   refine AOJ (fun h=>?_) fun h=>?_
   ·have hk':k<d.s.size:=by simpa using h
    have hb:d.s[k]?=some d.s[k]:=getElem?_pos d.s k hk'
    have hgood:YN d.s[k]=true→∀ i (h:i<d.s.size),i<k+1→YN d.s[i]=true:=by
     intro hg i hi hik
     by_cases e:i=k
     ·grind
     ·grind
    rcases hA:decide ((d.s[k].toNat:Int)≥97) with _ | _<;>rcases hB:decide ((d.s[k].toNat:Int)≤122) with _ | _<;>rcases hC:decide ((d.s[k].toNat:Int)≥48) with _ | _<;>rcases hD:decide ((d.s[k].toNat:Int)≤57) with _ | _ <;>
     simp only[go_sem,hb,hA,hB,hC,hD,wrap_i64 (n:=(k:Int)+1) AOQ AOQ]<;>simp at hA hB hC hD<;>first
     | (rw[ACV d hk' (by simp[YN,Ad]; omega) h1]; done)
     | exact⟨k+1,⟨rfl,rfl⟩,rfl,⟨AOQ,hgood (by simp[YN,Ad]; omega)⟩,AOQ⟩
   ·have hk':k=d.s.size:=by simp at h; omega
    have ht:UY d.s=true:=by
     simp only[UY,aZ]
     intro i hi
     exact hok i hi AOQ
    simp only[go_sem]
    refine AEO (fun e1=>?_) (fun e1=>?_)<;>simp only[go_sem,e1]<;>simp[BQ,bz h1,ht]<;>simp at e1<;>simp[h2']<;>omega
  ·have h2':¬ d.ty=2:=by simpa using h2
   simp only[go_sem]
   simp[BQ,bz h1,h2']
def fits:List Int→List DVal→Bool
 | [],[]=>true
 | c::cs,v::vs=>BQ v&&(v.ty==c)&&fits cs vs
 | _,_=>false
theorem Y4:∀ (cs:List Int) (vs:List DVal),cs.length≠vs.length→fits cs vs=false
 | [],[],h=>AOx
 | [],_::_,_=>rfl
 | _::_,[],_=>rfl
 | c::cs,v::vs,h=>by simp only[fits]; rw[Y4 cs vs AOz]; simp
theorem jJ (cs:List Int) (vs:List DVal) {k:Nat} (h1:k<cs.length) (h2:k<vs.length):fits (cs.drop k) (vs.drop k)=(BQ vs[k]&&(vs[k].ty==cs[k])&&fits (cs.drop (k+1)) (vs.drop (k+1))):=by
 rw[aG h1,aG h2]; rfl
theorem PG (cs:List Int) (vs:List DVal):Ctr prog 296 [.c (.sl (cs.map intC)),.c (.sl (vs.map DVal.c))] [.val (.c (.v (.bool (fits cs vs))))]:=by
 refine CM call296 func296 ntmps296 results296 fun hw=>?_
 have hlen:vs.length≤9223372036854775807:=by have:=hw.2.1.1; simpa [Go.maxLen] using this
 refine AOK (fun h=>?_) fun h=>?_
 ·simp only[go_sem]
  grind [Y4]
 ·have he:cs.length=vs.length:=by simp at h; omega
  simp only[go_sem]
  refine ABf 0 [0,1,5] (A:=Nat) (fun k=>⟨35,[(0,.c (.sl (cs.map intC))),(1,.c (.sl (vs.map DVal.c))),(5,.c (.v (.int .i64 k)))],[]⟩) (fun k=>k≤vs.length∧fits (cs.drop k) (vs.drop k)=fits cs vs) (fun k=>vs.length-k) 0 ⟨⟨rfl,rfl⟩,rfl,aA _,rfl⟩ ?_
  rintro k ⟨hk,hf⟩
  refine AOK (fun h=>?_) fun h=>?_
  ·have hk':k<vs.length:=by simpa using h
   have hk2:k<cs.length:=AOQ
   rw[jJ cs vs hk2 hk'] at hf
   simp only[go_sem]
   refine AAm ?_
   simp only[go_sem,ae,AA _ hk',AA _ hk2,hk',hk2]
   refine CY (IX vs[k]) ?_
   exact AKc
  ·exact ANB
theorem PH (cs:List Int) (vs:List DVal):Ctr prog 309 [.c (.sl (cs.map intC)),.c (.sl (vs.map DVal.c))] [.val (.c (.v (.bool (fits cs vs))))]:=by
 refine CM call309 func309 ntmps309 results309 fun hw=>?_
 have hlen:vs.length≤9223372036854775807:=by have:=hw.2.1.1; simpa [Go.maxLen] using this
 refine AOK (fun h=>?_) fun h=>?_
 ·simp only[go_sem]
  grind [Y4]
 ·have he:cs.length=vs.length:=by simp at h; omega
  simp only[go_sem,ae]
  refine ABf 0 [0,12,13,14] (A:=Nat) (fun k=>⟨32,[(0,.c (.sl (cs.map intC))),(12,.c (.sl (vs.map DVal.c))),(13,.c (.v (.int .i64 vs.length))),(14,.c (.v (.int .i64 k)))],[]⟩) (fun k=>k≤vs.length∧fits (cs.drop k) (vs.drop k)=fits cs vs) (fun k=>vs.length-k) 0 ⟨⟨rfl,rfl⟩,rfl,aA _,rfl⟩ ?_
  rintro k ⟨hk,hf⟩
  refine AOK (fun h=>?_) fun h=>?_
  ·have hk':k<vs.length:=by simpa using h
   have hk2:k<cs.length:=AOQ
   rw[jJ cs vs hk2 hk'] at hf
   simp only[go_sem,AA _ hk']
   refine AAm ?_
   simp only[go_sem,ae,AA _ hk',AA _ hk2,hk',hk2]
   refine CY (Dz vs[k]) ?_
   exact AKc
  ·exact ANB
def rowOk (cs:List Int) (r:DRow):Bool:=decide (r.id≥0)&&fits cs r.l
theorem pg (cs:List Int) (r:DRow):Ctr prog 324 [.c (.sl (cs.map intC)),.agg r.c] [.val (.c (.v (.bool (rowOk cs r))))]:=by
 refine CM call324 func324 ntmps324 results324 fun hw=>?_
 simp only[go_sem]
 rcases hi:decide (r.id≥0) with _ | _
 ·simp only[go_sem,hi]; simp only[rowOk,hi,ag]
 ·simp only[go_sem,hi]
  refine AAM _ (PG cs r.l) fun _=>?_
  simp only[go_sem,hi]; simp only[rowOk,hi,aj]
theorem pq (cs:List Int) (r:DRow):Ctr prog 331 [.c (.sl (cs.map intC)),.agg r.c] [.val (.c (.v (.bool (rowOk cs r))))]:=by
 refine CM call331 func331 ntmps331 results331 fun hw=>?_
 simp only[go_sem]
 rcases hi:decide (r.id≥0) with _ | _
 ·simp only[go_sem,hi]; simp only[rowOk,hi,ag]
 ·simp only[go_sem,hi]
  refine AAM _ (PH cs r.l) fun _=>?_
  simp only[go_sem,hi]; simp only[rowOk,hi,aj]
def QT (cs:List Int):Bool:=cs.all fun c=>Ad c 1 2
def FT (cs:List Int):Bool:=QT cs&&Ad cs.length 1 3
theorem Y5 (cs:List Int) {k:Nat} (h:k<cs.length):QT (cs.drop k)=(Ad cs[k] 1 2&&QT (cs.drop (k+1))):=by
 rw[aG h]; rfl
theorem PI (cs:List Int):Ctr prog 190 [.c (.sl (cs.map intC))] [.val (.c (.v (.bool (FT cs))))]:=by
 refine CM call190 func190 ntmps190 results190 fun hw=>?_
 have hlen:cs.length≤9223372036854775807:=AO6
 simp only[go_sem,ae]
 refine ABf 0 [0,3] (A:=Nat) (fun k=>⟨19,[(0,.c (.sl (cs.map intC))),(3,.c (.v (.int .i64 k)))],[]⟩) (fun k=>k≤cs.length∧QT (cs.drop k)=QT cs) (fun k=>cs.length-k) 0 ⟨⟨rfl,rfl⟩,rfl,aA _,rfl⟩ ?_
 rintro k ⟨hk,hf⟩
 refine AOK (fun h=>?_) fun h=>?_
 ·have hk':k<cs.length:=by simpa using h
  rw[Y5 cs hk'] at hf
  simp only[go_sem,AA _ hk']
  refine AAM _ (AO _ _ _) fun _=>?_
  simp only[go_sem]
  rcases hi:Ad cs[k] 1 2 with _ | _
  ·simp only[go_sem,hi]
   rw[hi,ag] at hf
   simp only[FT,← hf,ag]
  ·simp only[go_sem,hi,wrap_i64 (n:=(k:Int)+1) AOQ AOQ]
   rw[hi,aj] at hf
   exact AKw
 ·have hk':k=cs.length:=by simp at h; omega
  subst hk'
  simp only[go_sem,ae]
  refine AAM _ (AO _ _ _) fun _=>?_
  simp only[go_sem]
  rw[aY] at hf
  simp only[FT,← hf]; simp[QT]
theorem PK (cs:List Int):Ctr prog 218 [.c (.sl (cs.map intC))] [.val (.c (.v (.bool (FT cs))))]:=by
 refine CM call218 func218 ntmps218 results218 fun hw=>?_
 have hlen:cs.length≤9223372036854775807:=AO6
 simp only[go_sem,ae]
 refine ABf 0 [0,5,6,7] (A:=Nat) (fun k=>⟨21,[(0,.c (.sl (cs.map intC))),(5,.c (.sl (cs.map intC))),(6,.c (.v (.int .i64 cs.length))),(7,.c (.v (.int .i64 k)))],[]⟩) (fun k=>k≤cs.length∧QT (cs.drop k)=QT cs) (fun k=>cs.length-k) 0 ⟨⟨rfl,rfl⟩,rfl,aA _,rfl⟩ ?_
 rintro k ⟨hk,hf⟩
 refine AOK (fun h=>?_) fun h=>?_
 ·have hk':k<cs.length:=by simpa using h
  rw[Y5 cs hk'] at hf
  simp only[go_sem,AA _ hk']
  have hgood:Ad cs[k] 1 2=true→QT (cs.drop (k+1))=QT cs:=by intro hi; rw[hi,aj] at hf; exact hf
  rcases h1:cs[k] != 1 with _ | _
  ·simp only[go_sem,h1,wrap_i64 (n:=(k:Int)+1) AOQ AOQ]
   exact⟨k+1,⟨rfl,rfl⟩,rfl,⟨AOQ,hgood (by simp[Ad]; grind)⟩,AOQ⟩
  ·rcases h2:cs[k] != 2 with _ | _
   ·simp only[go_sem,h1,h2,wrap_i64 (n:=(k:Int)+1) AOQ AOQ]
    exact⟨k+1,⟨rfl,rfl⟩,rfl,⟨AOQ,hgood (by simp[Ad]; grind)⟩,AOQ⟩
   ·simp only[go_sem,h1,h2]
    have hi:Ad cs[k] 1 2=false:=by simp[Ad]; simp at h1 h2; omega
    rw[hi,ag] at hf
    simp only[FT,← hf,ag]
 ·have hk':k=cs.length:=by simp at h; omega
  subst hk'
  simp only[go_sem,ae]
  refine AAM _ (AL _ _ _) fun _=>?_
  simp only[go_sem]
  rw[aY] at hf
  simp only[FT,← hf]; simp[QT]
def rowAt (cs:List Int) (l:List DRow) (i:Nat):Prop:=∀ h:i<l.length,rowOk cs l[i]=true∧(0<i→l[i-1].id<l[i].id)
noncomputable def TY (cs:List Int) (l:List DRow):Bool:=@decide (∀ i,rowAt cs l i) (Classical.propDecidable _)
theorem AAs {cs:List Int} {l:List DRow} {i:Nat} (h:¬ rowAt cs l i):TY cs l=false:=by
 simp only[TY,aaA]
 grind
theorem wH {cs:List Int} {l:List DRow} (h:∀ i,i<l.length→rowAt cs l i):TY cs l=true:=by
 simp only[TY,aZ]
 intro i hi
 exact h i hi hi
def FY (a b:DVal):Bool:=if(a.ty != b.ty)=true then decide (a.ty<b.ty) else if(a.n != b.n)=true then decide (a.n<b.n) else Op.bytesLess a.s.toList b.s.toList
def ND (a b:DVal):Bool:=(a.ty==b.ty)&&((a.n==b.n)&&(a.s.toList==b.s.toList))
theorem iF (a b:DVal):Ctr prog 455 [.agg a.c,.agg b.c] [.val (.c (.v (.bool (FY a b))))]:=by
 refine CM call455 func455 ntmps455 results455 fun hw=>?_
 rcases h1:a.ty != b.ty with _ | _<;>rcases h2:a.n != b.n with _ | _<;>simp only[go_sem,h1,h2,FY]
def NE:List DVal→List DVal→Bool
 | [],[]=>true
 | a::l,b::m=>ND a b&&NE l m
 | _,_=>false
theorem WF:∀ (a b:List DVal),a.length≠b.length→NE a b=false
 | [],[],h=>AOx
 | [],_::_,_=>rfl
 | _::_,[],_=>rfl
 | a::l,b::m,h=>by simp only[NE]; rw[WF l m AOz]; simp
theorem Y6 (a b:List DVal) {k:Nat} (h1:k<a.length) (h2:k<b.length):NE (a.drop k) (b.drop k)=(ND a[k] b[k]&&NE (a.drop (k+1)) (b.drop (k+1))):=by
 rw[aG h1,aG h2]; rfl
theorem QU (a b:List DVal) (ha:a.length≤1048576) (hb:b.length≤1048576):Ctr prog 297 [.c (.sl (a.map DVal.c)),.c (.sl (b.map DVal.c))] [.val (.c (.v (.bool (NE a b))))]:=by
 refine CM call297 func297 ntmps297 results297 fun hw=>?_
 refine AOK (fun h=>?_) fun h=>?_
 ·simp only[go_sem]
  grind [WF]
 ·have he:a.length=b.length:=by simp at h; omega
  simp only[go_sem,ae]
  refine ABK 0 (A:=Nat) (fun k=>[(5,.c (.v (.int .i64 (k))))]) (fun _=>[]) (fun k=>k≤a.length∧NE (a.drop k) (b.drop k)=NE a b) (fun k=>a.length-k) 0 ⟨⟨rfl,rfl⟩,rfl,aA _,rfl⟩ ?_
  exact AIC
theorem pz (a b:List DVal) (ha:a.length≤1048576) (hb:b.length≤1048576):Ctr prog 361 [.c (.sl (a.map DVal.c)),.c (.sl (b.map DVal.c))] [.val (.c (.v (.bool (NE a b))))]:=by
 refine CM call361 func361 ntmps361 results361 fun hw=>?_
 refine AOK (fun h=>?_) fun h=>?_
 ·simp only[go_sem]
  grind [WF]
 ·have he:a.length=b.length:=by simp at h; omega
  simp only[go_sem,ae]
  refine ABK 0 (A:=Nat) (fun k=>[(13,.c (.v (.int .i64 (k))))]) (fun _=>[]) (fun k=>k≤a.length∧NE (a.drop k) (b.drop k)=NE a b) (fun k=>a.length-k) 0 ⟨⟨rfl,rfl⟩,rfl,aA _,rfl⟩ ?_
  exact AIC
theorem QV (a b:List DVal) (ha:a.length≤1048576) (hb:b.length≤1048576):Ctr prog 310 [.c (.sl (a.map DVal.c)),.c (.sl (b.map DVal.c))] [.val (.c (.v (.bool (NE a b))))]:=by
 refine CM call310 func310 ntmps310 results310 fun hw=>?_
 simp only[go_sem,ae]
 refine AAM _ (pz a b ha hb) fun _=>?_
 exact AI5
def AIe (z:DVal×DVal):List Cl:=z.1.c++z.2.c
@[go_sem] theorem AIf (z:DVal×DVal):AIe z=z.1.c++z.2.c:=rfl
end Go.Proofs.YtnoldekcdlaahaaGreat
