/- A part. -/
import Derived.Test.YtnchiiikacemmaaGreatFa
import Derived.Test.YtnchiiikacemmaaGreatVmW
import Derived.ProofKit
set_option linter.unusedSimpArgs false
set_option linter.unusedVariables false
set_option maxHeartbeats 1000000
set_option maxRecDepth 10000
open Go.Proofs.Tryz
namespace Go.Proofs.YtnchiiikacemmaaGreat
open Go.Vm
def Ac (x a b:Int):Bool:=decide (a≤x)&&decide (x≤b)
theorem AL (x a b:Int):Ctr prog 74 [.c (.v (.int .i64 x)),.c (.v (.int .i64 a)),.c (.v (.int .i64 b))] [.val (.c (.v (.bool (Ac x a b))))]:=by
 refine CM call74 func74 ntmps74 results74 fun _=>?_
 simp only[go_sem]
 refine gO.mk (fun h=>?_) (fun h=>?_)<;>simp only[go_sem,h]<;>simp at h<;>simp[Ac]<;>omega
theorem AC (x a b:Int):Ctr prog 88 [.c (.v (.int .i64 x)),.c (.v (.int .i64 a)),.c (.v (.int .i64 b))] [.val (.c (.v (.bool (Ac x a b))))]:=by
 refine CM call88 func88 ntmps88 results88 fun _=>?_
 simp only[go_sem]
 refine gO.mk (fun h=>?_) (fun h=>?_)<;>simp only[go_sem,h]<;>simp at h<;>simp[Ac]<;>omega
def Di (n:Int):Bool:=Ac n (-1000000000) 1000000000
theorem Iz (x:Int):Ctr prog 259 [.c (.v (.int .i64 x))] [.val (.c (.v (.bool (Di x))))]:=by
 refine CM call259 func259 ntmps259 results259 fun _=>?_
 simp only[go_sem]
 refine CallK.mk _ (AL _ _ _) fun _=>?_
 simp only[go_sem,Di]
theorem LC (x:Int):Ctr prog 274 [.c (.v (.int .i64 x))] [.val (.c (.v (.bool (Di x))))]:=by
 refine CM call274 func274 ntmps274 results274 fun _=>?_
 simp only[go_sem]
 refine CallK.mk _ (AC _ _ _) fun _=>?_
 simp only[go_sem,Di]
def Wv (c:UInt8):Bool:=Ac c.toNat 97 122||Ac c.toNat 48 57
def Tu (s:ByteArray):Bool:=decide (∀ i (h:i<s.size),Wv s[i]=true)
def BF (d:DVal):Bool:=if d.ty=1 then Di d.n&&(d.s.toList==({ data:=#[] }:ByteArray).toList) else(d.ty==2)&&(d.n==0)&&decide (d.s.size≤6)&&Tu d.s
theorem Ho (d:DVal):Ctr prog 234 [.agg d.c] [.val (.c (.v (.bool (BF d))))]:=by
 refine CM call234 func234 ntmps234 results234 fun hw=>?_
 have hs:d.s.size≤9223372036854775807:=ug hw.1.2.2.1
 simp only[go_sem]
 refine cndC.mk (fun h=>?_) (fun h=>?_)
 ·have h1:d.ty=1:=by simpa using h
  simp only[go_sem]
  refine CallK.mk _ (Iz _) fun _=>?_
  simp only[go_sem]
  refine gO.mk (fun h=>?_) (fun h=>?_)<;>simp only[go_sem,h]<;>simp_all [BF]
 ·have h1:¬ d.ty=1:=by simpa using h
  simp only[go_sem]
  refine LoopK.mk 1 [1,3] (A:=Nat) (fun k=>⟨56,[(1,.lp 0 0 0),(3,.c (.v (.int .i64 k)))],[⟨119,3,[d.c],true,true⟩]⟩) (fun k=>k≤d.s.size∧k≤7∧∀ i (h:i<d.s.size),i<k→Wv d.s[i]=true) (fun k=>d.s.size-k) 0 ⟨⟨rfl,rfl⟩,rfl,ak _,by omega,fun i _ hi=>by omega⟩ ?_
  rintro k ⟨hk,hk7,hok⟩
  simp only[go_sem]
  have hW (c:UInt8):IntKind.i64.wrap (c.toNat:Int)=c.toNat:=wrap_i64 (by omega) (by have:=c.toNat_lt; omega)
  have hfin:k=d.s.size∨(¬ k≤6)→((d.ty==2)&&(d.n==0)&&decide ((d.s.size:Int)≤6))=BF d:=by
   intro hor
   simp only[BF,aV h1]
   by_cases h6:d.s.size≤6
   ·have ht:Tu d.s=true:=by
     simp only[Tu,aY]
     intro i hi
     exact hok i hi (by omega)
    have h6':(d.s.size:Int)≤6:=by omega
    simp[ht,h6,h6']
   ·have h6':¬ (d.s.size:Int)≤6:=by omega
    simp[h6,h6']
  refine gO.mk (fun h=>?_) (fun h=>?_)
  ·have hk':k<d.s.size:=by simpa using h
   have hb:d.s[k]?=some d.s[k]:=getElem?_pos d.s k hk'
   simp only[go_sem,h]
   refine cndC.mk (fun h6=>?_) (fun h6=>?_)
   ·have h6':k≤6:=by simp at h6; omega
    have hbad:Wv d.s[k]=false→false=BF d:=by
     intro hc
     have ht:Tu d.s=false:=by
      simp only[Tu,aaN]
      intro hall
      rw[hall k hk'] at hc
      cases hc
     simp[BF,aV h1,ht]
    simp only[go_sem,hb,hW]
    refine CallK.mk _ (AL _ _ _) fun _=>?_
    simp only[go_sem]
    refine gO.mk (fun ha=>?_) (fun ha=>?_)
    ·simp only[go_sem,hb,hW,ha]
     refine CallK.mk _ (AL _ _ _) fun _=>?_
     simp only[go_sem]
     refine cndC.mk (fun hc=>?_) (fun hc=>?_)
     ·simp only[go_sem]
      rw[hbad (by simp[Wv]; exact⟨by simpa using ha,by simpa using hc⟩)]
     ·simp only[go_sem,wrap_i64 (n:=(k:Int)+1) (by omega) (by omega)]
      refine⟨k+1,⟨rfl,rfl⟩,rfl,⟨by omega,by omega,fun i hi hik=>?_⟩,by omega⟩
      by_cases e:i=k
      ·subst e; simp only[Wv]; simp at hc; simp[hc]
      ·exact hok i hi (by omega)
    ·simp only[go_sem,ha,wrap_i64 (n:=(k:Int)+1) (by omega) (by omega)]
     refine⟨k+1,⟨rfl,rfl⟩,rfl,⟨by omega,by omega,fun i hi hik=>?_⟩,by omega⟩
     by_cases e:i=k
     ·subst e; simp only[Wv]; simp at ha; simp[ha]
     ·exact hok i hi (by omega)
   ·have hfin':=hfin (.inr (by simp at h6; omega))
    simp only[go_sem]
    refine gO.mk (fun e1=>?_) (fun e1=>?_)
    ·simp only[go_sem,e1]
     refine gO.mk (fun e2=>?_) (fun e2=>?_)<;>simp only[go_sem,e2]<;>rw[← hfin',e1,e2]<;>simp
    ·simp only[go_sem,e1]
     rw[← hfin',e1]; rfl
  ·have hk':k=d.s.size:=by simp at h; omega
   have hfin':=hfin (.inl hk')
   simp only[go_sem,h]
   refine gO.mk (fun e1=>?_) (fun e1=>?_)
   ·simp only[go_sem,e1]
    refine gO.mk (fun e2=>?_) (fun e2=>?_)<;>simp only[go_sem,e2]<;>rw[← hfin',e1,e2]<;>simp
   ·simp only[go_sem,e1]
    rw[← hfin',e1]; rfl
theorem ABp (d:DVal) {k:Nat} (hk:k<d.s.size) (hc:Wv d.s[k]=false) (h1:¬ d.ty=1):false=BF d:=by
 have ht:Tu d.s=false:=by
  simp only[Tu,aaN]
  intro hall
  rw[hall k hk] at hc
  cases hc
 simp[BF,aV h1,ht]
theorem DI (d:DVal):Ctr prog 244 [.agg d.c] [.val (.c (.v (.bool (BF d))))]:=by
 refine CM call244 func244 ntmps244 results244 fun hw=>?_
 have hs:d.s.size≤9223372036854775807:=ug hw.1.2.2.1
 simp only[go_sem]
 refine cndC.mk (fun h=>?_) (fun h=>?_)
 ·have h1:d.ty=1:=by simpa using h
  simp only[go_sem]
  refine CallK.mk _ (LC _) fun _=>?_
  simp only[go_sem]
  refine gO.mk (fun h=>?_) (fun h=>?_)<;>simp only[go_sem,h]<;>simp_all [BF]
 ·have h1:¬ d.ty=1:=by simpa using h
  simp only[go_sem]
  refine cndC.mk (fun h2=>?_) (fun h2=>?_)
  ·have h2':d.ty=2:=by simpa using h2
   simp only[go_sem]
   refine LoopK.mk 1 [1,3] (A:=Nat) (fun k=>⟨66,[(1,.lp 0 0 0),(3,.c (.v (.int .i64 k)))],[⟨119,3,[d.c],true,true⟩]⟩) (fun k=>k≤d.s.size∧∀ i (h:i<d.s.size),i<k→Wv d.s[i]=true) (fun k=>d.s.size-k) 0 ⟨⟨rfl,rfl⟩,rfl,ak _,fun i _ hi=>by omega⟩ ?_
   rintro k ⟨hk,hok⟩
   simp only[go_sem]
   refine cndC.mk (fun h=>?_) (fun h=>?_)
   ·have hk':k<d.s.size:=by simpa using h
    have hb:d.s[k]?=some d.s[k]:=getElem?_pos d.s k hk'
    have hgood:Wv d.s[k]=true→∀ i (h:i<d.s.size),i<k+1→Wv d.s[i]=true:=by
     intro hg i hi hik
     by_cases e:i=k
     ·subst e; exact hg
     ·exact hok i hi (by omega)
    rcases hA:decide ((d.s[k].toNat:Int)≥97) with _ | _<;>rcases hB:decide ((d.s[k].toNat:Int)≤122) with _ | _<;>rcases hC:decide ((d.s[k].toNat:Int)≥48) with _ | _<;>rcases hD:decide ((d.s[k].toNat:Int)≤57) with _ | _ <;>
     simp only[go_sem,hb,hA,hB,hC,hD,wrap_i64 (n:=(k:Int)+1) (by omega) (by omega)]<;>simp at hA hB hC hD<;>first
     | (rw[ABp d hk' (by simp[Wv,Ac]; omega) h1]; done)
     | exact⟨k+1,⟨rfl,rfl⟩,rfl,⟨by omega,hgood (by simp[Wv,Ac]; omega)⟩,by omega⟩
   ·have hk':k=d.s.size:=by simp at h; omega
    have ht:Tu d.s=true:=by
     simp only[Tu,aY]
     intro i hi
     exact hok i hi (by omega)
    simp only[go_sem]
    refine gO.mk (fun e1=>?_) (fun e1=>?_)<;>simp only[go_sem,e1]<;>simp[BF,aV h1,ht]<;>simp at e1<;>simp[h2']<;>omega
  ·have h2':¬ d.ty=2:=by simpa using h2
   simp only[go_sem]
   simp[BF,aV h1,h2']
def fits:List Int→List DVal→Bool
 | [],[]=>true
 | c::cs,v::vs=>BF v&&(v.ty==c)&&fits cs vs
 | _,_=>false
theorem YX:∀ (cs:List Int) (vs:List DVal),cs.length≠vs.length→fits cs vs=false
 | [],[],h=>by simp at h
 | [],_::_,_=>rfl
 | _::_,[],_=>rfl
 | c::cs,v::vs,h=>by simp only[fits]; rw[YX cs vs (by simpa using h)]; simp
theorem eu (cs:List Int) (vs:List DVal) {k:Nat} (h1:k<cs.length) (h2:k<vs.length):fits (cs.drop k) (vs.drop k)=(BF vs[k]&&(vs[k].ty==cs[k])&&fits (cs.drop (k+1)) (vs.drop (k+1))):=by
 rw[aC h1,aC h2]; rfl
theorem OA (cs:List Int) (vs:List DVal):Ctr prog 205 [.c (.sl (cs.map intC)),.c (.sl (vs.map DVal.c))] [.val (.c (.v (.bool (fits cs vs))))]:=by
 refine CM call205 func205 ntmps205 results205 fun hw=>?_
 have hlen:vs.length≤9223372036854775807:=by have:=hw.2.1.1; simpa [Go.maxLen] using this
 simp only[go_sem,ae]
 refine cndC.mk (fun h=>?_) (fun h=>?_)
 ·simp only[go_sem]
  rw[YX cs vs (by simp at h; omega)]
 ·have he:cs.length=vs.length:=by simp at h; omega
  simp only[go_sem]
  refine LoopK.mk 0 [0,1,5] (A:=Nat) (fun k=>⟨35,[(0,.c (.sl (cs.map intC))),(1,.c (.sl (vs.map DVal.c))),(5,.c (.v (.int .i64 k)))],[]⟩) (fun k=>k≤vs.length∧fits (cs.drop k) (vs.drop k)=fits cs vs) (fun k=>vs.length-k) 0 ⟨⟨rfl,rfl⟩,rfl,ak _,rfl⟩ ?_
  rintro k ⟨hk,hf⟩
  simp only[go_sem,ae]
  refine cndC.mk (fun h=>?_) (fun h=>?_)
  ·have hk':k<vs.length:=by simpa using h
   have hk2:k<cs.length:=by omega
   rw[eu cs vs hk2 hk'] at hf
   simp only[go_sem]
   refine DrawK.mk ?_
   simp only[go_sem,AA _ hk']
   refine CY (Ho vs[k]) ?_
   rcases hv:BF vs[k] with _ | _
   ·simp only[go_sem]
    rw[hv] at hf
    simp at hf
    rw[hf]
   ·simp only[go_sem,AA _ hk',AA _ hk2]
    rcases ht:vs[k].ty==cs[k] with _ | _
    ·simp only[go_sem,bne,ht]
     rw[ht] at hf
     simp at hf
     rw[hf]
    ·simp only[go_sem,bne,ht,wrap_i64 (n:=(k:Int)+1) (by omega) (by omega)]
     rw[hv,ht] at hf
     simp only[aU,ai] at hf
     exact⟨k+1,⟨rfl,rfl⟩,rfl,⟨by omega,hf⟩,by omega⟩
  ·have hk':k=vs.length:=by simp at h; omega
   subst hk'
   simp only[go_sem]
   rw[← hf,aO,← he,aO]; rfl
theorem OB (cs:List Int) (vs:List DVal):Ctr prog 215 [.c (.sl (cs.map intC)),.c (.sl (vs.map DVal.c))] [.val (.c (.v (.bool (fits cs vs))))]:=by
 refine CM call215 func215 ntmps215 results215 fun hw=>?_
 have hlen:vs.length≤9223372036854775807:=by have:=hw.2.1.1; simpa [Go.maxLen] using this
 simp only[go_sem,ae]
 refine cndC.mk (fun h=>?_) (fun h=>?_)
 ·simp only[go_sem]
  rw[YX cs vs (by simp at h; omega)]
 ·have he:cs.length=vs.length:=by simp at h; omega
  simp only[go_sem,ae]
  refine LoopK.mk 0 [0,12,13,14] (A:=Nat) (fun k=>⟨32,[(0,.c (.sl (cs.map intC))),(12,.c (.sl (vs.map DVal.c))),(13,.c (.v (.int .i64 vs.length))),(14,.c (.v (.int .i64 k)))],[]⟩) (fun k=>k≤vs.length∧fits (cs.drop k) (vs.drop k)=fits cs vs) (fun k=>vs.length-k) 0 ⟨⟨rfl,rfl⟩,rfl,ak _,rfl⟩ ?_
  rintro k ⟨hk,hf⟩
  simp only[go_sem]
  refine cndC.mk (fun h=>?_) (fun h=>?_)
  ·have hk':k<vs.length:=by simpa using h
   have hk2:k<cs.length:=by omega
   rw[eu cs vs hk2 hk'] at hf
   simp only[go_sem,AA _ hk']
   refine DrawK.mk ?_
   simp only[go_sem]
   refine CY (DI vs[k]) ?_
   rcases hv:BF vs[k] with _ | _
   ·simp only[go_sem]
    rw[hv] at hf
    simp at hf
    rw[hf]
   ·simp only[go_sem,AA _ hk2]
    rcases ht:vs[k].ty==cs[k] with _ | _
    ·simp only[go_sem,bne,ht]
     rw[ht] at hf
     simp at hf
     rw[hf]
    ·simp only[go_sem,bne,ht,wrap_i64 (n:=(k:Int)+1) (by omega) (by omega)]
     rw[hv,ht] at hf
     simp only[aU,ai] at hf
     exact⟨k+1,⟨rfl,rfl⟩,rfl,⟨by omega,hf⟩,by omega⟩
  ·have hk':k=vs.length:=by simp at h; omega
   subst hk'
   simp only[go_sem]
   rw[← hf,aO,← he,aO]; rfl
def rowOk (cs:List Int) (r:DRow):Bool:=decide (r.id≥0)&&fits cs r.l
theorem pU (cs:List Int) (r:DRow):Ctr prog 258 [.c (.sl (cs.map intC)),.agg r.c] [.val (.c (.v (.bool (rowOk cs r))))]:=by
 refine CM call258 func258 ntmps258 results258 fun hw=>?_
 simp only[go_sem]
 rcases hi:decide (r.id≥0) with _ | _
 ·simp only[go_sem]; simp only[rowOk,hi,ag]
 ·simp only[go_sem]
  refine CallK.mk _ (OA cs r.l) fun _=>?_
  simp only[go_sem]; simp only[rowOk,hi,ai]
theorem pV (cs:List Int) (r:DRow):Ctr prog 270 [.c (.sl (cs.map intC)),.agg r.c] [.val (.c (.v (.bool (rowOk cs r))))]:=by
 refine CM call270 func270 ntmps270 results270 fun hw=>?_
 simp only[go_sem]
 rcases hi:decide (r.id≥0) with _ | _
 ·simp only[go_sem]; simp only[rowOk,hi,ag]
 ·simp only[go_sem]
  refine CallK.mk _ (OB cs r.l) fun _=>?_
  simp only[go_sem]; simp only[rowOk,hi,ai]
def PU (cs:List Int):Bool:=cs.all fun c=>Ac c 1 2
def EX (cs:List Int):Bool:=PU cs&&Ac cs.length 1 3
theorem YY (cs:List Int) {k:Nat} (h:k<cs.length):PU (cs.drop k)=(Ac cs[k] 1 2&&PU (cs.drop (k+1))):=by
 rw[aC h]; rfl
theorem OC (cs:List Int):Ctr prog 145 [.c (.sl (cs.map intC))] [.val (.c (.v (.bool (EX cs))))]:=by
 refine CM call145 func145 ntmps145 results145 fun hw=>?_
 have hlen:cs.length≤9223372036854775807:=by have:=hw.1.1; simpa [Go.maxLen] using this
 simp only[go_sem]
 refine LoopK.mk 0 [0,3] (A:=Nat) (fun k=>⟨19,[(0,.c (.sl (cs.map intC))),(3,.c (.v (.int .i64 k)))],[]⟩) (fun k=>k≤cs.length∧PU (cs.drop k)=PU cs) (fun k=>cs.length-k) 0 ⟨⟨rfl,rfl⟩,rfl,ak _,rfl⟩ ?_
 rintro k ⟨hk,hf⟩
 simp only[go_sem,ae]
 refine cndC.mk (fun h=>?_) (fun h=>?_)
 ·have hk':k<cs.length:=by simpa using h
  rw[YY cs hk'] at hf
  simp only[go_sem,AA _ hk']
  refine CallK.mk _ (AL _ _ _) fun _=>?_
  simp only[go_sem]
  rcases hi:Ac cs[k] 1 2 with _ | _
  ·simp only[go_sem]
   rw[hi,ag] at hf
   simp only[EX,← hf,ag]
  ·simp only[go_sem,wrap_i64 (n:=(k:Int)+1) (by omega) (by omega)]
   rw[hi,ai] at hf
   exact⟨k+1,⟨rfl,rfl⟩,rfl,⟨by omega,hf⟩,by omega⟩
 ·have hk':k=cs.length:=by simp at h; omega
  subst hk'
  simp only[go_sem,ae]
  refine CallK.mk _ (AL _ _ _) fun _=>?_
  simp only[go_sem]
  rw[aO] at hf
  simp only[EX,← hf]; simp[PU]
theorem OD (cs:List Int):Ctr prog 161 [.c (.sl (cs.map intC))] [.val (.c (.v (.bool (EX cs))))]:=by
 refine CM call161 func161 ntmps161 results161 fun hw=>?_
 have hlen:cs.length≤9223372036854775807:=by have:=hw.1.1; simpa [Go.maxLen] using this
 simp only[go_sem,ae]
 refine LoopK.mk 0 [0,5,6,7] (A:=Nat) (fun k=>⟨21,[(0,.c (.sl (cs.map intC))),(5,.c (.sl (cs.map intC))),(6,.c (.v (.int .i64 cs.length))),(7,.c (.v (.int .i64 k)))],[]⟩) (fun k=>k≤cs.length∧PU (cs.drop k)=PU cs) (fun k=>cs.length-k) 0 ⟨⟨rfl,rfl⟩,rfl,ak _,rfl⟩ ?_
 rintro k ⟨hk,hf⟩
 simp only[go_sem]
 refine cndC.mk (fun h=>?_) (fun h=>?_)
 ·have hk':k<cs.length:=by simpa using h
  rw[YY cs hk'] at hf
  simp only[go_sem,AA _ hk']
  have hgood:Ac cs[k] 1 2=true→PU (cs.drop (k+1))=PU cs:=by intro hi; rw[hi,ai] at hf; exact hf
  rcases h1:cs[k] != 1 with _ | _
  ·simp only[go_sem,wrap_i64 (n:=(k:Int)+1) (by omega) (by omega)]
   exact⟨k+1,⟨rfl,rfl⟩,rfl,⟨by omega,hgood (by simp[Ac]; simp at h1; omega)⟩,by omega⟩
  ·rcases h2:cs[k] != 2 with _ | _
   ·simp only[go_sem,h2,wrap_i64 (n:=(k:Int)+1) (by omega) (by omega)]
    exact⟨k+1,⟨rfl,rfl⟩,rfl,⟨by omega,hgood (by simp[Ac]; simp at h2; omega)⟩,by omega⟩
   ·simp only[go_sem,h2]
    have hi:Ac cs[k] 1 2=false:=by simp[Ac]; simp at h1 h2; omega
    rw[hi,ag] at hf
    simp only[EX,← hf,ag]
 ·have hk':k=cs.length:=by simp at h; omega
  subst hk'
  simp only[go_sem,ae]
  refine CallK.mk _ (AC _ _ _) fun _=>?_
  simp only[go_sem]
  rw[aO] at hf
  simp only[EX,← hf]; simp[PU]
def rowAt (cs:List Int) (l:List DRow) (i:Nat):Prop:=∀ h:i<l.length,rowOk cs l[i]=true∧(0<i→l[i-1].id<l[i].id)
noncomputable def Rn (cs:List Int) (l:List DRow):Bool:=@decide (∀ i,rowAt cs l i) (Classical.propDecidable _)
theorem zl {cs:List Int} {l:List DRow} {i:Nat} (h:¬ rowAt cs l i):Rn cs l=false:=by
 simp only[Rn,aaN]
 exact fun hall=>h (hall i)
theorem ui {cs:List Int} {l:List DRow} (h:∀ i,i<l.length→rowAt cs l i):Rn cs l=true:=by
 simp only[Rn,aY]
 intro i hi
 exact h i hi hi
end Go.Proofs.YtnchiiikacemmaaGreat
namespace Go.Vm
open Go.RowKit Go.WideShapes
def Old (w:World) (b o:Nat):Prop:=(w.cell? ⟨b,o,none⟩).isSome=true
def RdCs (w:World):List Value→List Cl→Prop
 | [],[]=>True
 | u::us,c::cs=>RdD w (Old w) c u∧RdCs w us cs
 | _,_=>False
theorem RdCs.append {w:World}:∀ {us:List Value} {cs:List Cl} {us':List Value} {cs':List Cl},RdCs w us cs→RdCs w us' cs'→RdCs w (us++us') (cs++cs')
 | [],[],_,_,_,h=>h
 | _::_,_::_,_,_,h,h'=>⟨h.1,RdCs.append h.2 h'⟩
 | [],_::_,_,_,h,_=>h.elim
 | _::_,[],_,_,h,_=>h.elim
theorem RdCs.len {w:World}:∀ {us:List Value} {cs:List Cl},RdCs w us cs→us.length=cs.length
 | [],[],_=>rfl
 | _::_,_::_,h=>by simp[RdCs.len h.2]
 | [],_::_,h=>h.elim
 | _::_,[],h=>h.elim
theorem RdCs.at {w:World}:∀ {us:List Value} {cs:List Cl},RdCs w us cs→∀ (k:Nat) (c:Cl),cs[k]?=some c→∃ y,us[k]?=some y∧RdD w (Old w) c y
 | [],[],_,k,c,hk=>by simp at hk
 | u::us,c0::cs,h,k,c,hk=>by
  cases k with
  | zero=>simp at hk; subst hk; exact⟨u,rfl,h.1⟩
  | succ k=>simpa using RdCs.at h.2 k c (by simpa using hk)
 | [],_::_,h,_,_,_=>h.elim
 | _::_,[],h,_,_,_=>h.elim
theorem RdCs.glue {w:World} {us:List Value} {o n m:Nat} {A B:List Cl} (hA:RdCs w ((us.drop o).take n) A) (hm:o+n=m) (hB:RdCs w (us.drop m) B):RdCs w (us.drop o) (A++B):=by
 subst hm
 have:=hA.append hB
 rwa [← List.drop_drop,List.take_append_drop] at this
theorem RdCs.last {w:World} {us:List Value} {o n:Nat} {A:List Cl} (hA:RdCs w ((us.drop o).take n) A) (hm:us.length=o+n):RdCs w (us.drop o) A:=by
 rwa [aaE (by simp; omega)] at hA
theorem RdCs.agg {w:World} {us:Array Value} {cs:List Cl} (h:RdCs w us.toList cs):RdA w (Old w) (.agg cs) (.agg us):=
 ⟨us.toList,by simp,h.len,fun k c hk=>h.at k c hk⟩
theorem RdCs.one {w:World} {v:Value} {c:Cl} (h:RdCs w [v] [c]):RdD w (Old w) c v:=h.1
variable {H:Type} {enc:TypeId×Value→H} {P:Program} {w:World} {sp:Nat→Bool} {held:Bool}
theorem mapM_each {α β:Type} {f:α→Option β}:∀ {l:List α} {ys:List β},l.mapM f=some ys→∀ (j:Nat) (x:α),l[j]?=some x→∃ y,f x=some y
 | [],_,_,j,x,hj=>by simp at hj
 | a::l,ys,h,j,x,hj=>by
  rw[List.mapM_cons] at h
  cases ha:f a with
  | none=>simp[ha] at h
  | some b =>
   cases hl:l.mapM f with
   | none=>simp[ha,hl] at h
   | some bs =>
    cases j with
    | zero=>simp at hj; subst hj; exact⟨b,ha⟩
    | succ j=>exact mapM_each hl j x (by simpa using hj)
theorem mapM_at {α β:Type} {f:α→Option β}:∀ {l:List α} {ys:List β},l.mapM f=some ys→∀ (j:Nat) (x:α),l[j]?=some x→∃ y,ys[j]?=some y∧f x=some y
 | [],_,_,j,x,hj=>by simp at hj
 | a::l,ys,h,j,x,hj=>by
  rw[List.mapM_cons] at h
  cases ha:f a with
  | none=>simp[ha] at h
  | some b =>
   cases hl:l.mapM f with
   | none=>simp[ha,hl] at h
   | some bs =>
    simp[ha,hl] at h
    subst h
    cases j with
    | zero=>simp at hj; subst hj; exact⟨b,rfl,ha⟩
    | succ j=>simpa using mapM_at hl j x (by simpa using hj)
theorem ABq {k:IntKind} {t:TypeId} (ht:P.underlying t=some (.int k)) {fuel:Nat} {cs:List Value} {y:DataW H×List MemPlace} (h:DataW.trod enc P w 0 sp held fuel t cs=some y) :
  ∃ n:Int,RdCs w cs [.v (.int k n)]:=by
 cases fuel with
 | zero=>simp[DataW.trod] at h
 | succ fuel =>
  unfold DataW.trod at h
  rw[ht] at h
  simp only at h
  split at h<;>simp_all
  rename_i k' n heq
  obtain⟨⟨rfl,hw⟩,_⟩:=h
  exact⟨n,⟨rfl,by simpa [Nu] using hw⟩,trivial⟩
theorem ADR {t:TypeId} (ht:P.underlying t=some .bool) {fuel:Nat} {cs:List Value} {y:DataW H×List MemPlace} (h:DataW.trod enc P w 0 sp held fuel t cs=some y) :
  ∃ n:Bool,RdCs w cs [.v (.bool n)]:=by
 cases fuel with
 | zero=>simp[DataW.trod] at h
 | succ fuel =>
  rcases cs with _ | ⟨c,_ | ⟨c2,cs⟩⟩
  ·simp[DataW.trod,ht] at h
  ·cases c with
   | bool b=>exact⟨b,⟨rfl,rfl⟩,trivial⟩
   | _=>simp[DataW.trod,ht] at h
  ·simp[DataW.trod,ht] at h
theorem zn {t:TypeId} (ht:P.underlying t=some .string) {fuel:Nat} {cs:List Value} {y:DataW H×List MemPlace} (h:DataW.trod enc P w 0 sp held fuel t cs=some y) :
  ∃ n:ByteArray,RdCs w cs [.v (.string n)]:=by
 cases fuel with
 | zero=>simp[DataW.trod] at h
 | succ fuel =>
  rcases cs with _ | ⟨c,_ | ⟨c2,cs⟩⟩
  ·simp[DataW.trod,ht] at h
  ·cases c with
   | string b =>
    simp only[DataW.trod,ht] at h
    split at h
    ·rename_i hb
     exact⟨b,⟨rfl,by simpa [Nu] using hb⟩,trivial⟩
    ·cases h
   | _=>simp[DataW.trod,ht] at h
  ·simp[DataW.trod,ht] at h
theorem zo {t:TypeId} {fs:Array Field} (ht:P.underlying t=some (.struct fs)) {fuel:Nat} {cs:List Value} {y:DataW H×List MemPlace} (h:DataW.trod enc P w 0 sp held (fuel+1) t cs=some y) :
  cs.length=P.cellsOf t∧∀ (j:Nat) (f:Field),fs.toList[j]?=some f→∃ y,DataW.trod enc P w 0 sp held fuel f.type ((cs.drop f.offset).take (P.cellsOf f.type))=some y:=by
 simp only[DataW.trod,ht] at h
 split at h
 ·rename_i hl
  obtain⟨xs,hx,_⟩:=uB.1 h
  exact⟨hl,fun j f hj=>mapM_each hx j f hj⟩
 ·cases h
theorem ABr {α:Type} {f:α→List Cl} {t e:TypeId} (ht:P.underlying t=some (.slice e)) {fuel:Nat} (hlen:∀ x,(f x).length=P.cellsOf e) (hpos:0<P.cellsOf e)
  (he:∀ (cs:List Value) (y:DataW H×List MemPlace),DataW.trod enc P w 0 sp held fuel e cs=some y→∃ x,RdCs w cs (f x))
  {cs:List Value} {y:DataW H×List MemPlace} (h:DataW.trod enc P w 0 sp held (fuel+1) t cs=some y):∃ xs:List α,RdCs w cs [.sl (xs.map f)]:=by
 rcases cs with _ | ⟨c,_ | ⟨c2,cs⟩⟩
 ·simp[DataW.trod,ht] at h
 ·cases c with
  | slice a len cap =>
   cases a with
   | none =>
    have:len=0∧cap=0:=by
     simp only[DataW.trod,ht] at h
     split at h<;>simp_all
    obtain⟨rfl,rfl⟩:=this
    exact⟨[],⟨by simp only[RdD]; exact⟨none,0,rfl,by simp,by simp[maxLen],⟨0,by simp⟩,.inl rfl⟩,trivial⟩⟩
   | some a =>
    simp only[DataW.trod,ht] at h
    split at h
    ·rename_i hb
     obtain⟨_,hlc,hcm⟩:=hb
     obtain⟨es,hes,_⟩:=Option.bind_eq_some_iff.1 h
     have hel:∀ i,i<len→∃ x:α,∃ vs:List Value,w.cells? 0 (a.add (i*P.cellsOf e)) (P.cellsOf e)=some vs∧RdCs w vs (f x):=by
      intro i hi
      obtain⟨z,hz⟩:=mapM_each hes i i (by simp[hi])
      obtain⟨vs,hvs,hz⟩:=Option.bind_eq_some_iff.1 hz
      obtain⟨x,hx⟩:=he vs z hz
      exact⟨x,vs,hvs,hx⟩
     by_cases hz:len=0
     ·subst hz
      exact⟨[],⟨by simp only[RdD]; exact⟨some a,cap,rfl,by simp,hcm,⟨0,by simp⟩,.inl rfl⟩,trivial⟩⟩
     ·have hcell:∀ i,i<len→∀ k,k<P.cellsOf e→∃ u,w.cell? ((a.add (i*P.cellsOf e)).add k)=some u:=by
       intro i hi k hk
       obtain⟨x,vs,hvs,hx⟩:=hel i hi
       simp only[World.cells?,ak,aW] at hvs
       obtain⟨u,hu⟩:=mapM_each hvs k k (by simp[hk])
       exact⟨u,hu⟩
      have hspot:a.spot=none:=by
       obtain⟨u,hu⟩:=hcell 0 (by omega) 0 hpos
       simp only[Nat.zero_mul,Addr.add,aW] at hu
       unfold World.cell? at hu
       split at hu
       ·split at hu
        ·cases hu
        ·rename_i hs; simpa using hs
       ·cases hu
      obtain⟨b,off,spot⟩:=a
      simp only at hspot
      subst hspot
      have hadd:∀ i,(⟨b,off,none⟩:Addr).add i=⟨b,off+i,none⟩:=by
       intro i; unfold Addr.add; split
       ·rename_i h0; subst h0; rfl
       ·rfl
      simp only[hadd] at hel
      have hch:∃ g:Nat→α,∀ i,i<len→∃ vs:List Value,w.cells? 0 ⟨b,off+i*P.cellsOf e,none⟩ (P.cellsOf e)=some vs∧RdCs w vs (f (g i)):=by
       obtain⟨x0,_⟩:=hel 0 (by omega)
       refine⟨fun i=>if h:i<len then(hel i h).choose else x0,fun i hi=>?_⟩
       simp only[hi,dif_pos]
       exact(hel i hi).choose_spec
      obtain⟨g,hg⟩:=hch
      refine⟨(List.range len).map g,⟨?_,trivial⟩⟩
      simp only[RdD]
      refine⟨some ⟨b,off,none⟩,cap,by simp,by simpa using hlc,hcm,⟨P.cellsOf e, ?_⟩,.inr ⟨b,off,rfl, ?_⟩⟩
      ·intro x hx
       simp only[RX] at hx
       obtain⟨y,_,rfl⟩:=hx
       exact hlen y
      ·refine RdE.mk (P.cellsOf e) ?_ fun i x hi=>?_
       ·intro x hx
        simp only[RX] at hx
        obtain⟨y,_,rfl⟩:=hx
        exact hlen y
       ·have hil:i<len:=by
         rcases bf i len with h' | h'
         ·exact h'
         ·rw[bF (by simpa using h')] at hi; cases hi
        have hx:x=f (g i):=by simpa [hil] using hi.symm
        subst hx
        obtain⟨vs,hvs,hrd⟩:=hg i hil
        refine RdL.mk fun j c hj=>?_
        obtain⟨u,hu,hc⟩:=hrd.at j c hj
        simp only[World.cells?,ak,aW] at hvs
        have hjl:j<P.cellsOf e:=by
         rw[← hlen (g i)]
         rcases bf j (f (g i)).length with h' | h'
         ·exact h'
         ·rw[bF h'] at hj; cases hj
        obtain⟨u2,hu2,hcl⟩:=mapM_at hvs j j (by simp[hjl])
        rw[hu2] at hu
        simp only[ah] at hu
        subst hu
        have hadd2:(⟨b,off+i*P.cellsOf e,none⟩:Addr).add j=⟨b,off+i*P.cellsOf e+j,none⟩:=by
         unfold Addr.add; split
         ·rename_i h0; subst h0; rfl
         ·rfl
        rw[hadd2] at hcl
        exact⟨by simp[Old,hcl],u2,hcl,hc⟩
    ·cases h
  | _=>simp[DataW.trod,ht] at h
 ·simp[DataW.trod,ht] at h
theorem Fe {α:Type} {f:α→List Cl} {t e:TypeId} {n:Nat} (ht:P.underlying t=some (.slice e)) (hn:P.cellsOf e=n) (hlen:∀ x,(f x).length=n) (hpos:0<n) {fuel:Nat}
  (he:∀ fuel',fuel'<fuel→∀ (cs:List Value) (y:DataW H×List MemPlace),DataW.trod enc P w 0 sp held fuel' e cs=some y→∃ x,RdCs w cs (f x))
  {cs:List Value} {y:DataW H×List MemPlace} (h:DataW.trod enc P w 0 sp held fuel t cs=some y):∃ xs:List α,RdCs w cs [.sl (xs.map f)]:=by
 subst hn
 cases fuel with
 | zero=>simp[DataW.trod] at h
 | succ fuel=>exact ABr ht hlen hpos (he fuel (by omega)) h
theorem DV {t:TypeId} {fs:Array Field} {n:Nat} (ht:P.underlying t=some (.struct fs)) (hn:P.cellsOf t=n) {fuel:Nat} {cs:List Value} {y:DataW H×List MemPlace} (h:DataW.trod enc P w 0 sp held fuel t cs=some y) :
  ∃ fuel',fuel'<fuel∧cs.length=n∧∀ (j:Nat) (f:Field),fs.toList[j]?=some f→∃ y,DataW.trod enc P w 0 sp held fuel' f.type ((cs.drop f.offset).take (P.cellsOf f.type))=some y:=by
 subst hn
 cases fuel with
 | zero=>simp[DataW.trod] at h
 | succ fuel=>exact⟨fuel,by omega,zo ht h⟩
theorem Old.lt {w:World} {b o:Nat} (h:Old w b o):b<w.heap.size:=by
 unfold Old World.cell? at h
 rcases bf b w.heap.size with h' | h'
 ·exact h'
 ·simp[Array.getElem?_eq_none h'] at h
end Go.Vm
