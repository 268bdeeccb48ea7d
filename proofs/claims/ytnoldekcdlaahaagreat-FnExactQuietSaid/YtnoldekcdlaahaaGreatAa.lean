/- A part. -/
import Derived.Test.YtnoldekcdlaahaaGreatFa
import Derived.Test.YtnoldekcdlaahaaGreatVmW
import Derived.ProofKit
set_option linter.unusedSimpArgs false
set_option linter.unusedVariables false
set_option maxHeartbeats 2000000
set_option maxRecDepth 10000
open Go.Proofs.Tryz
namespace Go.Proofs.YtnoldekcdlaahaaGreat
open Go.Vm
def Aa (x a b:Int):Bool:=decide (a≤x)&&decide (x≤b)
theorem AP (x a b:Int):Ctr prog 29 [.c (.v (.int .i64 x)),.c (.v (.int .i64 a)),.c (.v (.int .i64 b))] [.val (.c (.v (.bool (Aa x a b))))]:=by
 refine CM call29 func29 ntmps29 results29 fun _=>?_
 exact ANG
theorem AL (x a b:Int):Ctr prog 40 [.c (.v (.int .i64 x)),.c (.v (.int .i64 a)),.c (.v (.int .i64 b))] [.val (.c (.v (.bool (Aa x a b))))]:=by
 refine CM call40 func40 ntmps40 results40 fun _=>?_
 exact ANG
def EL (n:Int):Bool:=Aa n (-1000000000) 1000000000
theorem Jj (x:Int):Ctr prog 367 [.c (.v (.int .i64 x))] [.val (.c (.v (.bool (EL x))))]:=by
 refine CM call367 func367 ntmps367 results367 fun _=>?_
 simp only[go_sem]
 refine AAT _ (AP _ _ _) fun _=>?_
 simp only[go_sem,EL]
theorem NL (x:Int):Ctr prog 371 [.c (.v (.int .i64 x))] [.val (.c (.v (.bool (EL x))))]:=by
 refine CM call371 func371 ntmps371 results371 fun _=>?_
 simp only[go_sem]
 refine AAT _ (AL _ _ _) fun _=>?_
 simp only[go_sem,EL]
def Yx (c:UInt8):Bool:=Aa c.toNat 97 122||Aa c.toNat 48 57
def Um (s:ByteArray):Bool:=decide (∀ i (h:i<s.size),Yx s[i]=true)
def BK (d:DVal):Bool:=if d.ty=1 then EL d.n&&(d.s.toList==({ data:=#[] }:ByteArray).toList) else(d.ty==2)&&(d.n==0)&&decide (d.s.size≤6)&&Um d.s
theorem IV (d:DVal):Ctr prog 350 [.agg d.c] [.val (.c (.v (.bool (BK d))))]:=by
 refine CM call350 func350 ntmps350 results350 fun hw=>?_
 have hs:d.s.size≤9223372036854775807:=zX hw.1.2.2.1
 refine AOb (fun h=>?_) fun h=>?_
 ·have h1:d.ty=1:=by simpa using h
  simp only[go_sem]
  refine AAT _ (Jj _) fun _=>?_
  exact ANg
 ·have h1:¬ d.ty=1:=by simpa using h
  simp only[go_sem]
  refine AB7 1 [1,3] (A:=Nat) (fun k=>⟨56,[(1,.lp 0 0 0),(3,.c (.v (.int .i64 k)))],[⟨64,3,[d.c],true,true⟩]⟩) (fun k=>k≤d.s.size∧k≤7∧∀ i (h:i<d.s.size),i<k→Yx d.s[i]=true) (fun k=>d.s.size-k) 0 ⟨⟨rfl,rfl⟩,rfl,az _,AOh,fun i _ hi=>AOh⟩ ?_
  rintro k ⟨hk,hk7,hok⟩
  simp only[go_sem]
  have hW (c:UInt8):IntKind.i64.wrap (c.toNat:Int)=c.toNat:=wrap_i64 AOh (by have:=c.toNat_lt; omega)
  have hfin:k=d.s.size∨(¬ k≤6)→((d.ty==2)&&(d.n==0)&&decide ((d.s.size:Int)≤6))=BK d:=by
   intro hor
   simp only[BK,aZ h1]
   by_cases h6:d.s.size≤6
   ·have ht:Um d.s=true:=by
     simp only[Um,bf]
     intro i hi
     exact hok i hi AOh
    grind
   ·grind
  refine ADo (fun h=>?_) (fun h=>?_)
  ·have hk':k<d.s.size:=by simpa using h
   have hb:d.s[k]?=some d.s[k]:=getElem?_pos d.s k hk'
   simp only[go_sem,h,hk']
   refine AA0 (fun h6=>?_) (fun h6=>?_)
   ·have h6':k≤6:=by simp at h6; omega
    have hbad:Yx d.s[k]=false→false=BK d:=by
     intro hc
     have ht:Um d.s=false:=by
      simp only[Um,aaL]
      intro hall
      rw[hall k hk'] at hc
      cases hc
     simp[BK,aZ h1,ht]
    simp only[go_sem,hb,hW]
    refine AAT _ (AP _ _ _) fun _=>?_
    simp only[go_sem]
    refine ADo (fun ha=>?_) (fun ha=>?_)
    ·simp only[go_sem,hb,hW,ha]
     refine AAT _ (AP _ _ _) fun _=>?_
     simp only[go_sem,hb,hW,ha]
     refine AA0 (fun hc=>?_) (fun hc=>?_)
     ·simp only[go_sem]
      rw[hbad (by simp[Yx]; grind)]
     ·simp only[go_sem,wrap_i64 (n:=(k:Int)+1) AOh AOh]
      exact AM2
    ·simp only[go_sem,hb,hW,ha,wrap_i64 (n:=(k:Int)+1) AOh AOh]
     exact AM2
   ·have hfin':=hfin (.inr AOk)
    simp only[go_sem]
    exact AMB
  ·have hk':k=d.s.size:=by simp at h; omega
   have hfin':=hfin (.inl hk')
   simp only[go_sem,h]
   exact AMB
theorem AC9 (d:DVal) {k:Nat} (hk:k<d.s.size) (hc:Yx d.s[k]=false) (h1:¬ d.ty=1):false=BK d:=by
 have ht:Um d.s=false:=by
  simp only[Um,aaL]
  intro hall
  rw[hall k hk] at hc
  cases hc
 simp[BK,aZ h1,ht]
theorem Dt (d:DVal):Ctr prog 360 [.agg d.c] [.val (.c (.v (.bool (BK d))))]:=by
 refine CM call360 func360 ntmps360 results360 fun hw=>?_
 have hs:d.s.size≤9223372036854775807:=zX hw.1.2.2.1
 refine AOb (fun h=>?_) fun h=>?_
 ·have h1:d.ty=1:=by simpa using h
  simp only[go_sem]
  refine AAT _ (NL _) fun _=>?_
  exact ANg
 ·have h1:¬ d.ty=1:=by simpa using h
  simp only[go_sem]
  refine AA0 (fun h2=>?_) (fun h2=>?_)
  ·have h2':d.ty=2:=by simpa using h2
   simp only[go_sem]
   refine AB7 1 [1,3] (A:=Nat) (fun k=>⟨66,[(1,.lp 0 0 0),(3,.c (.v (.int .i64 k)))],[⟨64,3,[d.c],true,true⟩]⟩) (fun k=>k≤d.s.size∧∀ i (h:i<d.s.size),i<k→Yx d.s[i]=true) (fun k=>d.s.size-k) 0 ⟨⟨rfl,rfl⟩,rfl,az _,fun i _ hi=>AOh⟩ ?_
   rintro k ⟨hk,hok⟩
   refine AOb (fun h=>?_) fun h=>?_
   ·have hk':k<d.s.size:=by simpa using h
    have hb:d.s[k]?=some d.s[k]:=getElem?_pos d.s k hk'
    have hgood:Yx d.s[k]=true→∀ i (h:i<d.s.size),i<k+1→Yx d.s[i]=true:=by
     intro hg i hi hik
     by_cases e:i=k
     ·grind
     ·grind
    rcases hA:decide ((d.s[k].toNat:Int)≥97) with _ | _<;>rcases hB:decide ((d.s[k].toNat:Int)≤122) with _ | _<;>rcases hC:decide ((d.s[k].toNat:Int)≥48) with _ | _<;>rcases hD:decide ((d.s[k].toNat:Int)≤57) with _ | _ <;>
     simp only[go_sem,hb,hA,hB,hC,hD,wrap_i64 (n:=(k:Int)+1) AOh AOh]<;>simp at hA hB hC hD<;>first
     | (rw[AC9 d hk' (by simp[Yx,Aa]; omega) h1]; done)
     | exact⟨k+1,⟨rfl,rfl⟩,rfl,⟨AOh,hgood (by simp[Yx,Aa]; omega)⟩,AOh⟩
   ·have hk':k=d.s.size:=by simp at h; omega
    have ht:Um d.s=true:=by
     simp only[Um,bf]
     intro i hi
     exact hok i hi AOh
    simp only[go_sem]
    refine ADo (fun e1=>?_) (fun e1=>?_)<;>simp only[go_sem,e1]<;>simp[BK,aZ h1,ht]<;>simp at e1<;>simp[h2']<;>omega
  ·have h2':¬ d.ty=2:=by simpa using h2
   simp only[go_sem]
   simp[BK,aZ h1,h2']
def fits:List Int→List DVal→Bool
 | [],[]=>true
 | c::cs,v::vs=>BK v&&(v.ty==c)&&fits cs vs
 | _,_=>false
theorem ZY:∀ (cs:List Int) (vs:List DVal),cs.length≠vs.length→fits cs vs=false
 | [],[],h=>AO_
 | [],_::_,_=>rfl
 | _::_,[],_=>rfl
 | c::cs,v::vs,h=>by simp only[fits]; rw[ZY cs vs AO7]; simp
theorem jo (cs:List Int) (vs:List DVal) {k:Nat} (h1:k<cs.length) (h2:k<vs.length):fits (cs.drop k) (vs.drop k)=(BK vs[k]&&(vs[k].ty==cs[k])&&fits (cs.drop (k+1)) (vs.drop (k+1))):=by
 rw[aG h1,aG h2]; rfl
theorem PZ (cs:List Int) (vs:List DVal):Ctr prog 296 [.c (.sl (cs.map intC)),.c (.sl (vs.map DVal.c))] [.val (.c (.v (.bool (fits cs vs))))]:=by
 refine CM call296 func296 ntmps296 results296 fun hw=>?_
 have hlen:vs.length≤9223372036854775807:=by have:=hw.2.1.1; simpa [Go.maxLen] using this
 refine AOc (fun h=>?_) fun h=>?_
 ·simp only[go_sem]
  grind [ZY]
 ·have he:cs.length=vs.length:=by simp at h; omega
  simp only[go_sem]
  refine AB7 0 [0,1,5] (A:=Nat) (fun k=>⟨35,[(0,.c (.sl (cs.map intC))),(1,.c (.sl (vs.map DVal.c))),(5,.c (.v (.int .i64 k)))],[]⟩) (fun k=>k≤vs.length∧fits (cs.drop k) (vs.drop k)=fits cs vs) (fun k=>vs.length-k) 0 ⟨⟨rfl,rfl⟩,rfl,az _,rfl⟩ ?_
  rintro k ⟨hk,hf⟩
  refine AOc (fun h=>?_) fun h=>?_
  ·have hk':k<vs.length:=by simpa using h
   have hk2:k<cs.length:=AOh
   rw[jo cs vs hk2 hk'] at hf
   simp only[go_sem]
   refine AAm ?_
   simp only[go_sem,ae,AA _ hk',AA _ hk2,hk',hk2]
   refine CY (IV vs[k]) ?_
   exact AKa
  ·exact ANU
theorem Pe (cs:List Int) (vs:List DVal):Ctr prog 309 [.c (.sl (cs.map intC)),.c (.sl (vs.map DVal.c))] [.val (.c (.v (.bool (fits cs vs))))]:=by
 refine CM call309 func309 ntmps309 results309 fun hw=>?_
 have hlen:vs.length≤9223372036854775807:=by have:=hw.2.1.1; simpa [Go.maxLen] using this
 refine AOc (fun h=>?_) fun h=>?_
 ·simp only[go_sem]
  grind [ZY]
 ·have he:cs.length=vs.length:=by simp at h; omega
  simp only[go_sem,ae]
  refine AB7 0 [0,12,13,14] (A:=Nat) (fun k=>⟨32,[(0,.c (.sl (cs.map intC))),(12,.c (.sl (vs.map DVal.c))),(13,.c (.v (.int .i64 vs.length))),(14,.c (.v (.int .i64 k)))],[]⟩) (fun k=>k≤vs.length∧fits (cs.drop k) (vs.drop k)=fits cs vs) (fun k=>vs.length-k) 0 ⟨⟨rfl,rfl⟩,rfl,az _,rfl⟩ ?_
  rintro k ⟨hk,hf⟩
  refine AOc (fun h=>?_) fun h=>?_
  ·have hk':k<vs.length:=by simpa using h
   have hk2:k<cs.length:=AOh
   rw[jo cs vs hk2 hk'] at hf
   simp only[go_sem,AA _ hk']
   refine AAm ?_
   simp only[go_sem,ae,AA _ hk',AA _ hk2,hk',hk2]
   refine CY (Dt vs[k]) ?_
   exact AKa
  ·exact ANU
def rowOk (cs:List Int) (r:DRow):Bool:=decide (r.id≥0)&&fits cs r.l
theorem rD (cs:List Int) (r:DRow):Ctr prog 324 [.c (.sl (cs.map intC)),.agg r.c] [.val (.c (.v (.bool (rowOk cs r))))]:=by
 refine CM call324 func324 ntmps324 results324 fun hw=>?_
 simp only[go_sem]
 rcases hi:decide (r.id≥0) with _ | _
 ·simp only[go_sem,hi]; simp only[rowOk,hi,ai]
 ·simp only[go_sem,hi]
  refine AAT _ (PZ cs r.l) fun _=>?_
  simp only[go_sem,hi]; simp only[rowOk,hi,aj]
theorem rE (cs:List Int) (r:DRow):Ctr prog 331 [.c (.sl (cs.map intC)),.agg r.c] [.val (.c (.v (.bool (rowOk cs r))))]:=by
 refine CM call331 func331 ntmps331 results331 fun hw=>?_
 simp only[go_sem]
 rcases hi:decide (r.id≥0) with _ | _
 ·simp only[go_sem,hi]; simp only[rowOk,hi,ai]
 ·simp only[go_sem,hi]
  refine AAT _ (Pe cs r.l) fun _=>?_
  simp only[go_sem,hi]; simp only[rowOk,hi,aj]
def Ql (cs:List Int):Bool:=cs.all fun c=>Aa c 1 2
def FN (cs:List Int):Bool:=Ql cs&&Aa cs.length 1 3
theorem ZZ (cs:List Int) {k:Nat} (h:k<cs.length):Ql (cs.drop k)=(Aa cs[k] 1 2&&Ql (cs.drop (k+1))):=by
 rw[aG h]; rfl
theorem Pg (cs:List Int):Ctr prog 190 [.c (.sl (cs.map intC))] [.val (.c (.v (.bool (FN cs))))]:=by
 refine CM call190 func190 ntmps190 results190 fun hw=>?_
 have hlen:cs.length≤9223372036854775807:=API
 simp only[go_sem,ae]
 refine AB7 0 [0,3] (A:=Nat) (fun k=>⟨19,[(0,.c (.sl (cs.map intC))),(3,.c (.v (.int .i64 k)))],[]⟩) (fun k=>k≤cs.length∧Ql (cs.drop k)=Ql cs) (fun k=>cs.length-k) 0 ⟨⟨rfl,rfl⟩,rfl,az _,rfl⟩ ?_
 rintro k ⟨hk,hf⟩
 refine AOc (fun h=>?_) fun h=>?_
 ·have hk':k<cs.length:=by simpa using h
  rw[ZZ cs hk'] at hf
  simp only[go_sem,AA _ hk']
  refine AAT _ (AP _ _ _) fun _=>?_
  simp only[go_sem]
  rcases hi:Aa cs[k] 1 2 with _ | _
  ·simp only[go_sem,hi]
   rw[hi,ai] at hf
   simp only[FN,← hf,ai]
  ·simp only[go_sem,hi,wrap_i64 (n:=(k:Int)+1) AOh AOh]
   rw[hi,aj] at hf
   exact AKe
 ·have hk':k=cs.length:=by simp at h; omega
  subst hk'
  simp only[go_sem,ae]
  refine AAT _ (AP _ _ _) fun _=>?_
  simp only[go_sem]
  rw[aV] at hf
  simp only[FN,← hf]; simp[Ql]
theorem Ph (cs:List Int):Ctr prog 218 [.c (.sl (cs.map intC))] [.val (.c (.v (.bool (FN cs))))]:=by
 refine CM call218 func218 ntmps218 results218 fun hw=>?_
 have hlen:cs.length≤9223372036854775807:=API
 simp only[go_sem,ae]
 refine AB7 0 [0,5,6,7] (A:=Nat) (fun k=>⟨21,[(0,.c (.sl (cs.map intC))),(5,.c (.sl (cs.map intC))),(6,.c (.v (.int .i64 cs.length))),(7,.c (.v (.int .i64 k)))],[]⟩) (fun k=>k≤cs.length∧Ql (cs.drop k)=Ql cs) (fun k=>cs.length-k) 0 ⟨⟨rfl,rfl⟩,rfl,az _,rfl⟩ ?_
 rintro k ⟨hk,hf⟩
 refine AOc (fun h=>?_) fun h=>?_
 ·have hk':k<cs.length:=by simpa using h
  rw[ZZ cs hk'] at hf
  simp only[go_sem,AA _ hk']
  have hgood:Aa cs[k] 1 2=true→Ql (cs.drop (k+1))=Ql cs:=by intro hi; rw[hi,aj] at hf; exact hf
  rcases h1:cs[k] != 1 with _ | _
  ·simp only[go_sem,h1,wrap_i64 (n:=(k:Int)+1) AOh AOh]
   exact⟨k+1,⟨rfl,rfl⟩,rfl,⟨AOh,hgood (by simp[Aa]; grind)⟩,AOh⟩
  ·rcases h2:cs[k] != 2 with _ | _
   ·simp only[go_sem,h1,h2,wrap_i64 (n:=(k:Int)+1) AOh AOh]
    exact⟨k+1,⟨rfl,rfl⟩,rfl,⟨AOh,hgood (by simp[Aa]; grind)⟩,AOh⟩
   ·simp only[go_sem,h1,h2]
    have hi:Aa cs[k] 1 2=false:=by simp[Aa]; simp at h1 h2; omega
    rw[hi,ai] at hf
    simp only[FN,← hf,ai]
 ·have hk':k=cs.length:=by simp at h; omega
  subst hk'
  simp only[go_sem,ae]
  refine AAT _ (AL _ _ _) fun _=>?_
  simp only[go_sem]
  rw[aV] at hf
  simp only[FN,← hf]; simp[Ql]
def rowAt (cs:List Int) (l:List DRow) (i:Nat):Prop:=∀ h:i<l.length,rowOk cs l[i]=true∧(0<i→l[i-1].id<l[i].id)
noncomputable def UD (cs:List Int) (l:List DRow):Bool:=@decide (∀ i,rowAt cs l i) (Classical.propDecidable _)
theorem ABb {cs:List Int} {l:List DRow} {i:Nat} (h:¬ rowAt cs l i):UD cs l=false:=by
 simp only[UD,aaL]
 grind
theorem xg {cs:List Int} {l:List DRow} (h:∀ i,i<l.length→rowAt cs l i):UD cs l=true:=by
 simp only[UD,bf]
 intro i hi
 exact h i hi hi
end Go.Proofs.YtnoldekcdlaahaaGreat
namespace Go.Vm
open Go.RowKit Go.WideShapes
def Old (w:World) (b o:Nat):Prop:=(w.cell? ⟨b,o,none⟩).isSome=true
def RdCs (w:World):List Value→List Cl→Prop
 | [],[]=>True
 | u::us,c::cs=>RdD w (Old w) c u∧RdCs w us cs
 | _,_=>False
theorem RdCs.append {w:World}:∀ {us:List Value} {cs:List Cl} {us':List Value} {cs':List Cl},RdCs w us cs→RdCs w us' cs'→RdCs w (us++us') (cs++cs')
 | [],[],_,_,_,h=>h
 | _::_,_::_,_,_,h,h'=>⟨h.1,RdCs.append h.2 h'⟩
 | [],_::_,_,_,h,_=>h.elim
 | _::_,[],_,_,h,_=>h.elim
theorem RdCs.len {w:World}:∀ {us:List Value} {cs:List Cl},RdCs w us cs→us.length=cs.length
 | [],[],_=>rfl
 | _::_,_::_,h=>by simp[RdCs.len h.2]
 | [],_::_,h=>h.elim
 | _::_,[],h=>h.elim
theorem RdCs.at {w:World}:∀ {us:List Value} {cs:List Cl},RdCs w us cs→∀ (k:Nat) (c:Cl),cs[k]?=some c→∃ y,us[k]?=some y∧RdD w (Old w) c y
 | [],[],_,k,c,hk=>APM
 | u::us,c0::cs,h,k,c,hk=>by
  cases k with
  | zero=>simp at hk; subst hk; exact⟨u,rfl,h.1⟩
  | succ k=>simpa using RdCs.at h.2 k c AOk
 | [],_::_,h,_,_,_=>h.elim
 | _::_,[],h,_,_,_=>h.elim
theorem RdCs.glue {w:World} {us:List Value} {o n m:Nat} {A B:List Cl} (hA:RdCs w ((us.drop o).take n) A) (hm:o+n=m) (hB:RdCs w (us.drop m) B):RdCs w (us.drop o) (A++B):=by
 subst hm
 have:=hA.append hB
 grind [List.drop_drop,List.take_append_drop]
theorem RdCs.last {w:World} {us:List Value} {o n:Nat} {A:List Cl} (hA:RdCs w ((us.drop o).take n) A) (hm:us.length=o+n):RdCs w (us.drop o) A:=by
 grind [aaz]
theorem RdCs.agg {w:World} {us:Array Value} {cs:List Cl} (h:RdCs w us.toList cs):RdA w (Old w) (.agg cs) (.agg us):=
 ⟨us.toList,AOi,h.len,fun k c hk=>h.at k c hk⟩
theorem RdCs.one {w:World} {v:Value} {c:Cl} (h:RdCs w [v] [c]):RdD w (Old w) c v:=h.1
variable {H:Type} {enc:TypeId×Value→H} {P:Program} {w:World} {sp:Nat→Bool} {held:Bool}
theorem mapM_each {α β:Type} {f:α→Option β}:∀ {l:List α} {ys:List β},l.mapM f=some ys→∀ (j:Nat) (x:α),l[j]?=some x→∃ y,f x=some y
 | [],_,_,j,x,hj=>by simp at hj
 | a::l,ys,h,j,x,hj=>by
  rw[List.mapM_cons] at h
  cases ha:f a with
  | none=>grind
  | some b =>
   cases hl:l.mapM f with
   | none=>grind
   | some bs =>
    cases j with
    | zero=>grind
    | succ j=>exact mapM_each hl j x AOk
theorem mapM_at {α β:Type} {f:α→Option β}:∀ {l:List α} {ys:List β},l.mapM f=some ys→∀ (j:Nat) (x:α),l[j]?=some x→∃ y,ys[j]?=some y∧f x=some y
 | [],_,_,j,x,hj=>by simp at hj
 | a::l,ys,h,j,x,hj=>by
  rw[List.mapM_cons] at h
  cases ha:f a with
  | none=>grind
  | some b =>
   cases hl:l.mapM f with
   | none=>grind
   | some bs =>
    simp[ha,hl] at h
    subst h
    cases j with
    | zero=>grind
    | succ j=>simpa using mapM_at hl j x AOk
theorem AC_ {k:IntKind} {t:TypeId} (ht:P.underlying t=some (.int k)) {fuel:Nat} {cs:List Value} {y:DataW H×List MemPlace} (h:DataW.trod enc P w 0 sp held fuel t cs=some y) :
  ∃ n:Int,RdCs w cs [.v (.int k n)]:=by
 cases fuel with
 | zero=>simp[DataW.trod] at h
 | succ fuel =>
  unfold DataW.trod at h
  rw[ht] at h
  simp only at h
  split at h<;>simp_all
  rename_i k' n heq
  obtain⟨⟨rfl,hw⟩,_⟩:=h
  exact⟨n,⟨rfl,by simpa [QZ] using hw⟩,trivial⟩
theorem AE7 {t:TypeId} (ht:P.underlying t=some .bool) {fuel:Nat} {cs:List Value} {y:DataW H×List MemPlace} (h:DataW.trod enc P w 0 sp held fuel t cs=some y) :
  ∃ n:Bool,RdCs w cs [.v (.bool n)]:=by
 cases fuel with
 | zero=>simp[DataW.trod] at h
 | succ fuel =>
  rcases cs with _ | ⟨c,_ | ⟨c2,cs⟩⟩
  ·exact ANy
  ·cases c with
   | bool b=>exact⟨b,⟨rfl,rfl⟩,trivial⟩
   | _=>simp[DataW.trod,ht] at h
  ·exact ANy
theorem ABc {t:TypeId} (ht:P.underlying t=some .string) {fuel:Nat} {cs:List Value} {y:DataW H×List MemPlace} (h:DataW.trod enc P w 0 sp held fuel t cs=some y) :
  ∃ n:ByteArray,RdCs w cs [.v (.string n)]:=by
 cases fuel with
 | zero=>simp[DataW.trod] at h
 | succ fuel =>
  rcases cs with _ | ⟨c,_ | ⟨c2,cs⟩⟩
  ·exact ANy
  ·cases c with
   | string b =>
    simp only[DataW.trod,ht] at h
    split at h
    ·rename_i hb
     exact⟨b,⟨rfl,by simpa [QZ] using hb⟩,trivial⟩
    ·cases h
   | _=>simp[DataW.trod,ht] at h
  ·exact ANy
theorem ABd {t:TypeId} {fs:Array Field} (ht:P.underlying t=some (.struct fs)) {fuel:Nat} {cs:List Value} {y:DataW H×List MemPlace} (h:DataW.trod enc P w 0 sp held (fuel+1) t cs=some y) :
  cs.length=P.cellsOf t∧∀ (j:Nat) (f:Field),fs.toList[j]?=some f→∃ y,DataW.trod enc P w 0 sp held fuel f.type ((cs.drop f.offset).take (P.cellsOf f.type))=some y:=by
 simp only[DataW.trod,ht] at h
 grind [yx,mapM_each]
theorem ADA {α:Type} {f:α→List Cl} {t e:TypeId} (ht:P.underlying t=some (.slice e)) {fuel:Nat} (hlen:∀ x,(f x).length=P.cellsOf e) (hpos:0<P.cellsOf e)
  (he:∀ (cs:List Value) (y:DataW H×List MemPlace),DataW.trod enc P w 0 sp held fuel e cs=some y→∃ x,RdCs w cs (f x))
  {cs:List Value} {y:DataW H×List MemPlace} (h:DataW.trod enc P w 0 sp held (fuel+1) t cs=some y):∃ xs:List α,RdCs w cs [.sl (xs.map f)]:=by
 rcases cs with _ | ⟨c,_ | ⟨c2,cs⟩⟩
 ·exact ANy
 ·cases c with
  | slice a len cap =>
   cases a with
   | none =>
    have:len=0∧cap=0:=by
     simp only[DataW.trod,ht] at h
     split at h<;>simp_all
    obtain⟨rfl,rfl⟩:=this
    exact⟨[],⟨by simp only[RdD]; exact⟨none,0,rfl,AOi,by simp[maxLen],⟨0,AOi⟩,.inl rfl⟩,trivial⟩⟩
   | some a =>
    simp only[DataW.trod,ht] at h
    split at h
    ·rename_i hb
     obtain⟨_,hlc,hcm⟩:=hb
     obtain⟨es,hes,_⟩:=Option.bind_eq_some_iff.1 h
     have hel:∀ i,i<len→∃ x:α,∃ vs:List Value,w.cells? 0 (a.add (i*P.cellsOf e)) (P.cellsOf e)=some vs∧RdCs w vs (f x):=by
      intro i hi
      obtain⟨z,hz⟩:=mapM_each hes i i AP_
      obtain⟨vs,hvs,hz⟩:=Option.bind_eq_some_iff.1 hz
      obtain⟨x,hx⟩:=he vs z hz
      exact⟨x,vs,hvs,hx⟩
     by_cases hz:len=0
     ·subst hz
      exact⟨[],⟨by simp only[RdD]; exact⟨some a,cap,rfl,AOi,hcm,⟨0,AOi⟩,.inl rfl⟩,trivial⟩⟩
     ·have hcell:∀ i,i<len→∀ k,k<P.cellsOf e→∃ u,w.cell? ((a.add (i*P.cellsOf e)).add k)=some u:=by
       intro i hi k hk
       obtain⟨x,vs,hvs,hx⟩:=hel i hi
       simp only[World.cells?,az,aX] at hvs
       obtain⟨u,hu⟩:=mapM_each hvs k k (by simp[hk])
       exact⟨u,hu⟩
      have hspot:a.spot=none:=by
       obtain⟨u,hu⟩:=hcell 0 AOh 0 hpos
       simp only[Nat.zero_mul,Addr.add,aX] at hu
       unfold World.cell? at hu
       split at hu
       ·simp_all
       ·cases hu
      obtain⟨b,off,spot⟩:=a
      simp only at hspot
      subst hspot
      have hadd:∀ i,(⟨b,off,none⟩:Addr).add i=⟨b,off+i,none⟩:=by
       intro i; unfold Addr.add; split
       ·grind
       ·rfl
      simp only[hadd] at hel
      have hch:∃ g:Nat→α,∀ i,i<len→∃ vs:List Value,w.cells? 0 ⟨b,off+i*P.cellsOf e,none⟩ (P.cellsOf e)=some vs∧RdCs w vs (f (g i)):=by
       obtain⟨x0,_⟩:=hel 0 AOh
       refine⟨fun i=>if h:i<len then(hel i h).choose else x0,fun i hi=>?_⟩
       simp only[hi,dif_pos]
       exact(hel i hi).choose_spec
      obtain⟨g,hg⟩:=hch
      refine⟨(List.range len).map g,⟨?_,trivial⟩⟩
      simp only[RdD]
      refine⟨some ⟨b,off,none⟩,cap,AOi,AOk,hcm,⟨P.cellsOf e, ?_⟩,.inr ⟨b,off,rfl, ?_⟩⟩
      ·grind
      ·refine ADp (P.cellsOf e) ?_ fun i x hi=>?_
       ·grind
       ·have hil:i<len:=by
         rcases bQ i len with h' | h'
         ·exact h'
         ·grind
        have hx:x=f (g i):=by simpa [hil] using hi.symm
        subst hx
        obtain⟨vs,hvs,hrd⟩:=hg i hil
        refine AC7 fun j c hj=>?_
        obtain⟨u,hu,hc⟩:=hrd.at j c hj
        simp only[World.cells?,az,aX] at hvs
        have hjl:j<P.cellsOf e:=by
         rw[← hlen (g i)]
         rcases bQ j (f (g i)).length with h' | h'
         ·exact h'
         ·grind
        obtain⟨u2,hu2,hcl⟩:=mapM_at hvs j j (by simp[hjl])
        rw[hu2] at hu
        simp only[ak] at hu
        subst hu
        have hadd2:(⟨b,off+i*P.cellsOf e,none⟩:Addr).add j=⟨b,off+i*P.cellsOf e+j,none⟩:=by
         unfold Addr.add; split
         ·grind
         ·rfl
        rw[hadd2] at hcl
        exact⟨by simp[Old,hcl],u2,hcl,hc⟩
    ·cases h
  | _=>simp[DataW.trod,ht] at h
 ·exact ANy
theorem Gs {α:Type} {f:α→List Cl} {t e:TypeId} {n:Nat} (ht:P.underlying t=some (.slice e)) (hn:P.cellsOf e=n) (hlen:∀ x,(f x).length=n) (hpos:0<n) {fuel:Nat}
  (he:∀ fuel',fuel'<fuel→∀ (cs:List Value) (y:DataW H×List MemPlace),DataW.trod enc P w 0 sp held fuel' e cs=some y→∃ x,RdCs w cs (f x))
  {cs:List Value} {y:DataW H×List MemPlace} (h:DataW.trod enc P w 0 sp held fuel t cs=some y):∃ xs:List α,RdCs w cs [.sl (xs.map f)]:=by
 subst hn
 cases fuel with
 | zero=>simp[DataW.trod] at h
 | succ fuel=>exact ADA ht hlen hpos (he fuel AOh) h
theorem D_ {t:TypeId} {fs:Array Field} {n:Nat} (ht:P.underlying t=some (.struct fs)) (hn:P.cellsOf t=n) {fuel:Nat} {cs:List Value} {y:DataW H×List MemPlace} (h:DataW.trod enc P w 0 sp held fuel t cs=some y) :
  ∃ fuel',fuel'<fuel∧cs.length=n∧∀ (j:Nat) (f:Field),fs.toList[j]?=some f→∃ y,DataW.trod enc P w 0 sp held fuel' f.type ((cs.drop f.offset).take (P.cellsOf f.type))=some y:=by
 subst hn
 cases fuel with
 | zero=>simp[DataW.trod] at h
 | succ fuel=>exact⟨fuel,AOh,ABd ht h⟩
theorem Old.lt {w:World} {b o:Nat} (h:Old w b o):b<w.heap.size:=by
 unfold Old World.cell? at h
 grind
end Go.Vm
namespace Go.Vm
variable {P:Program} {w0:Bs} {St0 St:Nat→Nat→Prop} {β:Nat→Option Nat} {s t r:MS} {a:Act} {w:World}
theorem Core.reTell (h:Core w0 St0 St β s a w) (env':List (Nat×AV)) (st':List Ob)
  (hr:∀ l u,BN w s.st β l u→BN w st' β l u) (hp:∀ l i off u,AVR w St s.st β (.lp l i off) u→AVR w St st' β (.lp l i off) u)
  (henv:∀ i u,AVR w St st' β (Cb s.env i) u→AVR w St st' β (Cb env' i) u)
  (hst:∀ (l:Nat) (o':Ob),st'[l]?=some o'→o'.live=true→∃ o:Ob,s.st[l]?=some o∧o.live=true∧o'.ty=o.ty∧o'.sz=o.sz∧o'.wr=o.wr∧o'.xs.length=o.xs.length∧((∀ x∈o.xs,x.length=o.sz)→∀ x∈o'.xs,x.length=o.sz) ∧
   ∀ (k:Nat) (c':Cl),o'.xs.flatten[k]?=some c'→∃ c,o.xs.flatten[k]?=some c∧(∀ u,RdB w St st' β c u→RdB w St st' β c' u)∧(Gi c'=true→c=c')) :
  Core w0 St0 St β ⟨s.n,env',st'⟩ a w:=by
 have hA:∀ x u,AVR w St s.st β x u→AVR w St st' β x u:=fun x u hx=>AVR.mono (fun _ _ h=>h) (fun _ _ _=>rfl) hr hp x u hx
 have hB:∀ c u,RdB w St s.st β c u→RdB w St st' β c u:=fun c u hc=>RdB.mono (fun _ _ h=>h) (fun _ _ _=>rfl) hr c u hc
 exact {
  defers:=h.defers
  size:=h.size
  lim:=h.lim
  env:=fun i=>henv i _ (hA _ _ (h.env i))
  below:=h.below
  st0:=h.st0
  stOld:=h.stOld
  stIn:=h.stIn
  obs:=fun l o' b hl hlv hb=>by
   obtain⟨o,q1,q2,q3,q4,q5,q6,q7,q8⟩:=hst l o' hl hlv
   obtain⟨p1,p2,cs,p3,p4,p5⟩:=h.obs l o b q1 q2 hb
   refine⟨p1,p2,cs,AOk,AOk,fun k c' hk=>?_⟩
   grind
  nil:=fun l o' hl hlv hb=>by
   obtain⟨o,q1,q2,q3,q4,q5,q6,q7,q8⟩:=hst l o' hl hlv
   have:=h.nil l o q1 q2 hb
   grind
  inj:=fun l l' o1 o2 b h1 h2 g1 g2 hb hb'=>by
   obtain⟨p1,q1,q2,_⟩:=hst l o1 h1 g1
   obtain⟨p2,q3,q4,_⟩:=hst l' o2 h2 g2
   exact h.inj l l' p1 p2 b q1 q3 q2 q4 hb hb'
  sep:=fun l o' b o hl hlv hb hs=>by
   obtain⟨p,q1,q2,q3,q4,q5,q6,q7,q8⟩:=hst l o' hl hlv
   rw[q4,q5,q6]
   exact h.sep l p b o q1 q2 hb hs
  own:=h.own.move id (fun x hx=>⟨⟨hx.1,fun h=>h,hx.2.2.1,hx.2.2.2.1,fun l o' hl hlv=>by
    obtain⟨o,q1,q2,_⟩:=hst l o' hl hlv
    exact hx.2.2.2.2 l o q1 q2⟩,rfl⟩) (fun _ _ h=>h) (fun _ _ _=>rfl)
   (fun l o' b k c hl hlv hb hk hc=>by
    grind) (fun _ _ _ _ _ _ _ _ e=>e) }
def AK5:Cl:=.v (.slice none 0 0)
theorem Core.nilOb (h:Core w0 St0 St β s a w) (e n:Nat):∃ β',Core w0 St0 St β' ⟨s.n,s.env,s.st ++ [⟨e,n,[],true,true⟩]⟩ a w∧∀ u,RdC w St (s.st ++ [⟨e,n,[],true,true⟩]) β' AK5 u→RdC w St (s.st ++ [⟨e,n,[],true,true⟩]) β' (.ref s.st.length) u:=by
 obtain⟨a1,a2,a3⟩:=h.addOb ⟨e,n,[],true,true⟩ none (fun _=>rfl) AOi h.own AOi
 refine⟨_,a1,fun u hu=>?_⟩
 have hu':u = .slice none 0 0:=by
  exact(PI (St:=St) (w:=w) (v:=(.slice none 0 0:Value)) (u:=u) (by simp only[AVR]; exact hu)).1
 subst hu'
 have:=NY (w:=w) (St:=St) (β:=fun l=>if l=s.st.length then none else β l) (st:=s.st) (ob:=⟨e,n,[],true,true⟩) (b:=none) (u:=.slice none 0 0) rfl AOi fun _=>⟨rfl,rfl⟩
 simpa only[AVR] using this
theorem Head.trans (h1:Head s t) (h2:Head t r):Head s r:=⟨h2.1.trans h1.1,fun w0 St0 St β a w h=>by
 obtain⟨St',β',h'⟩:=h1.2 w0 St0 St β a w h
 exact h2.2 w0 St0 St' β' a w h'⟩
theorem Head.rel (sel:List (Nat×Bool)) (keys:List Nat) (h:Tn sel keys s) (e:Go.Vm.rel sel keys s=t):Head s t:=⟨by rw[← e]; rfl,fun w0 St0 St β a w hc=>⟨St,Vp sel β,by rw[← e]; exact hc.rel h⟩⟩
theorem Head.abs (N l0:Nat) (keys:List Nat) (h:ACU N l0 keys s t):Head s t:=by
 obtain⟨i,R,row,row',ob,⟨g1,g2,g3,g4,g5⟩,g6,⟨g7,g8⟩,g9⟩:=h
 exact⟨by rw[← g9],fun w0 St0 St β a w hc=>⟨St,β,by rw[← g9]; exact hc.absTrim g1 g2 g3 g4 g5 g6 g7 g8⟩⟩
theorem Head.nilR (l j e n:Nat) (ob:Ob) (row:List Cl) (hob:s.st[l]?=some ob) (hrow:ob.xs = [row]) (h:row[j]?=some (.v (.slice none 0 0))):Head s ⟨s.n,s.env,s.st.set l ⟨ob.ty,ob.sz,[row.set j (.ref s.st.length)],ob.wr,ob.live⟩ ++ [⟨e,n,[],true,true⟩]⟩:=⟨rfl,fun w0 St0 St β a w hc=>by
 obtain⟨β',h1,h2⟩:=hc.nilOb e n
 have hl:l<s.st.length:=(aF.1 hob).1
 have hg:∀ (l2:Nat) (o2:Ob),(s.st.set l ⟨ob.ty,ob.sz,[row.set j (.ref s.st.length)],ob.wr,ob.live⟩ ++ [⟨e,n,[],true,true⟩])[l2]?=some o2→(l2=l∧o2=⟨ob.ty,ob.sz,[row.set j (.ref s.st.length)],ob.wr,ob.live⟩)∨(l2≠l∧(s.st ++ [(⟨e,n,[],true,true⟩:Ob)])[l2]?=some o2):=by
  intro l2 o2 h2
  by_cases e1:l2=l
  ·grind
  ·grind
 have hg2:∀ (l2:Nat) (o2:Ob),(s.st ++ [(⟨e,n,[],true,true⟩:Ob)])[l2]?=some o2→∃ o3,(s.st.set l ⟨ob.ty,ob.sz,[row.set j (.ref s.st.length)],ob.wr,ob.live⟩ ++ [⟨e,n,[],true,true⟩])[l2]?=some o3∧o3.live=o2.live∧o3.sz=o2.sz∧o3.ty=o2.ty∧o3.xs.length=o2.xs.length:=by
  intro l2 o2 h2
  by_cases e1:l2=l
  ·grind
  ·grind
 have hr:∀ (l2:Nat) (u:Value),BN w (s.st ++ [⟨e,n,[],true,true⟩]) β' l2 u→BN w (s.st.set l ⟨ob.ty,ob.sz,[row.set j (.ref s.st.length)],ob.wr,ob.live⟩ ++ [⟨e,n,[],true,true⟩]) β' l2 u:=by
  intro l2 u hu
  unfold BN at hu ⊢
  cases hq:(s.st ++ [(⟨e,n,[],true,true⟩:Ob)])[l2]? with
  | none=>grind
  | some o2 =>
   grind
 refine⟨St,β',h1.reTell _ _ hr (fun l2 i off u hu=>?_) (fun i u hu=>hu) (fun l2 o' hl2 hlv=>?_)⟩
 ·simp only[AVR] at hu ⊢
  grind
 ·rcases hg l2 o' hl2 with ⟨rfl,rfl⟩ | ⟨_,h3⟩
  ·refine⟨ob,AOk,hlv,rfl,rfl,rfl,by simp[hrow],fun hx x hx2=>?_,fun k c' hk=>?_⟩
   ·grind
   ·simp only[dm,aaH,bI] at hk
    rw[hrow]
    simp only[dm,aaH,bI]
    rw[yz] at hk
    by_cases e1:j=k
    ·subst e1
     have hj:j<row.length:=(aF.1 h).1
     exact ANP
    grind
  grind⟩
theorem LoopG.mk {s:MS} {body:MS→(MS→Prop)→Prop} {A:Type} (f:A→MS) (p:A→Prop) (μ:A→Nat) (x0:A) (h0:Head s (f x0)) (hp:p x0)
  (h:∀ x,p x→body (f x) fun s'=>∃ y,True∧Head s' (f y)∧p y∧μ y<μ x):LoopK s body:=
 ⟨fun _=>True,fun s t=>Head s t,A,f,p,μ,fun s t _ h=>h,⟨x0,trivial,h0,hp⟩,h⟩
def hasK (k:Nat):List Nat→Bool
 | []=>false
 | x::xs=>if x=k then true else hasK k xs
def AI7:Bool→Nat→List Nat→List Nat
 | true,_,l=>l
 | false,k,l=>k::l
def keysOf:List Nat→List (Nat×AV)→List Nat
 | _,[]=>[]
 | seen,(k,_)::r=>AI7 (hasK k seen) k (keysOf (k::seen) r)
def AG9:List Nat→List (Nat×AV)→List (Nat×AV)
 | [],_=>[]
 | k::ks,e=>(k,Cb e k)::AG9 ks e
def Un (dr:List Nat) (up:List (Nat×AV)) (s:MS) (st:List Ob):MS:=⟨s.n,AG9 (keysOf dr s.env) (up++s.env),st⟩
attribute [go_sem] hasK AI7 keysOf AG9 Un
theorem AB4 {s:MS} {body:MS→(MS→Prop)→Prop} (N:Nat) {A:Type} (up:A→List (Nat×AV)) (stf:A→List Ob) (p:A→Prop) (μ:A→Nat) (x0:A)
  (h0:QB N (keysOf [] s.env) s∧trim N (keysOf [] s.env) s=Un [] (up x0) s (stf x0)∧p x0)
  (h:∀ x,p x→body (Un [] (up x) s (stf x)) fun s'=>∃ y,QB N (keysOf [] s.env) s'∧trim N (keysOf [] s.env) s'=Un [] (up y) s (stf y)∧p y∧μ y<μ x):LoopK s body:=
 AB7 N (keysOf [] s.env) (fun x=>Un [] (up x) s (stf x)) p μ x0 h0 h
theorem AB6 {s:MS} {body:MS→(MS→Prop)→Prop} (dr:List Nat) {A:Type} (up:A→List (Nat×AV)) (stf:A→List Ob) (p:A→Prop) (μ:A→Nat) (x0:A)
  (h0:Head s (Un dr (up x0) s (stf x0))) (hp:p x0)
  (h:∀ x,p x→body (Un dr (up x) s (stf x)) fun s'=>∃ y,True∧Head s' (Un dr (up y) s (stf y))∧p y∧μ y<μ x):LoopK s body:=
 LoopG.mk (fun x=>Un dr (up x) s (stf x)) p μ x0 h0 hp h
theorem AB3 (sel:List (Nat×Bool)) {n:Nat} {env:List (Nat×AV)} {st:List Ob} (h:Tn sel (env.map Prod.fst) s) (e:Go.Vm.rel sel (env.map Prod.fst) s=⟨n,env,st⟩):Head s ⟨n,env,st⟩:=Head.rel sel _ h e
theorem ACS (sel:List (Nat×Bool)) (N l0:Nat) {n:Nat} {env:List (Nat×AV)} {st:List Ob} (h:Tn sel (env.map Prod.fst) s) (h2:ACU N l0 (env.map Prod.fst) (Go.Vm.rel sel (env.map Prod.fst) s) ⟨n,env,st⟩):Head s ⟨n,env,st⟩:=Head.trans (Head.rel sel _ h rfl) (Head.abs N l0 _ h2)
theorem Dz {sel:List (Nat×Bool)} {xs:List (List Cl)} (h:DI xs=true):xs.map (fun x=>x.map (TU sel))=xs:=by
 conv=>rhs; rw[← List.map_id xs]
 exact aaM fun x hx=>AGy (aP.1 h x hx)
theorem AU {N ty sz:Nat} {R:List (List Cl)} {wr live:Bool} (h:DI R=true):BD N ⟨ty,sz,R,wr,live⟩=true:=by
 simp only[BD,qw]
 refine .inr (aP.2 fun x hx=>aP.2 fun c hc=>?_)
 have:=aP.1 (aP.1 h x hx) c hc
 cases c<;>simp_all [Hr,Jw]
theorem all2 {N:Nat} {a b:Ob} (ha:BD N a=true) (hb:BD N b=true) : [a,b].all (BD N)=true:=by simp[ha,hb]
theorem Ec {sel:List (Nat×Bool)} {xs:List (List Cl)} (h:DI xs=true):(xs.all fun x=>x.all (inC sel))=true:=aP.2 fun x hx=>AGz (aP.1 h x hx)
theorem N8 (a:Value) (l:Nat):DI [[.v a,.ref l]]=false:=rfl
end Go.Vm
namespace Go.Proofs.YtnoldekcdlaahaaGreat
open Go.Vm
def FV (a b:DVal):Bool:=if(a.ty != b.ty)=true then decide (a.ty<b.ty) else if(a.n != b.n)=true then decide (a.n<b.n) else Op.bytesLess a.s.toList b.s.toList
def NM (a b:DVal):Bool:=(a.ty==b.ty)&&((a.n==b.n)&&(a.s.toList==b.s.toList))
theorem jI (a b:DVal):Ctr prog 455 [.agg a.c,.agg b.c] [.val (.c (.v (.bool (FV a b))))]:=by
 refine CM call455 func455 ntmps455 results455 fun hw=>?_
 rcases h1:a.ty != b.ty with _ | _<;>rcases h2:a.n != b.n with _ | _<;>simp only[go_sem,h1,h2,FV]
def NP:List DVal→List DVal→Bool
 | [],[]=>true
 | a::l,b::m=>NM a b&&NP l m
 | _,_=>false
theorem Wh:∀ (a b:List DVal),a.length≠b.length→NP a b=false
 | [],[],h=>AO_
 | [],_::_,_=>rfl
 | _::_,[],_=>rfl
 | a::l,b::m,h=>by simp only[NP]; rw[Wh l m AO7]; simp
theorem Za (a b:List DVal) {k:Nat} (h1:k<a.length) (h2:k<b.length):NP (a.drop k) (b.drop k)=(NM a[k] b[k]&&NP (a.drop (k+1)) (b.drop (k+1))):=by
 rw[aG h1,aG h2]; rfl
theorem Qm (a b:List DVal) (ha:a.length≤1048576) (hb:b.length≤1048576):Ctr prog 297 [.c (.sl (a.map DVal.c)),.c (.sl (b.map DVal.c))] [.val (.c (.v (.bool (NP a b))))]:=by
 refine CM call297 func297 ntmps297 results297 fun hw=>?_
 refine AOc (fun h=>?_) fun h=>?_
 ·simp only[go_sem]
  grind [Wh]
 ·have he:a.length=b.length:=by simp at h; omega
  simp only[go_sem,ae]
  refine AB4 0 (A:=Nat) (fun k=>[(5,.c (.v (.int .i64 (k))))]) (fun _=>[]) (fun k=>k≤a.length∧NP (a.drop k) (b.drop k)=NP a b) (fun k=>a.length-k) 0 ⟨⟨rfl,rfl⟩,rfl,az _,rfl⟩ ?_
  exact AIa
theorem rF (a b:List DVal) (ha:a.length≤1048576) (hb:b.length≤1048576):Ctr prog 361 [.c (.sl (a.map DVal.c)),.c (.sl (b.map DVal.c))] [.val (.c (.v (.bool (NP a b))))]:=by
 refine CM call361 func361 ntmps361 results361 fun hw=>?_
 refine AOc (fun h=>?_) fun h=>?_
 ·simp only[go_sem]
  grind [Wh]
 ·have he:a.length=b.length:=by simp at h; omega
  simp only[go_sem,ae]
  refine AB4 0 (A:=Nat) (fun k=>[(13,.c (.v (.int .i64 (k))))]) (fun _=>[]) (fun k=>k≤a.length∧NP (a.drop k) (b.drop k)=NP a b) (fun k=>a.length-k) 0 ⟨⟨rfl,rfl⟩,rfl,az _,rfl⟩ ?_
  exact AIa
theorem Qn (a b:List DVal) (ha:a.length≤1048576) (hb:b.length≤1048576):Ctr prog 310 [.c (.sl (a.map DVal.c)),.c (.sl (b.map DVal.c))] [.val (.c (.v (.bool (NP a b))))]:=by
 refine CM call310 func310 ntmps310 results310 fun hw=>?_
 simp only[go_sem,ae]
 refine AAT _ (rF a b ha hb) fun _=>?_
 exact AIk
end Go.Proofs.YtnoldekcdlaahaaGreat
