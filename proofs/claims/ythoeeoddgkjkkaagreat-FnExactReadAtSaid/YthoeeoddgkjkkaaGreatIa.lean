/- Walks and laws of this seat, over the value machine. -/
import Derived.Test.YthoeeoddgkjkkaaGreatFa
namespace Go.Proofs.YthoeeoddgkjkkaaGreat
set_option linter.unusedSimpArgs false
set_option linter.unusedVariables false
open Go.Vm
set_option maxHeartbeats 1000000
set_option maxRecDepth 10000
def BQ (x a b:Int):Bool:=decide (a≤x)&&decide (x≤b)
theorem Am (x a b:Int):Ctr Tryz.prog 98 [.c (.v (.int .i64 x)),.c (.v (.int .i64 a)),.c (.v (.int .i64 b))] [.val (.c (.v (.bool (BQ x a b))))]:=by
 refine Ctr.mk Tryz.call98 Tryz.func98 rfl mixed Tryz.ntmps98 Tryz.results98 (by kernel_rfl) rfl fun _=>?_
 simp only[go_sem]
 refine gO.mk (fun h=>?_) (fun h=>?_)<;>simp only[go_sem,h]<;>simp at h<;>simp[BQ]<;>omega
theorem BK (x a b:Int):Ctr Tryz.prog 159 [.c (.v (.int .i64 x)),.c (.v (.int .i64 a)),.c (.v (.int .i64 b))] [.val (.c (.v (.bool (BQ x a b))))]:=by
 refine Ctr.mk Tryz.call159 Tryz.func159 rfl mixed Tryz.ntmps159 Tryz.results159 (by kernel_rfl) rfl fun _=>?_
 simp only[go_sem]
 refine gO.mk (fun h=>?_) (fun h=>?_)<;>simp only[go_sem,h]<;>simp at h<;>simp[BQ]<;>omega
def C9 (n:Int):Bool:=BQ n (-1000000000) 1000000000
theorem Gt (x:Int):Ctr Tryz.prog 243 [.c (.v (.int .i64 x))] [.val (.c (.v (.bool (C9 x))))]:=by
 refine Ctr.mk Tryz.call243 Tryz.func243 rfl mixed Tryz.ntmps243 Tryz.results243 (by kernel_rfl) rfl fun _=>?_
 simp only[go_sem]
 refine CallK.mk _ (Am _ _ _) fun _=>?_
 simp only[go_sem,C9]
theorem Iu (x:Int):Ctr Tryz.prog 232 [.c (.v (.int .i64 x))] [.val (.c (.v (.bool (C9 x))))]:=by
 refine Ctr.mk Tryz.call232 Tryz.func232 rfl mixed Tryz.ntmps232 Tryz.results232 (by kernel_rfl) rfl fun _=>?_
 simp only[go_sem]
 refine CallK.mk _ (BK _ _ _) fun _=>?_
 simp only[go_sem,C9]
def Rq (c:UInt8):Bool:=BQ c.toNat 97 122||BQ c.toNat 48 57
def Oy (s:ByteArray):Bool:=decide (∀ i (h:i<s.size),Rq s[i]=true)
def BD (d:DVal):Bool:=if d.ty=1 then C9 d.n&&(d.s.toList==({ data:=#[] }:ByteArray).toList) else(d.ty==2)&&(d.n==0)&&decide (d.s.size≤6)&&Oy d.s
theorem JQ (d:DVal):Ctr Tryz.prog 211 [.agg d.c] [.val (.c (.v (.bool (BD d))))]:=by
 refine Ctr.mk Tryz.call211 Tryz.func211 rfl mixed Tryz.ntmps211 Tryz.results211 (by kernel_rfl) rfl fun hw=>?_
 have hs:d.s.size≤9223372036854775807:=dH hw.1.2.2.1
 simp only[go_sem]
 refine cndC.mk (fun h=>?_) (fun h=>?_)
 ·have h1:d.ty=1:=by simpa using h
  simp only[go_sem]
  refine CallK.mk _ (Gt _) fun _=>?_
  simp only[go_sem]
  refine gO.mk (fun h=>?_) (fun h=>?_)<;>simp only[go_sem,h]<;>simp_all [BD]
 ·have h1:¬ d.ty=1:=by simpa using h
  simp only[go_sem]
  refine LoopK.mk 1 [1,3] (A:=Nat) (fun k=>⟨56,[(1,.lp 0 0 0),(3,.c (.v (.int .i64 k)))],[⟨72,3,[d.c],true,true⟩]⟩) (fun k=>k≤d.s.size∧k≤7∧∀ i (h:i<d.s.size),i<k→Rq d.s[i]=true) (fun k=>d.s.size-k) 0 ⟨⟨rfl,rfl⟩,rfl,Nat.zero_le _,by omega,fun i _ hi=>by omega⟩ ?_
  rintro k ⟨hk,hk7,hok⟩
  simp only[go_sem]
  have hW (c:UInt8):IntKind.i64.wrap (c.toNat:Int)=c.toNat:=wrap_i64 (by omega) (by have:=c.toNat_lt; omega)
  have hfin:k=d.s.size∨(¬ k≤6)→((d.ty==2)&&(d.n==0)&&decide ((d.s.size:Int)≤6))=BD d:=by
   intro hor
   simp only[BD,if_neg h1]
   by_cases h6:d.s.size≤6
   ·have ht:Oy d.s=true:=by
     simp only[Oy,decide_eq_true_eq]
     intro i hi
     exact hok i hi (by omega)
    have h6':(d.s.size:Int)≤6:=by omega
    simp[ht,h6,h6']
   ·have h6':¬ (d.s.size:Int)≤6:=by omega
    simp[h6,h6']
  refine gO.mk (fun h=>?_) (fun h=>?_)
  ·have hk':k<d.s.size:=by simpa using h
   have hb:d.s[k]?=some d.s[k]:=getElem?_pos d.s k hk'
   simp only[go_sem,h,hk']
   refine cndC.mk (fun h6=>?_) (fun h6=>?_)
   ·have h6':k≤6:=by simp at h6; omega
    have hbad:Rq d.s[k]=false→false=BD d:=by
     intro hc
     have ht:Oy d.s=false:=by
      simp only[Oy,decide_eq_false_iff_not]
      intro hall
      rw[hall k hk'] at hc
      cases hc
     simp[BD,if_neg h1,ht]
    simp only[go_sem,hb,hW]
    refine CallK.mk _ (Am _ _ _) fun _=>?_
    simp only[go_sem]
    refine gO.mk (fun ha=>?_) (fun ha=>?_)
    ·simp only[go_sem,hb,hW,ha]
     refine CallK.mk _ (Am _ _ _) fun _=>?_
     simp only[go_sem,hb,hW,ha]
     refine cndC.mk (fun hc=>?_) (fun hc=>?_)
     ·simp only[go_sem]
      rw[hbad (by simp[Rq]; exact⟨by simpa using ha,by simpa using hc⟩)]
     ·simp only[go_sem,wrap_i64 (n:=(k:Int)+1) (by omega) (by omega)]
      refine⟨k+1,⟨rfl,rfl⟩,rfl,⟨by omega,by omega,fun i hi hik=>?_⟩,by omega⟩
      by_cases e:i=k
      ·subst e; simp only[Rq]; simp at hc; simp[hc]
      ·exact hok i hi (by omega)
    ·simp only[go_sem,hb,hW,ha,wrap_i64 (n:=(k:Int)+1) (by omega) (by omega)]
     refine⟨k+1,⟨rfl,rfl⟩,rfl,⟨by omega,by omega,fun i hi hik=>?_⟩,by omega⟩
     by_cases e:i=k
     ·subst e; simp only[Rq]; simp at ha; simp[ha]
     ·exact hok i hi (by omega)
   ·have hfin':=hfin (.inr (by simp at h6; omega))
    simp only[go_sem]
    refine gO.mk (fun e1=>?_) (fun e1=>?_)
    ·simp only[go_sem,e1]
     refine gO.mk (fun e2=>?_) (fun e2=>?_)<;>simp only[go_sem,e1,e2]<;>rw[← hfin',e1,e2]<;>simp
    ·simp only[go_sem,e1]
     rw[← hfin',e1]; rfl
  ·have hk':k=d.s.size:=by simp at h; omega
   have hfin':=hfin (.inl hk')
   simp only[go_sem,h]
   refine gO.mk (fun e1=>?_) (fun e1=>?_)
   ·simp only[go_sem,e1]
    refine gO.mk (fun e2=>?_) (fun e2=>?_)<;>simp only[go_sem,e1,e2]<;>rw[← hfin',e1,e2]<;>simp
   ·simp only[go_sem,e1]
    rw[← hfin',e1]; rfl
theorem kH (d:DVal) {k:Nat} (hk:k<d.s.size) (hc:Rq d.s[k]=false) (h1:¬ d.ty=1):false=BD d:=by
 have ht:Oy d.s=false:=by
  simp only[Oy,decide_eq_false_iff_not]
  intro hall
  rw[hall k hk] at hc
  cases hc
 simp[BD,if_neg h1,ht]
theorem Em (d:DVal):Ctr Tryz.prog 227 [.agg d.c] [.val (.c (.v (.bool (BD d))))]:=by
 refine Ctr.mk Tryz.call227 Tryz.func227 rfl mixed Tryz.ntmps227 Tryz.results227 (by kernel_rfl) rfl fun hw=>?_
 have hs:d.s.size≤9223372036854775807:=dH hw.1.2.2.1
 simp only[go_sem]
 refine cndC.mk (fun h=>?_) (fun h=>?_)
 ·have h1:d.ty=1:=by simpa using h
  simp only[go_sem]
  refine CallK.mk _ (Iu _) fun _=>?_
  simp only[go_sem]
  refine gO.mk (fun h=>?_) (fun h=>?_)<;>simp only[go_sem,h]<;>simp_all [BD]
 ·have h1:¬ d.ty=1:=by simpa using h
  simp only[go_sem]
  refine cndC.mk (fun h2=>?_) (fun h2=>?_)
  ·have h2':d.ty=2:=by simpa using h2
   simp only[go_sem]
   refine LoopK.mk 1 [1,3] (A:=Nat) (fun k=>⟨66,[(1,.lp 0 0 0),(3,.c (.v (.int .i64 k)))],[⟨72,3,[d.c],true,true⟩]⟩) (fun k=>k≤d.s.size∧∀ i (h:i<d.s.size),i<k→Rq d.s[i]=true) (fun k=>d.s.size-k) 0 ⟨⟨rfl,rfl⟩,rfl,Nat.zero_le _,fun i _ hi=>by omega⟩ ?_
   rintro k ⟨hk,hok⟩
   simp only[go_sem]
   refine cndC.mk (fun h=>?_) (fun h=>?_)
   ·have hk':k<d.s.size:=by simpa using h
    have hb:d.s[k]?=some d.s[k]:=getElem?_pos d.s k hk'
    have hgood:Rq d.s[k]=true→∀ i (h:i<d.s.size),i<k+1→Rq d.s[i]=true:=by
     intro hg i hi hik
     by_cases e:i=k
     ·subst e; exact hg
     ·exact hok i hi (by omega)
    rcases hA:decide ((d.s[k].toNat:Int)≥97) with _ | _<;>rcases hB:decide ((d.s[k].toNat:Int)≤122) with _ | _<;>rcases hC:decide ((d.s[k].toNat:Int)≥48) with _ | _<;>rcases hD:decide ((d.s[k].toNat:Int)≤57) with _ | _ <;>
     simp only[go_sem,hb,hA,hB,hC,hD,wrap_i64 (n:=(k:Int)+1) (by omega) (by omega)]<;>simp at hA hB hC hD<;>first
     | (rw[kH d hk' (by simp[Rq,BQ]; omega) h1]; done)
     | exact⟨k+1,⟨rfl,rfl⟩,rfl,⟨by omega,hgood (by simp[Rq,BQ]; omega)⟩,by omega⟩
   ·have hk':k=d.s.size:=by simp at h; omega
    have ht:Oy d.s=true:=by
     simp only[Oy,decide_eq_true_eq]
     intro i hi
     exact hok i hi (by omega)
    simp only[go_sem]
    refine gO.mk (fun e1=>?_) (fun e1=>?_)<;>simp only[go_sem,e1]<;>simp[BD,if_neg h1,ht]<;>simp at e1<;>simp[h2']<;>omega
  ·have h2':¬ d.ty=2:=by simpa using h2
   simp only[go_sem]
   simp[BD,if_neg h1,h2']
end Go.Proofs.YthoeeoddgkjkkaaGreat
/- Walks and laws of this seat,over the value machine. -/
namespace Go.Proofs.YthoeeoddgkjkkaaGreat
set_option linter.unusedSimpArgs false
set_option linter.unusedVariables false
open Go.Vm
set_option maxHeartbeats 1000000
set_option maxRecDepth 10000
def fits:List Int→List DVal→Bool
 | [],[]=>true
 | c::cs,v::vs=>BD v&&(v.ty==c)&&fits cs vs
 | _,_=>false
theorem TK:∀ (cs:List Int) (vs:List DVal),cs.length≠vs.length→fits cs vs=false
 | [],[],h=>by simp at h
 | [],_::_,_=>rfl
 | _::_,[],_=>rfl
 | c::cs,v::vs,h=>by simp only[fits]; rw[TK cs vs (by simpa using h)]; simp
theorem VV (cs:List Int) (vs:List DVal) {k:Nat} (h1:k<cs.length) (h2:k<vs.length):fits (cs.drop k) (vs.drop k)=(BD vs[k]&&(vs[k].ty==cs[k])&&fits (cs.drop (k+1)) (vs.drop (k+1))):=by
 rw[List.drop_eq_getElem_cons h1,List.drop_eq_getElem_cons h2]; rfl
theorem bF (cs:List Int) (vs:List DVal):Ctr Tryz.prog 214 [.c (.sl (cs.map intC)),.c (.sl (vs.map DVal.c))] [.val (.c (.v (.bool (fits cs vs))))]:=by
 refine Ctr.mk Tryz.call214 Tryz.func214 rfl mixed Tryz.ntmps214 Tryz.results214 (by kernel_rfl) rfl fun hw=>?_
 have hlen:vs.length≤9223372036854775807:=by have:=hw.2.1.1; simpa [Go.maxLen] using this
 simp only[go_sem,List.length_map]
 refine cndC.mk (fun h=>?_) (fun h=>?_)
 ·simp only[go_sem]
  rw[TK cs vs (by simp at h; omega)]
 ·have he:cs.length=vs.length:=by simp at h; omega
  simp only[go_sem]
  refine LoopK.mk 0 [0,1,5] (A:=Nat) (fun k=>⟨35,[(0,.c (.sl (cs.map intC))),(1,.c (.sl (vs.map DVal.c))),(5,.c (.v (.int .i64 k)))],[]⟩) (fun k=>k≤vs.length∧fits (cs.drop k) (vs.drop k)=fits cs vs) (fun k=>vs.length-k) 0 ⟨⟨rfl,rfl⟩,rfl,Nat.zero_le _,rfl⟩ ?_
  rintro k ⟨hk,hf⟩
  simp only[go_sem,List.length_map]
  refine cndC.mk (fun h=>?_) (fun h=>?_)
  ·have hk':k<vs.length:=by simpa using h
   have hk2:k<cs.length:=by omega
   rw[VV cs vs hk2 hk'] at hf
   simp only[go_sem]
   refine DrawK.mk ?_
   simp only[go_sem,List.length_map,AA _ hk',AA _ hk2,hk',hk2]
   refine CallF.mk _ (by simpa only[go_sem] using JQ vs[k]) ?_
   rcases hv:BD vs[k] with _ | _
   ·simp only[go_sem,hv]
    rw[hv] at hf
    simp at hf
    rw[hf]
   ·simp only[go_sem,hv,AA _ hk',AA _ hk2]
    rcases ht:vs[k].ty==cs[k] with _ | _
    ·simp only[go_sem,bne,ht]
     rw[ht] at hf
     simp at hf
     rw[hf]
    ·simp only[go_sem,bne,ht,wrap_i64 (n:=(k:Int)+1) (by omega) (by omega)]
     rw[hv,ht] at hf
     simp only[Bool.and_true,Bool.true_and] at hf
     exact⟨k+1,⟨rfl,rfl⟩,rfl,⟨by omega,hf⟩,by omega⟩
  ·have hk':k=vs.length:=by simp at h; omega
   subst hk'
   simp only[go_sem]
   rw[← hf,List.drop_length,← he,List.drop_length]; rfl
theorem bG (cs:List Int) (vs:List DVal):Ctr Tryz.prog 230 [.c (.sl (cs.map intC)),.c (.sl (vs.map DVal.c))] [.val (.c (.v (.bool (fits cs vs))))]:=by
 refine Ctr.mk Tryz.call230 Tryz.func230 rfl mixed Tryz.ntmps230 Tryz.results230 (by kernel_rfl) rfl fun hw=>?_
 have hlen:vs.length≤9223372036854775807:=by have:=hw.2.1.1; simpa [Go.maxLen] using this
 simp only[go_sem,List.length_map]
 refine cndC.mk (fun h=>?_) (fun h=>?_)
 ·simp only[go_sem]
  rw[TK cs vs (by simp at h; omega)]
 ·have he:cs.length=vs.length:=by simp at h; omega
  simp only[go_sem,List.length_map]
  refine LoopK.mk 0 [0,12,13,14] (A:=Nat) (fun k=>⟨32,[(0,.c (.sl (cs.map intC))),(12,.c (.sl (vs.map DVal.c))),(13,.c (.v (.int .i64 vs.length))),(14,.c (.v (.int .i64 k)))],[]⟩) (fun k=>k≤vs.length∧fits (cs.drop k) (vs.drop k)=fits cs vs) (fun k=>vs.length-k) 0 ⟨⟨rfl,rfl⟩,rfl,Nat.zero_le _,rfl⟩ ?_
  rintro k ⟨hk,hf⟩
  simp only[go_sem,List.length_map]
  refine cndC.mk (fun h=>?_) (fun h=>?_)
  ·have hk':k<vs.length:=by simpa using h
   have hk2:k<cs.length:=by omega
   rw[VV cs vs hk2 hk'] at hf
   simp only[go_sem,AA _ hk']
   refine DrawK.mk ?_
   simp only[go_sem,List.length_map,AA _ hk',AA _ hk2,hk',hk2]
   refine CallF.mk _ (by simpa only[go_sem] using Em vs[k]) ?_
   rcases hv:BD vs[k] with _ | _
   ·simp only[go_sem,hv]
    rw[hv] at hf
    simp at hf
    rw[hf]
   ·simp only[go_sem,hv,AA _ hk',AA _ hk2]
    rcases ht:vs[k].ty==cs[k] with _ | _
    ·simp only[go_sem,bne,ht]
     rw[ht] at hf
     simp at hf
     rw[hf]
    ·simp only[go_sem,bne,ht,wrap_i64 (n:=(k:Int)+1) (by omega) (by omega)]
     rw[hv,ht] at hf
     simp only[Bool.and_true,Bool.true_and] at hf
     exact⟨k+1,⟨rfl,rfl⟩,rfl,⟨by omega,hf⟩,by omega⟩
  ·have hk':k=vs.length:=by simp at h; omega
   subst hk'
   simp only[go_sem]
   rw[← hf,List.drop_length,← he,List.drop_length]; rfl
end Go.Proofs.YthoeeoddgkjkkaaGreat
/- Walks and laws of this seat,over the value machine. -/
namespace Go.Proofs.YthoeeoddgkjkkaaGreat
set_option linter.unusedSimpArgs false
set_option linter.unusedVariables false
open Go.Vm
set_option maxHeartbeats 1000000
set_option maxRecDepth 10000
def rowOk (cs:List Int) (r:DRow):Bool:=decide (r.id≥0)&&fits cs r.l
theorem Yt (cs:List Int) (r:DRow):Ctr Tryz.prog 183 [.c (.sl (cs.map intC)),.agg r.c] [.val (.c (.v (.bool (rowOk cs r))))]:=by
 refine Ctr.mk Tryz.call183 Tryz.func183 rfl mixed Tryz.ntmps183 Tryz.results183 (by kernel_rfl) rfl fun hw=>?_
 simp only[go_sem]
 rcases hi:decide (r.id≥0) with _ | _
 ·simp only[go_sem,hi]; simp only[rowOk,hi,Bool.false_and]
 ·simp only[go_sem,hi]
  refine CallK.mk _ (bF cs r.l) fun _=>?_
  simp only[go_sem,hi]; simp only[rowOk,hi,Bool.true_and]
theorem Yu (cs:List Int) (r:DRow):Ctr Tryz.prog 194 [.c (.sl (cs.map intC)),.agg r.c] [.val (.c (.v (.bool (rowOk cs r))))]:=by
 refine Ctr.mk Tryz.call194 Tryz.func194 rfl mixed Tryz.ntmps194 Tryz.results194 (by kernel_rfl) rfl fun hw=>?_
 simp only[go_sem]
 rcases hi:decide (r.id≥0) with _ | _
 ·simp only[go_sem,hi]; simp only[rowOk,hi,Bool.false_and]
 ·simp only[go_sem,hi]
  refine CallK.mk _ (bG cs r.l) fun _=>?_
  simp only[go_sem,hi]; simp only[rowOk,hi,Bool.true_and]
def LV (cs:List Int):Bool:=cs.all fun c=>BQ c 1 2
def FI (cs:List Int):Bool:=LV cs&&BQ cs.length 1 3
theorem TL (cs:List Int) {k:Nat} (h:k<cs.length):LV (cs.drop k)=(BQ cs[k] 1 2&&LV (cs.drop (k+1))):=by
 rw[List.drop_eq_getElem_cons h]; rfl
theorem TM (cs:List Int):Ctr Tryz.prog 147 [.c (.sl (cs.map intC))] [.val (.c (.v (.bool (FI cs))))]:=by
 refine Ctr.mk Tryz.call147 Tryz.func147 rfl mixed Tryz.ntmps147 Tryz.results147 (by kernel_rfl) rfl fun hw=>?_
 have hlen:cs.length≤9223372036854775807:=by have:=hw.1.1; simpa [Go.maxLen] using this
 simp only[go_sem,List.length_map]
 refine LoopK.mk 0 [0,3] (A:=Nat) (fun k=>⟨19,[(0,.c (.sl (cs.map intC))),(3,.c (.v (.int .i64 k)))],[]⟩) (fun k=>k≤cs.length∧LV (cs.drop k)=LV cs) (fun k=>cs.length-k) 0 ⟨⟨rfl,rfl⟩,rfl,Nat.zero_le _,rfl⟩ ?_
 rintro k ⟨hk,hf⟩
 simp only[go_sem,List.length_map]
 refine cndC.mk (fun h=>?_) (fun h=>?_)
 ·have hk':k<cs.length:=by simpa using h
  rw[TL cs hk'] at hf
  simp only[go_sem,AA _ hk']
  refine CallK.mk _ (Am _ _ _) fun _=>?_
  simp only[go_sem]
  rcases hi:BQ cs[k] 1 2 with _ | _
  ·simp only[go_sem,hi]
   rw[hi,Bool.false_and] at hf
   simp only[FI,← hf,Bool.false_and]
  ·simp only[go_sem,hi,wrap_i64 (n:=(k:Int)+1) (by omega) (by omega)]
   rw[hi,Bool.true_and] at hf
   exact⟨k+1,⟨rfl,rfl⟩,rfl,⟨by omega,hf⟩,by omega⟩
 ·have hk':k=cs.length:=by simp at h; omega
  subst hk'
  simp only[go_sem,List.length_map]
  refine CallK.mk _ (Am _ _ _) fun _=>?_
  simp only[go_sem]
  rw[List.drop_length] at hf
  simp only[FI,← hf]; simp[LV]
theorem TN (cs:List Int):Ctr Tryz.prog 157 [.c (.sl (cs.map intC))] [.val (.c (.v (.bool (FI cs))))]:=by
 refine Ctr.mk Tryz.call157 Tryz.func157 rfl mixed Tryz.ntmps157 Tryz.results157 (by kernel_rfl) rfl fun hw=>?_
 have hlen:cs.length≤9223372036854775807:=by have:=hw.1.1; simpa [Go.maxLen] using this
 simp only[go_sem,List.length_map]
 refine LoopK.mk 0 [0,5,6,7] (A:=Nat) (fun k=>⟨21,[(0,.c (.sl (cs.map intC))),(5,.c (.sl (cs.map intC))),(6,.c (.v (.int .i64 cs.length))),(7,.c (.v (.int .i64 k)))],[]⟩) (fun k=>k≤cs.length∧LV (cs.drop k)=LV cs) (fun k=>cs.length-k) 0 ⟨⟨rfl,rfl⟩,rfl,Nat.zero_le _,rfl⟩ ?_
 rintro k ⟨hk,hf⟩
 simp only[go_sem,List.length_map]
 refine cndC.mk (fun h=>?_) (fun h=>?_)
 ·have hk':k<cs.length:=by simpa using h
  rw[TL cs hk'] at hf
  simp only[go_sem,AA _ hk']
  have hgood:BQ cs[k] 1 2=true→LV (cs.drop (k+1))=LV cs:=by intro hi; rw[hi,Bool.true_and] at hf; exact hf
  rcases h1:cs[k] != 1 with _ | _
  ·simp only[go_sem,h1,wrap_i64 (n:=(k:Int)+1) (by omega) (by omega)]
   exact⟨k+1,⟨rfl,rfl⟩,rfl,⟨by omega,hgood (by simp[BQ]; simp at h1; omega)⟩,by omega⟩
  ·rcases h2:cs[k] != 2 with _ | _
   ·simp only[go_sem,h1,h2,wrap_i64 (n:=(k:Int)+1) (by omega) (by omega)]
    exact⟨k+1,⟨rfl,rfl⟩,rfl,⟨by omega,hgood (by simp[BQ]; simp at h2; omega)⟩,by omega⟩
   ·simp only[go_sem,h1,h2]
    have hi:BQ cs[k] 1 2=false:=by simp[BQ]; simp at h1 h2; omega
    rw[hi,Bool.false_and] at hf
    simp only[FI,← hf,Bool.false_and]
 ·have hk':k=cs.length:=by simp at h; omega
  subst hk'
  simp only[go_sem,List.length_map]
  refine CallK.mk _ (BK _ _ _) fun _=>?_
  simp only[go_sem]
  rw[List.drop_length] at hf
  simp only[FI,← hf]; simp[LV]
def rowAt (cs:List Int) (l:List DRow) (i:Nat):Prop:=∀ h:i<l.length,rowOk cs l[i]=true∧(0<i→l[i-1].id<l[i].id)
noncomputable def OE (cs:List Int) (l:List DRow):Bool:=@decide (∀ i,rowAt cs l i) (Classical.propDecidable _)
theorem ik {cs:List Int} {l:List DRow} {i:Nat} (h:¬ rowAt cs l i):OE cs l=false:=by
 simp only[OE,decide_eq_false_iff_not]
 exact fun hall=>h (hall i)
theorem bH {cs:List Int} {l:List DRow} (h:∀ i,i<l.length→rowAt cs l i):OE cs l=true:=by
 simp only[OE,decide_eq_true_eq]
 intro i hi
 exact h i hi hi
end Go.Proofs.YthoeeoddgkjkkaaGreat
