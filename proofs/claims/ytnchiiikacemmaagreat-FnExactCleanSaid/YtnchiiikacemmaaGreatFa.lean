/- A part. -/
import Derived.Test.YtnchiiikacemmaaGreatDa
import Derived.Test.YtnchiiikacemmaaGreatTy
set_option linter.unusedSimpArgs false
set_option linter.unusedVariables false
set_option maxHeartbeats 1000000
set_option maxRecDepth 10000
open Go.Proofs.Tryz
namespace Go.Proofs.YtnchiiikacemmaaGreat
open Go.Vm
theorem Le (xs:List Int) (l:Int) (hl:0≤l):Ctr prog 17 [.c (.sl (xs.map intC)),.c (.v (.int .i64 l))] [.val (.c (.v (.int .i64 (DC xs.length l))))]:=by
 refine CM call17 func17 ntmps17 results17 fun hw=>?_
 have hlen:xs.length≤9223372036854775807:=by have:=hw.1.1; simpa [Go.maxLen] using this
 have hl2:l≤9223372036854775807:=J6 hw.2.1
 simp only[go_sem,ae,wrap_i64 (n:=l-xs.length) (by omega) (by omega)]
 refine cndC.mk (fun h=>?_) (fun h=>?_)
 ·have h':l-xs.length<0:=by simpa using h
  simp only[go_sem]
  simp[DC,h']
 ·have h':¬ l-xs.length<0:=by simpa using h
  simp only[go_sem]
  simp[DC,h']
theorem iC (xs:List Int) (l:Int) (hl:0≤l):Ctr prog 122 [.c (.sl (xs.map byteC)),.c (.v (.int .i64 l))] [.val (.c (.v (.int .i64 (DC xs.length l))))]:=by
 refine CM call122 func122 ntmps122 results122 fun hw=>?_
 have hlen:xs.length≤9223372036854775807:=by have:=hw.1.1; simpa [Go.maxLen] using this
 have hl2:l≤9223372036854775807:=J6 hw.2.1
 simp only[go_sem,ae,wrap_i64 (n:=l-xs.length) (by omega) (by omega)]
 refine cndC.mk (fun h=>?_) (fun h=>?_)
 ·have h':l-xs.length<0:=by simpa using h
  simp only[go_sem]
  simp[DC,h']
 ·have h':¬ l-xs.length<0:=by simpa using h
  simp only[go_sem]
  simp[DC,h']
theorem RN (d:DVal) (l:Int) (hl:0≤l):Ctr prog 186 [.agg d.c,.c (.v (.int .i64 l))] [.val (.c (.v (.int .i64 (Aa d l))))]:=by
 refine CM call186 func186 ntmps186 results186 fun hw=>?_
 rw[Gh]
 have hl2:l≤9223372036854775807:=J6 hw.2.1
 have hs:d.s.size≤9223372036854775807:=ug hw.1.2.2.1
 simp only[go_sem,wrap_i64 (n:=l-d.s.size) (by omega) (by omega)]
 refine cndC.mk (fun h=>?_) (fun h=>?_)
 ·have h0:l-d.s.size<0:=by simpa using h
  simp only[go_sem]
  simp[DC,sq,h0]
 ·have h0:¬ l-d.s.size<0:=by simpa using h
  simp only[go_sem]
  simp[DC,sq,h0]
theorem yR (xs:List DVal) (hx:∀ x∈xs,∀ l,0≤l→Ctr prog 186 [.agg x.c,.c (.v (.int .i64 l))] [.val (.c (.v (.int .i64 (Aa x l))))]) (l:Int) (hl:0≤l):Ctr prog 123 [.c (.sl (xs.map DVal.c)),.c (.v (.int .i64 l))] [.val (.c (.v (.int .i64 (BN Aa xs l))))]:=by
 refine CM call123 func123 ntmps123 results123 fun hw=>?_
 have hlen:xs.length≤9223372036854775807:=by have:=hw.1.1; simpa [Go.maxLen] using this
 have hl2:l≤9223372036854775807:=J6 hw.2.1
 simp only[go_sem,ae,wrap_i64 (n:=l-xs.length) (by omega) (by omega)]
 refine cndC.mk (fun h=>?_) (fun h=>?_)
 ·have h':l-xs.length<0:=by simpa using h
  simp only[go_sem]
  simp[BN,sq,DC,h']
 ·have h':¬ l-xs.length<0:=by simpa using h
  simp only[go_sem]
  refine LoopK.mk 0 [0,1,5] (A:=Nat×Int) (fun x=>⟨27,[(0,.c (.sl (xs.map DVal.c))),(1,.c (.v (.int .i64 x.2))),(5,.c (.v (.int .i64 x.1)))],[]⟩) (fun x=>x.1≤xs.length∧0≤x.2∧MV Aa (xs.drop x.1) x.2=BN Aa xs l) (fun x=>xs.length-x.1)
   (0,l-xs.length) ⟨⟨rfl,rfl⟩,rfl,ak _,by simp only; omega,by simp[BN,sq,DC,h']⟩ ?_
  rintro⟨k,m⟩ ⟨hk,hm0,hm⟩
  simp only at hk hm hm0
  simp only[go_sem,ae]
  refine cndC.mk (fun h=>?_) (fun h=>?_)
  ·have hk':k<xs.length:=by simpa using h
   simp only[go_sem,AA _ hk']
   refine CW (hx xs[k] (aj hk') m hm0) fun _=>?_
   simp only[go_sem]
   rw[aC hk'] at hm
   simp only[MV] at hm
   refine cndC.mk (fun h=>?_) (fun h=>?_)
   ·have h':Aa xs[k] m<0:=by simpa using h
    simp only[go_sem]
    rw[RG h'] at hm
    rw[hm]
   ·have h':¬ Aa xs[k] m<0:=by simpa using h
    rw[RH h'] at hm
    simp only[go_sem,wrap_i64 (n:=(k:Int)+1) (by omega) (by omega)]
    exact⟨(k+1,Aa xs[k] m),⟨rfl,rfl⟩,rfl,⟨by simp only; omega,(by omega:(0:Int)≤Aa xs[k] m),hm⟩,by simp only; omega⟩
  ·have hk':k=xs.length:=by simp at h; omega
   subst hk'
   simp only[go_sem]
   simp[MV] at hm
   rw[hm]
theorem Lh (xs:List DVal) (l:Int) (hl:0≤l):Ctr prog 123 [.c (.sl (xs.map DVal.c)),.c (.v (.int .i64 l))] [.val (.c (.v (.int .i64 (BN Aa xs l))))]:=yR xs (fun x _ l hl=>RN x l hl) l hl
theorem rf (d:DRow) (l:Int) (hl:0≤l):Ctr prog 188 [.agg d.c,.c (.v (.int .i64 l))] [.val (.c (.v (.int .i64 (EQ d l))))]:=by
 refine CM call188 func188 ntmps188 results188 fun hw=>?_
 rw[SN]
 simp only[go_sem]
 refine CallK.mk _ (by simpa only[go_sem] using Lh d.l _ (by omega)) fun _=>?_
 simp only[go_sem]
 refine cndC.mk (fun h=>?_) (fun h=>?_)
 ·have h0:BN Aa d.l (l)<0:=by simpa using h
  simp only[go_sem]
  simp[sq,h0]
 ·have h0:¬ BN Aa d.l (l)<0:=by simpa using h
  simp only[go_sem]
  simp[sq,h0]
theorem yS (xs:List DRow) (hx:∀ x∈xs,∀ l,0≤l→Ctr prog 188 [.agg x.c,.c (.v (.int .i64 l))] [.val (.c (.v (.int .i64 (EQ x l))))]) (l:Int) (hl:0≤l):Ctr prog 125 [.c (.sl (xs.map DRow.c)),.c (.v (.int .i64 l))] [.val (.c (.v (.int .i64 (BN EQ xs l))))]:=by
 refine CM call125 func125 ntmps125 results125 fun hw=>?_
 have hlen:xs.length≤9223372036854775807:=by have:=hw.1.1; simpa [Go.maxLen] using this
 have hl2:l≤9223372036854775807:=J6 hw.2.1
 simp only[go_sem,ae,wrap_i64 (n:=l-xs.length) (by omega) (by omega)]
 refine cndC.mk (fun h=>?_) (fun h=>?_)
 ·have h':l-xs.length<0:=by simpa using h
  simp only[go_sem]
  simp[BN,sq,DC,h']
 ·have h':¬ l-xs.length<0:=by simpa using h
  simp only[go_sem]
  refine LoopK.mk 0 [0,1,5] (A:=Nat×Int) (fun x=>⟨27,[(0,.c (.sl (xs.map DRow.c))),(1,.c (.v (.int .i64 x.2))),(5,.c (.v (.int .i64 x.1)))],[]⟩) (fun x=>x.1≤xs.length∧0≤x.2∧MV EQ (xs.drop x.1) x.2=BN EQ xs l) (fun x=>xs.length-x.1)
   (0,l-xs.length) ⟨⟨rfl,rfl⟩,rfl,ak _,by simp only; omega,by simp[BN,sq,DC,h']⟩ ?_
  rintro⟨k,m⟩ ⟨hk,hm0,hm⟩
  simp only at hk hm hm0
  simp only[go_sem,ae]
  refine cndC.mk (fun h=>?_) (fun h=>?_)
  ·have hk':k<xs.length:=by simpa using h
   simp only[go_sem,AA _ hk']
   refine CW (hx xs[k] (aj hk') m hm0) fun _=>?_
   simp only[go_sem]
   rw[aC hk'] at hm
   simp only[MV] at hm
   refine cndC.mk (fun h=>?_) (fun h=>?_)
   ·have h':EQ xs[k] m<0:=by simpa using h
    simp only[go_sem]
    rw[RG h'] at hm
    rw[hm]
   ·have h':¬ EQ xs[k] m<0:=by simpa using h
    rw[RH h'] at hm
    simp only[go_sem,wrap_i64 (n:=(k:Int)+1) (by omega) (by omega)]
    exact⟨(k+1,EQ xs[k] m),⟨rfl,rfl⟩,rfl,⟨by simp only; omega,(by omega:(0:Int)≤EQ xs[k] m),hm⟩,by simp only; omega⟩
  ·have hk':k=xs.length:=by simp at h; omega
   subst hk'
   simp only[go_sem]
   simp[MV] at hm
   rw[hm]
theorem Vg (xs:List DRow) (l:Int) (hl:0≤l):Ctr prog 125 [.c (.sl (xs.map DRow.c)),.c (.v (.int .i64 l))] [.val (.c (.v (.int .i64 (BN EQ xs l))))]:=yS xs (fun x _ l hl=>rf x l hl) l hl
theorem rq (xs:List DPred) (hx:∀ x∈xs,∀ l,0≤l→Ctr prog 187 [.agg x.c,.c (.v (.int .i64 l))] [.val (.c (.v (.int .i64 (Au x l))))]) (l:Int) (hl:0≤l):Ctr prog 224 [.c (.sl (xs.map DPred.c)),.c (.v (.int .i64 l))] [.val (.c (.v (.int .i64 (BN Au xs l))))]:=by
 refine CM call224 func224 ntmps224 results224 fun hw=>?_
 have hlen:xs.length≤9223372036854775807:=by have:=hw.1.1; simpa [Go.maxLen] using this
 have hl2:l≤9223372036854775807:=J6 hw.2.1
 simp only[go_sem,ae,wrap_i64 (n:=l-xs.length) (by omega) (by omega)]
 refine cndC.mk (fun h=>?_) (fun h=>?_)
 ·have h':l-xs.length<0:=by simpa using h
  simp only[go_sem]
  simp[BN,sq,DC,h']
 ·have h':¬ l-xs.length<0:=by simpa using h
  simp only[go_sem]
  refine LoopK.mk 0 [0,1,5] (A:=Nat×Int) (fun x=>⟨27,[(0,.c (.sl (xs.map DPred.c))),(1,.c (.v (.int .i64 x.2))),(5,.c (.v (.int .i64 x.1)))],[]⟩) (fun x=>x.1≤xs.length∧0≤x.2∧MV Au (xs.drop x.1) x.2=BN Au xs l) (fun x=>xs.length-x.1)
   (0,l-xs.length) ⟨⟨rfl,rfl⟩,rfl,ak _,by simp only; omega,by simp[BN,sq,DC,h']⟩ ?_
  rintro⟨k,m⟩ ⟨hk,hm0,hm⟩
  simp only at hk hm hm0
  simp only[go_sem,ae]
  refine cndC.mk (fun h=>?_) (fun h=>?_)
  ·have hk':k<xs.length:=by simpa using h
   simp only[go_sem,AA _ hk']
   refine CW (hx xs[k] (aj hk') m hm0) fun _=>?_
   simp only[go_sem]
   rw[aC hk'] at hm
   simp only[MV] at hm
   refine cndC.mk (fun h=>?_) (fun h=>?_)
   ·have h':Au xs[k] m<0:=by simpa using h
    simp only[go_sem]
    rw[RG h'] at hm
    rw[hm]
   ·have h':¬ Au xs[k] m<0:=by simpa using h
    rw[RH h'] at hm
    simp only[go_sem,wrap_i64 (n:=(k:Int)+1) (by omega) (by omega)]
    exact⟨(k+1,Au xs[k] m),⟨rfl,rfl⟩,rfl,⟨by simp only; omega,(by omega:(0:Int)≤Au xs[k] m),hm⟩,by simp only; omega⟩
  ·have hk':k=xs.length:=by simp at h; omega
   subst hk'
   simp only[go_sem]
   simp[MV] at hm
   rw[hm]
theorem yT (d:DPred) (hx:∀ x∈d.l,∀ l,0≤l→Ctr prog 187 [.agg x.c,.c (.v (.int .i64 l))] [.val (.c (.v (.int .i64 (Au x l))))]) (l:Int) (hl:0≤l):Ctr prog 187 [.agg d.c,.c (.v (.int .i64 l))] [.val (.c (.v (.int .i64 (Au d l))))]:=by
 refine CM call187 func187 ntmps187 results187 fun hw=>?_
 rw[Ie]
 simp only[go_sem]
 refine CallK.mk _ (by simpa only[go_sem] using RN d.v _ (by omega)) fun _=>?_
 simp only[go_sem]
 refine cndC.mk (fun h=>?_) (fun h=>?_)
 ·have h0:Aa d.v (l)<0:=by simpa using h
  simp only[go_sem]
  simp[sq,h0]
 ·have h0:¬ Aa d.v (l)<0:=by simpa using h
  simp only[go_sem]
  refine CallK.mk _ (by simpa only[go_sem] using rq d.l hx _ (by omega)) fun _=>?_
  simp only[go_sem]
  refine cndC.mk (fun h=>?_) (fun h=>?_)
  ·have h1:BN Au d.l (Aa d.v (l))<0:=by simpa using h
   simp only[go_sem]
   simp[sq,h0,h1]
  ·have h1:¬ BN Au d.l (Aa d.v (l))<0:=by simpa using h
   simp only[go_sem]
   simp[sq,h0,h1]
theorem Vh:∀ (n:Nat) (d:DPred),SizeOf.sizeOf d≤n→∀ l,0≤l→Ctr prog 187 [.agg d.c,.c (.v (.int .i64 l))] [.val (.c (.v (.int .i64 (Au d l))))]
 | 0,d,h=>by cases d; simp at h
 | n+1,d,h=>yT d fun x hx=>Vh n x (by
  have h1:SizeOf.sizeOf x<SizeOf.sizeOf d.l:=uC hx
  have h2:SizeOf.sizeOf d.l<SizeOf.sizeOf d:=by cases d; simp[DPred.l]; omega
  omega)
theorem mG (d:DPred) (l:Int) (hl:0≤l):Ctr prog 187 [.agg d.c,.c (.v (.int .i64 l))] [.val (.c (.v (.int .i64 (Au d l))))]:=Vh _ d (aK _) l hl
theorem S9 (d:DQuery) (l:Int) (hl:0≤l):Ctr prog 124 [.agg d.c,.c (.v (.int .i64 l))] [.val (.c (.v (.int .i64 (BZ d l))))]:=by
 refine CM call124 func124 ntmps124 results124 fun hw=>?_
 rw[JK]
 simp only[go_sem]
 refine CallK.mk _ (by simpa only[go_sem] using mG d.p _ (by omega)) fun _=>?_
 simp only[go_sem]
 refine cndC.mk (fun h=>?_) (fun h=>?_)
 ·have h0:Au d.p (l)<0:=by simpa using h
  simp only[go_sem]
  simp[sq,h0]
 ·have h0:¬ Au d.p (l)<0:=by simpa using h
  simp only[go_sem]
  refine CallK.mk _ (by simpa only[go_sem] using Le d.out _ (by omega)) fun _=>?_
  simp only[go_sem]
  refine cndC.mk (fun h=>?_) (fun h=>?_)
  ·have h1:DC d.out.length (Au d.p (l))<0:=by simpa using h
   simp only[go_sem]
   simp[sq,h0,h1]
  ·have h1:¬ DC d.out.length (Au d.p (l))<0:=by simpa using h
   simp only[go_sem]
   simp[sq,h0,h1]
theorem Zl (d:DResult) (l:Int) (hl:0≤l):Ctr prog 126 [.agg d.c,.c (.v (.int .i64 l))] [.val (.c (.v (.int .i64 (IE d l))))]:=by
 refine CM call126 func126 ntmps126 results126 fun hw=>?_
 rw[LY]
 simp only[go_sem]
 refine CallK.mk _ (by simpa only[go_sem] using Vg d.rows _ (by omega)) fun _=>?_
 simp only[go_sem]
 refine cndC.mk (fun h=>?_) (fun h=>?_)
 ·have h0:BN EQ d.rows (l)<0:=by simpa using h
  simp only[go_sem]
  simp[sq,h0]
 ·have h0:¬ BN EQ d.rows (l)<0:=by simpa using h
  simp only[go_sem]
  refine CallK.mk _ (by simpa only[go_sem] using RN d.v _ (by omega)) fun _=>?_
  simp only[go_sem]
  refine cndC.mk (fun h=>?_) (fun h=>?_)
  ·have h1:Aa d.v (BN EQ d.rows (l))<0:=by simpa using h
   simp only[go_sem]
   simp[sq,h0,h1]
  ·have h1:¬ Aa d.v (BN EQ d.rows (l))<0:=by simpa using h
   simp only[go_sem]
   simp[sq,h0,h1]
theorem mJ (d:DSlot) (l:Int) (hl:0≤l):Ctr prog 223 [.agg d.c,.c (.v (.int .i64 l))] [.val (.c (.v (.int .i64 (Ep d l))))]:=by
 refine CM call223 func223 ntmps223 results223 fun hw=>?_
 rw[QD]
 simp only[go_sem]
 refine CallK.mk _ (by simpa only[go_sem] using Lh d.l _ (by omega)) fun _=>?_
 simp only[go_sem]
 refine cndC.mk (fun h=>?_) (fun h=>?_)
 ·have h0:BN Aa d.l (l)<0:=by simpa using h
  simp only[go_sem]
  simp[sq,h0]
 ·have h0:¬ BN Aa d.l (l)<0:=by simpa using h
  simp only[go_sem]
  simp[sq,h0]
theorem ru (xs:List DSlot) (hx:∀ x∈xs,∀ l,0≤l→Ctr prog 223 [.agg x.c,.c (.v (.int .i64 l))] [.val (.c (.v (.int .i64 (Ep x l))))]) (l:Int) (hl:0≤l):Ctr prog 185 [.c (.sl (xs.map DSlot.c)),.c (.v (.int .i64 l))] [.val (.c (.v (.int .i64 (BN Ep xs l))))]:=by
 refine CM call185 func185 ntmps185 results185 fun hw=>?_
 have hlen:xs.length≤9223372036854775807:=by have:=hw.1.1; simpa [Go.maxLen] using this
 have hl2:l≤9223372036854775807:=J6 hw.2.1
 simp only[go_sem,ae,wrap_i64 (n:=l-xs.length) (by omega) (by omega)]
 refine cndC.mk (fun h=>?_) (fun h=>?_)
 ·have h':l-xs.length<0:=by simpa using h
  simp only[go_sem]
  simp[BN,sq,DC,h']
 ·have h':¬ l-xs.length<0:=by simpa using h
  simp only[go_sem]
  refine LoopK.mk 0 [0,1,5] (A:=Nat×Int) (fun x=>⟨27,[(0,.c (.sl (xs.map DSlot.c))),(1,.c (.v (.int .i64 x.2))),(5,.c (.v (.int .i64 x.1)))],[]⟩) (fun x=>x.1≤xs.length∧0≤x.2∧MV Ep (xs.drop x.1) x.2=BN Ep xs l) (fun x=>xs.length-x.1)
   (0,l-xs.length) ⟨⟨rfl,rfl⟩,rfl,ak _,by simp only; omega,by simp[BN,sq,DC,h']⟩ ?_
  rintro⟨k,m⟩ ⟨hk,hm0,hm⟩
  simp only at hk hm hm0
  simp only[go_sem,ae]
  refine cndC.mk (fun h=>?_) (fun h=>?_)
  ·have hk':k<xs.length:=by simpa using h
   simp only[go_sem,AA _ hk']
   refine CW (hx xs[k] (aj hk') m hm0) fun _=>?_
   simp only[go_sem]
   rw[aC hk'] at hm
   simp only[MV] at hm
   refine cndC.mk (fun h=>?_) (fun h=>?_)
   ·have h':Ep xs[k] m<0:=by simpa using h
    simp only[go_sem]
    rw[RG h'] at hm
    rw[hm]
   ·have h':¬ Ep xs[k] m<0:=by simpa using h
    rw[RH h'] at hm
    simp only[go_sem,wrap_i64 (n:=(k:Int)+1) (by omega) (by omega)]
    exact⟨(k+1,Ep xs[k] m),⟨rfl,rfl⟩,rfl,⟨by simp only; omega,(by omega:(0:Int)≤Ep xs[k] m),hm⟩,by simp only; omega⟩
  ·have hk':k=xs.length:=by simp at h; omega
   subst hk'
   simp only[go_sem]
   simp[MV] at hm
   rw[hm]
theorem iD (xs:List DSlot) (l:Int) (hl:0≤l):Ctr prog 185 [.c (.sl (xs.map DSlot.c)),.c (.v (.int .i64 l))] [.val (.c (.v (.int .i64 (BN Ep xs l))))]:=ru xs (fun x _ l hl=>mJ x l hl) l hl
theorem iE (d:DChunk) (l:Int) (hl:0≤l):Ctr prog 121 [.agg d.c,.c (.v (.int .i64 l))] [.val (.c (.v (.int .i64 (Gz d l))))]:=by
 refine CM call121 func121 ntmps121 results121 fun hw=>?_
 rw[NZ]
 simp only[go_sem]
 refine CallK.mk _ (by simpa only[go_sem] using iD d.l _ (by omega)) fun _=>?_
 simp only[go_sem]
 refine cndC.mk (fun h=>?_) (fun h=>?_)
 ·have h0:BN Ep d.l (l)<0:=by simpa using h
  simp only[go_sem]
  simp[sq,h0]
 ·have h0:¬ BN Ep d.l (l)<0:=by simpa using h
  simp only[go_sem]
  simp[sq,h0]
theorem ry (d:DBuf) (l:Int) (hl:0≤l):Ctr prog 56 [.agg d.c,.c (.v (.int .i64 l))] [.val (.c (.v (.int .i64 (DU d l))))]:=by
 refine CM call56 func56 ntmps56 results56 fun hw=>?_
 rw[SQ]
 simp only[go_sem]
 refine CallK.mk _ (by simpa only[go_sem] using iE d.c0 _ (by omega)) fun _=>?_
 simp only[go_sem]
 refine cndC.mk (fun h=>?_) (fun h=>?_)
 ·have h0:Gz d.c0 (l)<0:=by simpa using h
  simp only[go_sem]
  simp[sq,h0]
 ·have h0:¬ Gz d.c0 (l)<0:=by simpa using h
  simp only[go_sem]
  refine CallK.mk _ (by simpa only[go_sem] using iC d.g _ (by omega)) fun _=>?_
  simp only[go_sem]
  refine cndC.mk (fun h=>?_) (fun h=>?_)
  ·have h1:DC d.g.length (Gz d.c0 (l))<0:=by simpa using h
   simp only[go_sem]
   simp[sq,h0,h1]
  ·have h1:¬ DC d.g.length (Gz d.c0 (l))<0:=by simpa using h
   simp only[go_sem]
   simp[sq,h0,h1]
theorem yU (xs:List DBuf) (hx:∀ x∈xs,∀ l,0≤l→Ctr prog 56 [.agg x.c,.c (.v (.int .i64 l))] [.val (.c (.v (.int .i64 (DU x l))))]) (l:Int) (hl:0≤l):Ctr prog 16 [.c (.sl (xs.map DBuf.c)),.c (.v (.int .i64 l))] [.val (.c (.v (.int .i64 (BN DU xs l))))]:=by
 refine CM call16 func16 ntmps16 results16 fun hw=>?_
 have hlen:xs.length≤9223372036854775807:=by have:=hw.1.1; simpa [Go.maxLen] using this
 have hl2:l≤9223372036854775807:=J6 hw.2.1
 simp only[go_sem,ae,wrap_i64 (n:=l-xs.length) (by omega) (by omega)]
 refine cndC.mk (fun h=>?_) (fun h=>?_)
 ·have h':l-xs.length<0:=by simpa using h
  simp only[go_sem]
  simp[BN,sq,DC,h']
 ·have h':¬ l-xs.length<0:=by simpa using h
  simp only[go_sem]
  refine LoopK.mk 0 [0,1,5] (A:=Nat×Int) (fun x=>⟨27,[(0,.c (.sl (xs.map DBuf.c))),(1,.c (.v (.int .i64 x.2))),(5,.c (.v (.int .i64 x.1)))],[]⟩) (fun x=>x.1≤xs.length∧0≤x.2∧MV DU (xs.drop x.1) x.2=BN DU xs l) (fun x=>xs.length-x.1)
   (0,l-xs.length) ⟨⟨rfl,rfl⟩,rfl,ak _,by simp only; omega,by simp[BN,sq,DC,h']⟩ ?_
  rintro⟨k,m⟩ ⟨hk,hm0,hm⟩
  simp only at hk hm hm0
  simp only[go_sem,ae]
  refine cndC.mk (fun h=>?_) (fun h=>?_)
  ·have hk':k<xs.length:=by simpa using h
   simp only[go_sem,AA _ hk']
   refine CW (hx xs[k] (aj hk') m hm0) fun _=>?_
   simp only[go_sem]
   rw[aC hk'] at hm
   simp only[MV] at hm
   refine cndC.mk (fun h=>?_) (fun h=>?_)
   ·have h':DU xs[k] m<0:=by simpa using h
    simp only[go_sem]
    rw[RG h'] at hm
    rw[hm]
   ·have h':¬ DU xs[k] m<0:=by simpa using h
    rw[RH h'] at hm
    simp only[go_sem,wrap_i64 (n:=(k:Int)+1) (by omega) (by omega)]
    exact⟨(k+1,DU xs[k] m),⟨rfl,rfl⟩,rfl,⟨by simp only; omega,(by omega:(0:Int)≤DU xs[k] m),hm⟩,by simp only; omega⟩
  ·have hk':k=xs.length:=by simp at h; omega
   subst hk'
   simp only[go_sem]
   simp[MV] at hm
   rw[hm]
theorem mM (xs:List DBuf) (l:Int) (hl:0≤l):Ctr prog 16 [.c (.sl (xs.map DBuf.c)),.c (.v (.int .i64 l))] [.val (.c (.v (.int .i64 (BN DU xs l))))]:=yU xs (fun x _ l hl=>ry x l hl) l hl
theorem iF (xs:List DDead) (l:Int) (hl:0≤l):Ctr prog 18 [.c (.sl (xs.map DDead.c)),.c (.v (.int .i64 l))] [.val (.c (.v (.int .i64 (DC xs.length l))))]:=by
 refine CM call18 func18 ntmps18 results18 fun hw=>?_
 have hlen:xs.length≤9223372036854775807:=by have:=hw.1.1; simpa [Go.maxLen] using this
 have hl2:l≤9223372036854775807:=J6 hw.2.1
 simp only[go_sem,ae,wrap_i64 (n:=l-xs.length) (by omega) (by omega)]
 refine cndC.mk (fun h=>?_) (fun h=>?_)
 ·have h':l-xs.length<0:=by simpa using h
  simp only[go_sem]
  simp[DC,h']
 ·have h':¬ l-xs.length<0:=by simpa using h
  simp only[go_sem]
  simp[DC,h']
theorem Vj (xs:List DRef) (l:Int) (hl:0≤l):Ctr prog 55 [.c (.sl (xs.map DRef.c)),.c (.v (.int .i64 l))] [.val (.c (.v (.int .i64 (DC xs.length l))))]:=by
 refine CM call55 func55 ntmps55 results55 fun hw=>?_
 have hlen:xs.length≤9223372036854775807:=by have:=hw.1.1; simpa [Go.maxLen] using this
 have hl2:l≤9223372036854775807:=J6 hw.2.1
 simp only[go_sem,ae,wrap_i64 (n:=l-xs.length) (by omega) (by omega)]
 refine cndC.mk (fun h=>?_) (fun h=>?_)
 ·have h':l-xs.length<0:=by simpa using h
  simp only[go_sem]
  simp[DC,h']
 ·have h':¬ l-xs.length<0:=by simpa using h
  simp only[go_sem]
  simp[DC,h']
theorem r_ (d:DDir) (l:Int) (hl:0≤l):Ctr prog 15 [.agg d.c,.c (.v (.int .i64 l))] [.val (.c (.v (.int .i64 (Dx d l))))]:=by
 refine CM call15 func15 ntmps15 results15 fun hw=>?_
 rw[Xk]
 simp only[go_sem]
 refine CallK.mk _ (by simpa only[go_sem] using Vj d.l _ (by omega)) fun _=>?_
 simp only[go_sem]
 refine cndC.mk (fun h=>?_) (fun h=>?_)
 ·have h0:DC d.l.length (l)<0:=by simpa using h
  simp only[go_sem]
  simp[sq,h0]
 ·have h0:¬ DC d.l.length (l)<0:=by simpa using h
  simp only[go_sem]
  simp[sq,h0]
theorem mO (d:DTask) (l:Int) (hl:0≤l):Ctr prog 57 [.agg d.c,.c (.v (.int .i64 l))] [.val (.c (.v (.int .i64 (ED d l))))]:=by
 refine CM call57 func57 ntmps57 results57 fun hw=>?_
 rw[QE]
 simp only[go_sem]
 refine CallK.mk _ (by simpa only[go_sem] using Lh d.r _ (by omega)) fun _=>?_
 simp only[go_sem]
 refine cndC.mk (fun h=>?_) (fun h=>?_)
 ·have h0:BN Aa d.r (l)<0:=by simpa using h
  simp only[go_sem]
  simp[sq,h0]
 ·have h0:¬ BN Aa d.r (l)<0:=by simpa using h
  simp only[go_sem]
  refine CallK.mk _ (by simpa only[go_sem] using S9 d.q _ (by omega)) fun _=>?_
  simp only[go_sem]
  refine cndC.mk (fun h=>?_) (fun h=>?_)
  ·have h1:BZ d.q (BN Aa d.r (l))<0:=by simpa using h
   simp only[go_sem]
   simp[sq,h0,h1]
  ·have h1:¬ BZ d.q (BN Aa d.r (l))<0:=by simpa using h
   simp only[go_sem]
   refine CallK.mk _ (by simpa only[go_sem] using Vj d.l _ (by omega)) fun _=>?_
   simp only[go_sem]
   refine cndC.mk (fun h=>?_) (fun h=>?_)
   ·have h2:DC d.l.length (BZ d.q (BN Aa d.r (l)))<0:=by simpa using h
    simp only[go_sem]
    simp[sq,h0,h1,h2]
   ·have h2:¬ DC d.l.length (BZ d.q (BN Aa d.r (l)))<0:=by simpa using h
    simp only[go_sem]
    refine CallK.mk _ (by simpa only[go_sem] using Vg d.got _ (by omega)) fun _=>?_
    simp only[go_sem]
    refine cndC.mk (fun h=>?_) (fun h=>?_)
    ·have h3:BN EQ d.got (DC d.l.length (BZ d.q (BN Aa d.r (l))))<0:=by simpa using h
     simp only[go_sem]
     simp[sq,h0,h1,h2,h3]
    ·have h3:¬ BN EQ d.got (DC d.l.length (BZ d.q (BN Aa d.r (l))))<0:=by simpa using h
     simp only[go_sem]
     simp[sq,h0,h1,h2,h3]
theorem sD (xs:List DTask) (hx:∀ x∈xs,∀ l,0≤l→Ctr prog 57 [.agg x.c,.c (.v (.int .i64 l))] [.val (.c (.v (.int .i64 (ED x l))))]) (l:Int) (hl:0≤l):Ctr prog 19 [.c (.sl (xs.map DTask.c)),.c (.v (.int .i64 l))] [.val (.c (.v (.int .i64 (BN ED xs l))))]:=by
 refine CM call19 func19 ntmps19 results19 fun hw=>?_
 have hlen:xs.length≤9223372036854775807:=by have:=hw.1.1; simpa [Go.maxLen] using this
 have hl2:l≤9223372036854775807:=J6 hw.2.1
 simp only[go_sem,ae,wrap_i64 (n:=l-xs.length) (by omega) (by omega)]
 refine cndC.mk (fun h=>?_) (fun h=>?_)
 ·have h':l-xs.length<0:=by simpa using h
  simp only[go_sem]
  simp[BN,sq,DC,h']
 ·have h':¬ l-xs.length<0:=by simpa using h
  simp only[go_sem]
  refine LoopK.mk 0 [0,1,5] (A:=Nat×Int) (fun x=>⟨27,[(0,.c (.sl (xs.map DTask.c))),(1,.c (.v (.int .i64 x.2))),(5,.c (.v (.int .i64 x.1)))],[]⟩) (fun x=>x.1≤xs.length∧0≤x.2∧MV ED (xs.drop x.1) x.2=BN ED xs l) (fun x=>xs.length-x.1)
   (0,l-xs.length) ⟨⟨rfl,rfl⟩,rfl,ak _,by simp only; omega,by simp[BN,sq,DC,h']⟩ ?_
  rintro⟨k,m⟩ ⟨hk,hm0,hm⟩
  simp only at hk hm hm0
  simp only[go_sem,ae]
  refine cndC.mk (fun h=>?_) (fun h=>?_)
  ·have hk':k<xs.length:=by simpa using h
   simp only[go_sem,AA _ hk']
   refine CW (hx xs[k] (aj hk') m hm0) fun _=>?_
   simp only[go_sem]
   rw[aC hk'] at hm
   simp only[MV] at hm
   refine cndC.mk (fun h=>?_) (fun h=>?_)
   ·have h':ED xs[k] m<0:=by simpa using h
    simp only[go_sem]
    rw[RG h'] at hm
    rw[hm]
   ·have h':¬ ED xs[k] m<0:=by simpa using h
    rw[RH h'] at hm
    simp only[go_sem,wrap_i64 (n:=(k:Int)+1) (by omega) (by omega)]
    exact⟨(k+1,ED xs[k] m),⟨rfl,rfl⟩,rfl,⟨by simp only; omega,(by omega:(0:Int)≤ED xs[k] m),hm⟩,by simp only; omega⟩
  ·have hk':k=xs.length:=by simp at h; omega
   subst hk'
   simp only[go_sem]
   simp[MV] at hm
   rw[hm]
theorem iG (xs:List DTask) (l:Int) (hl:0≤l):Ctr prog 19 [.c (.sl (xs.map DTask.c)),.c (.v (.int .i64 l))] [.val (.c (.v (.int .i64 (BN ED xs l))))]:=sD xs (fun x _ l hl=>mO x l hl) l hl
theorem mP (d:DDeed) (l:Int) (hl:0≤l):Ctr prog 58 [.agg d.c,.c (.v (.int .i64 l))] [.val (.c (.v (.int .i64 (Es d l))))]:=by
 refine CM call58 func58 ntmps58 results58 fun hw=>?_
 rw[QF]
 simp only[go_sem]
 refine CallK.mk _ (by simpa only[go_sem] using Lh d.r _ (by omega)) fun _=>?_
 simp only[go_sem]
 refine cndC.mk (fun h=>?_) (fun h=>?_)
 ·have h0:BN Aa d.r (l)<0:=by simpa using h
  simp only[go_sem]
  simp[sq,h0]
 ·have h0:¬ BN Aa d.r (l)<0:=by simpa using h
  simp only[go_sem]
  refine CallK.mk _ (by simpa only[go_sem] using S9 d.q _ (by omega)) fun _=>?_
  simp only[go_sem]
  refine cndC.mk (fun h=>?_) (fun h=>?_)
  ·have h1:BZ d.q (BN Aa d.r (l))<0:=by simpa using h
   simp only[go_sem]
   simp[sq,h0,h1]
  ·have h1:¬ BZ d.q (BN Aa d.r (l))<0:=by simpa using h
   simp only[go_sem]
   refine CallK.mk _ (by simpa only[go_sem] using Zl d.res _ (by omega)) fun _=>?_
   simp only[go_sem]
   refine cndC.mk (fun h=>?_) (fun h=>?_)
   ·have h2:IE d.res (BZ d.q (BN Aa d.r (l)))<0:=by simpa using h
    simp only[go_sem]
    simp[sq,h0,h1,h2]
   ·have h2:¬ IE d.res (BZ d.q (BN Aa d.r (l)))<0:=by simpa using h
    simp only[go_sem]
    simp[sq,h0,h1,h2]
theorem sF (xs:List DDeed) (hx:∀ x∈xs,∀ l,0≤l→Ctr prog 58 [.agg x.c,.c (.v (.int .i64 l))] [.val (.c (.v (.int .i64 (Es x l))))]) (l:Int) (hl:0≤l):Ctr prog 20 [.c (.sl (xs.map DDeed.c)),.c (.v (.int .i64 l))] [.val (.c (.v (.int .i64 (BN Es xs l))))]:=by
 refine CM call20 func20 ntmps20 results20 fun hw=>?_
 have hlen:xs.length≤9223372036854775807:=by have:=hw.1.1; simpa [Go.maxLen] using this
 have hl2:l≤9223372036854775807:=J6 hw.2.1
 simp only[go_sem,ae,wrap_i64 (n:=l-xs.length) (by omega) (by omega)]
 refine cndC.mk (fun h=>?_) (fun h=>?_)
 ·have h':l-xs.length<0:=by simpa using h
  simp only[go_sem]
  simp[BN,sq,DC,h']
 ·have h':¬ l-xs.length<0:=by simpa using h
  simp only[go_sem]
  refine LoopK.mk 0 [0,1,5] (A:=Nat×Int) (fun x=>⟨27,[(0,.c (.sl (xs.map DDeed.c))),(1,.c (.v (.int .i64 x.2))),(5,.c (.v (.int .i64 x.1)))],[]⟩) (fun x=>x.1≤xs.length∧0≤x.2∧MV Es (xs.drop x.1) x.2=BN Es xs l) (fun x=>xs.length-x.1)
   (0,l-xs.length) ⟨⟨rfl,rfl⟩,rfl,ak _,by simp only; omega,by simp[BN,sq,DC,h']⟩ ?_
  rintro⟨k,m⟩ ⟨hk,hm0,hm⟩
  simp only at hk hm hm0
  simp only[go_sem,ae]
  refine cndC.mk (fun h=>?_) (fun h=>?_)
  ·have hk':k<xs.length:=by simpa using h
   simp only[go_sem,AA _ hk']
   refine CW (hx xs[k] (aj hk') m hm0) fun _=>?_
   simp only[go_sem]
   rw[aC hk'] at hm
   simp only[MV] at hm
   refine cndC.mk (fun h=>?_) (fun h=>?_)
   ·have h':Es xs[k] m<0:=by simpa using h
    simp only[go_sem]
    rw[RG h'] at hm
    rw[hm]
   ·have h':¬ Es xs[k] m<0:=by simpa using h
    rw[RH h'] at hm
    simp only[go_sem,wrap_i64 (n:=(k:Int)+1) (by omega) (by omega)]
    exact⟨(k+1,Es xs[k] m),⟨rfl,rfl⟩,rfl,⟨by simp only; omega,(by omega:(0:Int)≤Es xs[k] m),hm⟩,by simp only; omega⟩
  ·have hk':k=xs.length:=by simp at h; omega
   subst hk'
   simp only[go_sem]
   simp[MV] at hm
   rw[hm]
theorem iH (xs:List DDeed) (l:Int) (hl:0≤l):Ctr prog 20 [.c (.sl (xs.map DDeed.c)),.c (.v (.int .i64 l))] [.val (.c (.v (.int .i64 (BN Es xs l))))]:=sF xs (fun x _ l hl=>mP x l hl) l hl
theorem mQ (d:DConf) (l:Int) (hl:0≤l):Ctr prog 14 [.agg d.c,.c (.v (.int .i64 l))] [.val (.c (.v (.int .i64 (Bi d l))))]:=by
 refine CM call14 func14 ntmps14 results14 fun hw=>?_
 rw[Um]
 simp only[go_sem]
 refine CallK.mk _ (by simpa only[go_sem] using Le d.cols _ (by omega)) fun _=>?_
 simp only[go_sem]
 refine cndC.mk (fun h=>?_) (fun h=>?_)
 ·have h0:DC d.cols.length (l)<0:=by simpa using h
  simp only[go_sem]
  simp[sq,h0]
 ·have h0:¬ DC d.cols.length (l)<0:=by simpa using h
  simp only[go_sem]
  simp[sq,h0]
theorem S_ (d:DWorld) (l:Int) (hl:0≤l):Ctr prog 5 [.agg d.c,.c (.v (.int .i64 l))] [.val (.c (.v (.int .i64 (KI d l))))]:=by
 refine CM call5 func5 ntmps5 results5 fun hw=>?_
 rw[Na]
 simp only[go_sem]
 refine CallK.mk _ (by simpa only[go_sem] using mQ d.c0 _ (by omega)) fun _=>?_
 simp only[go_sem]
 refine cndC.mk (fun h=>?_) (fun h=>?_)
 ·have h0:Bi d.c0 (l)<0:=by simpa using h
  simp only[go_sem]
  simp[sq,h0]
 ·have h0:¬ Bi d.c0 (l)<0:=by simpa using h
  simp only[go_sem]
  refine CallK.mk _ (by simpa only[go_sem] using r_ d.d _ (by omega)) fun _=>?_
  simp only[go_sem]
  refine cndC.mk (fun h=>?_) (fun h=>?_)
  ·have h1:Dx d.d (Bi d.c0 (l))<0:=by simpa using h
   simp only[go_sem]
   simp[sq,h0,h1]
  ·have h1:¬ Dx d.d (Bi d.c0 (l))<0:=by simpa using h
   simp only[go_sem]
   refine CallK.mk _ (by simpa only[go_sem] using mM d.b _ (by omega)) fun _=>?_
   simp only[go_sem]
   refine cndC.mk (fun h=>?_) (fun h=>?_)
   ·have h2:BN DU d.b (Dx d.d (Bi d.c0 (l)))<0:=by simpa using h
    simp only[go_sem]
    simp[sq,h0,h1,h2]
   ·have h2:¬ BN DU d.b (Dx d.d (Bi d.c0 (l)))<0:=by simpa using h
    simp only[go_sem]
    refine CallK.mk _ (by simpa only[go_sem] using Le d.m _ (by omega)) fun _=>?_
    simp only[go_sem]
    refine cndC.mk (fun h=>?_) (fun h=>?_)
    ·have h3:DC d.m.length (BN DU d.b (Dx d.d (Bi d.c0 (l))))<0:=by simpa using h
     simp only[go_sem]
     simp[sq,h0,h1,h2,h3]
    ·have h3:¬ DC d.m.length (BN DU d.b (Dx d.d (Bi d.c0 (l))))<0:=by simpa using h
     simp only[go_sem]
     refine CallK.mk _ (by simpa only[go_sem] using iF d.x _ (by omega)) fun _=>?_
     simp only[go_sem]
     refine cndC.mk (fun h=>?_) (fun h=>?_)
     ·have h4:DC d.x.length (DC d.m.length (BN DU d.b (Dx d.d (Bi d.c0 (l)))))<0:=by simpa using h
      simp only[go_sem]
      simp[sq,h0,h1,h2,h3,h4]
     ·have h4:¬ DC d.x.length (DC d.m.length (BN DU d.b (Dx d.d (Bi d.c0 (l)))))<0:=by simpa using h
      simp only[go_sem]
      refine CallK.mk _ (by simpa only[go_sem] using Le d.p _ (by omega)) fun _=>?_
      simp only[go_sem]
      refine cndC.mk (fun h=>?_) (fun h=>?_)
      ·have h5:DC d.p.length (DC d.x.length (DC d.m.length (BN DU d.b (Dx d.d (Bi d.c0 (l))))))<0:=by simpa using h
       simp only[go_sem]
       simp[sq,h0,h1,h2,h3,h4,h5]
      ·have h5:¬ DC d.p.length (DC d.x.length (DC d.m.length (BN DU d.b (Dx d.d (Bi d.c0 (l))))))<0:=by simpa using h
       simp only[go_sem]
       refine CallK.mk _ (by simpa only[go_sem] using iG d.tasks _ (by omega)) fun _=>?_
       simp only[go_sem]
       refine cndC.mk (fun h=>?_) (fun h=>?_)
       ·have h6:BN ED d.tasks (DC d.p.length (DC d.x.length (DC d.m.length (BN DU d.b (Dx d.d (Bi d.c0 (l)))))))<0:=by simpa using h
        simp only[go_sem]
        simp[sq,h0,h1,h2,h3,h4,h5,h6]
       ·have h6:¬ BN ED d.tasks (DC d.p.length (DC d.x.length (DC d.m.length (BN DU d.b (Dx d.d (Bi d.c0 (l)))))))<0:=by simpa using h
        simp only[go_sem]
        refine CallK.mk _ (by simpa only[go_sem] using iH d.deeds _ (by omega)) fun _=>?_
        simp only[go_sem]
        refine cndC.mk (fun h=>?_) (fun h=>?_)
        ·have h7:BN Es d.deeds (BN ED d.tasks (DC d.p.length (DC d.x.length (DC d.m.length (BN DU d.b (Dx d.d (Bi d.c0 (l))))))))<0:=by simpa using h
         simp only[go_sem]
         simp[sq,h0,h1,h2,h3,h4,h5,h6,h7]
        ·have h7:¬ BN Es d.deeds (BN ED d.tasks (DC d.p.length (DC d.x.length (DC d.m.length (BN DU d.b (Dx d.d (Bi d.c0 (l))))))))<0:=by simpa using h
         simp only[go_sem]
         simp[sq,h0,h1,h2,h3,h4,h5,h6,h7]
theorem Kv (xs:List Int) (hf:xs.length≤1048576):Ctr prog 24 [.c (.sl (xs.map intC))] [.own 3 1 (xs.map intC) true]:=by
 refine CM call24 func24 ntmps24 results24 fun _=>?_
 have hc:(0:Int)≤xs.length∧(xs.length:Int)≤xs.length∧(xs.length:Int)≤2147483648:=by omega
 simp only[go_sem,ae,hc]
 have hg:=fun k=>@Ef _ intC intC.pure [.v (.int .i64 0)] rfl xs k 3 1 true true
 refine LoopK.mk 1 [0,3,4] (A:=Nat) (fun k=>⟨22,[(0,.c (.sl (xs.map intC))),(3,.c (.ref 0)),(4,.c (.v (.int .i64 k)))],[⟨3,1,grow (xs.map intC) [.v (.int .i64 0)] k,true,true⟩]⟩) (fun k=>k≤xs.length) (fun k=>xs.length-k) 0 ⟨⟨rfl,by have:=hg 0; simp only[Ap,ae] at this; exact this⟩,by simp only[Ap,ae]; rfl,ak _⟩ ?_
 intro k hk
 simp only[go_sem,ae]
 refine cndC.mk (fun h=>?_) (fun h=>?_)
 ·have hk':k<xs.length:=by simpa using h
  have hset:=@DX _ intC xs [.v (.int .i64 0)] k hk'
  simp only[go_sem] at hset
  simp only[go_sem,AA _ hk',Bl hk,EG hk',hk',hset,wrap_i64 (n:=(k:Int)+1) (by omega) (by omega)]
  exact⟨k+1,⟨rfl,hg _⟩,rfl,by omega,by first | omega | (simp only; omega)⟩
 ·have hk':k=xs.length:=by simp at h; omega
  subst hk'
  rw[DY]
  simp only[go_sem]
  simp[CS (AO intC.pure)]
theorem Vk (xs:List Int) (hf:xs.length≤1048576):Ctr prog 129 [.c (.sl (xs.map byteC))] [.own 5 1 (xs.map byteC) true]:=by
 refine CM call129 func129 ntmps129 results129 fun _=>?_
 have hc:(0:Int)≤xs.length∧(xs.length:Int)≤xs.length∧(xs.length:Int)≤2147483648:=by omega
 simp only[go_sem,ae,hc]
 have hg:=fun k=>@Ef _ byteC byteC.pure [.v (.int .u8 0)] rfl xs k 5 1 true true
 refine LoopK.mk 1 [0,3,4] (A:=Nat) (fun k=>⟨22,[(0,.c (.sl (xs.map byteC))),(3,.c (.ref 0)),(4,.c (.v (.int .i64 k)))],[⟨5,1,grow (xs.map byteC) [.v (.int .u8 0)] k,true,true⟩]⟩) (fun k=>k≤xs.length) (fun k=>xs.length-k) 0 ⟨⟨rfl,by have:=hg 0; simp only[Ap,ae] at this; exact this⟩,by simp only[Ap,ae]; rfl,ak _⟩ ?_
 intro k hk
 simp only[go_sem,ae]
 refine cndC.mk (fun h=>?_) (fun h=>?_)
 ·have hk':k<xs.length:=by simpa using h
  have hset:=@DX _ byteC xs [.v (.int .u8 0)] k hk'
  simp only[go_sem] at hset
  simp only[go_sem,AA _ hk',Bl hk,EG hk',hk',hset,wrap_i64 (n:=(k:Int)+1) (by omega) (by omega)]
  exact⟨k+1,⟨rfl,hg _⟩,rfl,by omega,by first | omega | (simp only; omega)⟩
 ·have hk':k=xs.length:=by simp at h; omega
  subst hk'
  rw[DY]
  simp only[go_sem]
  simp[CS (AO byteC.pure)]
theorem Lj (xs:List Int) (hf:xs.length≤1048576):Ctr prog 24 [.c (.sl (xs.map intC))] [.val (.c (.sl (xs.map intC)))]:=(Kv xs hf).val (AO intC.pure)
theorem iI (xs:List Int) (hf:xs.length≤1048576):Ctr prog 129 [.c (.sl (xs.map byteC))] [.val (.c (.sl (xs.map byteC)))]:=(Vk xs hf).val (AO byteC.pure)
theorem F9 (d:DVal) (hf:Fz d):Ctr prog 190 [.agg d.c] [.val (.agg d.c)]:=by
 rw[Un] at hf
 have f0:=hf
 refine CM call190 func190 ntmps190 results190 fun _=>?_
 simp only[go_sem]
theorem Kw (xs:List DVal) (hf:xs.length≤1048576) (hx:∀ x∈xs,Ctr prog 190 [.agg x.c] [.val (.agg x.c)]):Ctr prog 130 [.c (.sl (xs.map DVal.c))] [.own 119 3 (xs.map DVal.c) true]:=by
 refine CM call130 func130 ntmps130 results130 fun _=>?_
 have hc:(0:Int)≤xs.length∧(xs.length:Int)≤xs.length∧(xs.length:Int)≤2147483648:=by omega
 simp only[go_sem,ae,hc]
 have hg:=fun k=>@Ef _ DVal.c DVal.pure [.v (.int .i64 0),.v (.int .i64 0),.v (.string ByteArray.empty)] rfl xs k 119 3 true true
 refine LoopK.mk 1 [0,3,4] (A:=Nat) (fun k=>⟨23,[(0,.c (.sl (xs.map DVal.c))),(3,.c (.ref 0)),(4,.c (.v (.int .i64 k)))],[⟨119,3,grow (xs.map DVal.c) [.v (.int .i64 0),.v (.int .i64 0),.v (.string ByteArray.empty)] k,true,true⟩]⟩) (fun k=>k≤xs.length) (fun k=>xs.length-k) 0 ⟨⟨rfl,by have:=hg 0; simp only[Ap,ae] at this; exact this⟩,by simp only[Ap,ae]; rfl,ak _⟩ ?_
 intro k hk
 simp only[go_sem,ae]
 refine cndC.mk (fun h=>?_) (fun h=>?_)
 ·have hk':k<xs.length:=by simpa using h
  have hset:=@DX _ DVal.c xs [.v (.int .i64 0),.v (.int .i64 0),.v (.string ByteArray.empty)] k hk'
  simp only[go_sem] at hset
  simp only[go_sem,AA _ hk']
  refine CW (hx xs[k] (aj hk')) fun _=>?_
  simp only[go_sem,Bl hk,EG hk',hk',hset,wrap_i64 (n:=(k:Int)+1) (by omega) (by omega)]
  exact⟨k+1,⟨rfl,hg _⟩,rfl,by omega,by first | omega | (simp only; omega)⟩
 ·have hk':k=xs.length:=by simp at h; omega
  subst hk'
  rw[DY]
  simp only[go_sem]
  simp[CS (AO DVal.pure)]
theorem Ll (xs:List DVal) (hf:fitS Fz xs):Ctr prog 130 [.c (.sl (xs.map DVal.c))] [.val (.c (.sl (xs.map DVal.c)))]:=(Kw xs hf.1 fun x hx=>F9 x (hf.2 x hx)).val (AO DVal.pure)
theorem sG (d:DRow) (hf:G_ d):Ctr prog 192 [.agg d.c] [.val (.agg d.c)]:=by
 rw[KY] at hf
 have f0:=hf
 refine CM call192 func192 ntmps192 results192 fun _=>?_
 simp only[go_sem]
 refine CW (Ll d.l f0) fun _=>?_
 simp only[go_sem]
theorem sH (xs:List DRow) (hf:xs.length≤1048576) (hx:∀ x∈xs,Ctr prog 192 [.agg x.c] [.val (.agg x.c)]):Ctr prog 132 [.c (.sl (xs.map DRow.c))] [.own 193 2 (xs.map DRow.c) true]:=by
 refine CM call132 func132 ntmps132 results132 fun _=>?_
 have hc:(0:Int)≤xs.length∧(xs.length:Int)≤xs.length∧(xs.length:Int)≤2147483648:=by omega
 simp only[go_sem,ae,hc]
 have hg:=fun k=>@Ef _ DRow.c DRow.pure [.v (.int .i64 0),.v (.slice none 0 0)] rfl xs k 193 2 true true
 refine LoopK.mk 1 [0,3,4] (A:=Nat) (fun k=>⟨23,[(0,.c (.sl (xs.map DRow.c))),(3,.c (.ref 0)),(4,.c (.v (.int .i64 k)))],[⟨193,2,grow (xs.map DRow.c) [.v (.int .i64 0),.v (.slice none 0 0)] k,true,true⟩]⟩) (fun k=>k≤xs.length) (fun k=>xs.length-k) 0 ⟨⟨rfl,by have:=hg 0; simp only[Ap,ae] at this; exact this⟩,by simp only[Ap,ae]; rfl,ak _⟩ ?_
 intro k hk
 simp only[go_sem,ae]
 refine cndC.mk (fun h=>?_) (fun h=>?_)
 ·have hk':k<xs.length:=by simpa using h
  have hset:=@DX _ DRow.c xs [.v (.int .i64 0),.v (.slice none 0 0)] k hk'
  simp only[go_sem] at hset
  simp only[go_sem,AA _ hk']
  refine CW (hx xs[k] (aj hk')) fun _=>?_
  simp only[go_sem,Bl hk,EG hk',hk',hset,wrap_i64 (n:=(k:Int)+1) (by omega) (by omega)]
  exact⟨k+1,⟨rfl,hg _⟩,rfl,by omega,by first | omega | (simp only; omega)⟩
 ·have hk':k=xs.length:=by simp at h; omega
  subst hk'
  rw[DY]
  simp only[go_sem]
  simp[CS (AO DRow.pure)]
theorem Vl (xs:List DRow) (hf:fitS G_ xs):Ctr prog 132 [.c (.sl (xs.map DRow.c))] [.val (.c (.sl (xs.map DRow.c)))]:=(sH xs hf.1 fun x hx=>sG x (hf.2 x hx)).val (AO DRow.pure)
theorem mV (xs:List DPred) (hf:xs.length≤1048576) (hx:∀ x∈xs,Ctr prog 191 [.agg x.c] [.val (.agg x.c)]):Ctr prog 226 [.c (.sl (xs.map DPred.c))] [.own 122 7 (xs.map DPred.c) true]:=by
 refine CM call226 func226 ntmps226 results226 fun _=>?_
 have hc:(0:Int)≤xs.length∧(xs.length:Int)≤xs.length∧(xs.length:Int)≤2147483648:=by omega
 simp only[go_sem,ae,hc]
 have hg:=fun k=>@Ef _ DPred.c DPred.pure [.v (.int .i64 0),.v (.int .i64 0),.v (.int .i64 0),.v (.int .i64 0),.v (.int .i64 0),.v (.string ByteArray.empty),.v (.slice none 0 0)] rfl xs k 122 7 true true
 refine LoopK.mk 1 [0,3,4] (A:=Nat) (fun k=>⟨23,[(0,.c (.sl (xs.map DPred.c))),(3,.c (.ref 0)),(4,.c (.v (.int .i64 k)))],[⟨122,7,grow (xs.map DPred.c) [.v (.int .i64 0),.v (.int .i64 0),.v (.int .i64 0),.v (.int .i64 0),.v (.int .i64 0),.v (.string ByteArray.empty),.v (.slice none 0 0)] k,true,true⟩]⟩) (fun k=>k≤xs.length) (fun k=>xs.length-k) 0 ⟨⟨rfl,by have:=hg 0; simp only[Ap,ae] at this; exact this⟩,by simp only[Ap,ae]; rfl,ak _⟩ ?_
 intro k hk
 simp only[go_sem,ae]
 refine cndC.mk (fun h=>?_) (fun h=>?_)
 ·have hk':k<xs.length:=by simpa using h
  have hset:=@DX _ DPred.c xs [.v (.int .i64 0),.v (.int .i64 0),.v (.int .i64 0),.v (.int .i64 0),.v (.int .i64 0),.v (.string ByteArray.empty),.v (.slice none 0 0)] k hk'
  simp only[go_sem] at hset
  simp only[go_sem,AA _ hk']
  refine CW (hx xs[k] (aj hk')) fun _=>?_
  simp only[go_sem,Bl hk,EG hk',hk',hset,wrap_i64 (n:=(k:Int)+1) (by omega) (by omega)]
  exact⟨k+1,⟨rfl,hg _⟩,rfl,by omega,by first | omega | (simp only; omega)⟩
 ·have hk':k=xs.length:=by simp at h; omega
  subst hk'
  rw[DY]
  simp only[go_sem]
  simp[CS (AO DPred.pure)]
theorem yV (d:DPred) (hf:Ak d) (hx:∀ x∈d.l,Ctr prog 191 [.agg x.c] [.val (.agg x.c)]):Ctr prog 191 [.agg d.c] [.val (.agg d.c)]:=by
 rw[BG] at hf
 obtain⟨f0,f1⟩:=hf
 refine CM call191 func191 ntmps191 results191 fun _=>?_
 simp only[go_sem]
 refine CW (F9 d.v f0) fun _=>?_
 simp only[go_sem]
 refine CW ((mV d.l f1.1 hx).val (AO DPred.pure)) fun _=>?_
 simp only[go_sem]
theorem Vo:∀ (n:Nat) (d:DPred),SizeOf.sizeOf d≤n→Ak d→Ctr prog 191 [.agg d.c] [.val (.agg d.c)]
 | 0,d,h,_=>by cases d; simp at h
 | n+1,d,h,hf=>yV d hf fun x hx=>Vo n x (by
  have h1:SizeOf.sizeOf x<SizeOf.sizeOf d.l:=uC hx
  have h2:SizeOf.sizeOf d.l<SizeOf.sizeOf d:=by cases d; simp[DPred.l]; omega
  omega) (by rw[BG] at hf; exact(hf.2).2 x hx)
theorem mW (d:DPred) (hf:Ak d):Ctr prog 191 [.agg d.c] [.val (.agg d.c)]:=Vo _ d (aK _) hf
theorem TA (d:DQuery) (hf:Dl d):Ctr prog 131 [.agg d.c] [.val (.agg d.c)]:=by
 rw[Ea] at hf
 obtain⟨f0,f1⟩:=hf
 refine CM call131 func131 ntmps131 results131 fun _=>?_
 simp only[go_sem]
 refine CW (mW d.p f0) fun _=>?_
 simp only[go_sem]
 refine CW (Lj d.out f1) fun _=>?_
 simp only[go_sem]
theorem Zm (d:DResult) (hf:Ig d):Ctr prog 133 [.agg d.c] [.val (.agg d.c)]:=by
 rw[Ir] at hf
 obtain⟨f0,f1⟩:=hf
 refine CM call133 func133 ntmps133 results133 fun _=>?_
 simp only[go_sem]
 refine CW (Vl d.rows f0) fun _=>?_
 simp only[go_sem]
 refine CW (F9 d.v f1) fun _=>?_
 simp only[go_sem]
theorem mX (d:DSlot) (hf:JZ d):Ctr prog 225 [.agg d.c] [.val (.agg d.c)]:=by
 rw[JL] at hf
 have f0:=hf
 refine CM call225 func225 ntmps225 results225 fun _=>?_
 simp only[go_sem]
 refine CW (Ll d.l f0) fun _=>?_
 simp only[go_sem]
theorem mY (xs:List DSlot) (hf:xs.length≤1048576) (hx:∀ x∈xs,Ctr prog 225 [.agg x.c] [.val (.agg x.c)]):Ctr prog 189 [.c (.sl (xs.map DSlot.c))] [.own 188 2 (xs.map DSlot.c) true]:=by
 refine CM call189 func189 ntmps189 results189 fun _=>?_
 have hc:(0:Int)≤xs.length∧(xs.length:Int)≤xs.length∧(xs.length:Int)≤2147483648:=by omega
 simp only[go_sem,ae,hc]
 have hg:=fun k=>@Ef _ DSlot.c DSlot.pure [.v (.int .i64 0),.v (.slice none 0 0)] rfl xs k 188 2 true true
 refine LoopK.mk 1 [0,3,4] (A:=Nat) (fun k=>⟨23,[(0,.c (.sl (xs.map DSlot.c))),(3,.c (.ref 0)),(4,.c (.v (.int .i64 k)))],[⟨188,2,grow (xs.map DSlot.c) [.v (.int .i64 0),.v (.slice none 0 0)] k,true,true⟩]⟩) (fun k=>k≤xs.length) (fun k=>xs.length-k) 0 ⟨⟨rfl,by have:=hg 0; simp only[Ap,ae] at this; exact this⟩,by simp only[Ap,ae]; rfl,ak _⟩ ?_
 intro k hk
 simp only[go_sem,ae]
 refine cndC.mk (fun h=>?_) (fun h=>?_)
 ·have hk':k<xs.length:=by simpa using h
  have hset:=@DX _ DSlot.c xs [.v (.int .i64 0),.v (.slice none 0 0)] k hk'
  simp only[go_sem] at hset
  simp only[go_sem,AA _ hk']
  refine CW (hx xs[k] (aj hk')) fun _=>?_
  simp only[go_sem,Bl hk,EG hk',hk',hset,wrap_i64 (n:=(k:Int)+1) (by omega) (by omega)]
  exact⟨k+1,⟨rfl,hg _⟩,rfl,by omega,by first | omega | (simp only; omega)⟩
 ·have hk':k=xs.length:=by simp at h; omega
  subst hk'
  rw[DY]
  simp only[go_sem]
  simp[CS (AO DSlot.pure)]
theorem iJ (xs:List DSlot) (hf:fitS JZ xs):Ctr prog 189 [.c (.sl (xs.map DSlot.c))] [.val (.c (.sl (xs.map DSlot.c)))]:=(mY xs hf.1 fun x hx=>mX x (hf.2 x hx)).val (AO DSlot.pure)
theorem iK (d:DChunk) (hf:FY d):Ctr prog 128 [.agg d.c] [.val (.agg d.c)]:=by
 rw[Eb] at hf
 have f0:=hf
 refine CM call128 func128 ntmps128 results128 fun _=>?_
 simp only[go_sem]
 refine CW (iJ d.l f0) fun _=>?_
 simp only[go_sem]
theorem sJ (d:DBuf) (hf:F6 d):Ctr prog 60 [.agg d.c] [.val (.agg d.c)]:=by
 rw[Gp] at hf
 obtain⟨f0,f1⟩:=hf
 refine CM call60 func60 ntmps60 results60 fun _=>?_
 simp only[go_sem]
 refine CW (iK d.c0 f0) fun _=>?_
 simp only[go_sem]
 refine CW (iI d.g f1) fun _=>?_
 simp only[go_sem]
theorem sK (xs:List DBuf) (hf:xs.length≤1048576) (hx:∀ x∈xs,Ctr prog 60 [.agg x.c] [.val (.agg x.c)]):Ctr prog 23 [.c (.sl (xs.map DBuf.c))] [.own 112 5 (xs.map DBuf.c) true]:=by
 refine CM call23 func23 ntmps23 results23 fun _=>?_
 have hc:(0:Int)≤xs.length∧(xs.length:Int)≤xs.length∧(xs.length:Int)≤2147483648:=by omega
 simp only[go_sem,ae,hc]
 have hg:=fun k=>@Ef _ DBuf.c DBuf.pure [.v (.int .i64 0),.v (.int .i64 0),.v (.int .i64 0),.v (.slice none 0 0),.v (.slice none 0 0)] rfl xs k 112 5 true true
 refine LoopK.mk 1 [0,3,4] (A:=Nat) (fun k=>⟨23,[(0,.c (.sl (xs.map DBuf.c))),(3,.c (.ref 0)),(4,.c (.v (.int .i64 k)))],[⟨112,5,grow (xs.map DBuf.c) [.v (.int .i64 0),.v (.int .i64 0),.v (.int .i64 0),.v (.slice none 0 0),.v (.slice none 0 0)] k,true,true⟩]⟩) (fun k=>k≤xs.length) (fun k=>xs.length-k) 0 ⟨⟨rfl,by have:=hg 0; simp only[Ap,ae] at this; exact this⟩,by simp only[Ap,ae]; rfl,ak _⟩ ?_
 intro k hk
 simp only[go_sem,ae]
 refine cndC.mk (fun h=>?_) (fun h=>?_)
 ·have hk':k<xs.length:=by simpa using h
  have hset:=@DX _ DBuf.c xs [.v (.int .i64 0),.v (.int .i64 0),.v (.int .i64 0),.v (.slice none 0 0),.v (.slice none 0 0)] k hk'
  simp only[go_sem] at hset
  simp only[go_sem,AA _ hk']
  refine CW (hx xs[k] (aj hk')) fun _=>?_
  simp only[go_sem,Bl hk,EG hk',hk',hset,wrap_i64 (n:=(k:Int)+1) (by omega) (by omega)]
  exact⟨k+1,⟨rfl,hg _⟩,rfl,by omega,by first | omega | (simp only; omega)⟩
 ·have hk':k=xs.length:=by simp at h; omega
  subst hk'
  rw[DY]
  simp only[go_sem]
  simp[CS (AO DBuf.pure)]
theorem mZ (xs:List DBuf) (hf:fitS F6 xs):Ctr prog 23 [.c (.sl (xs.map DBuf.c))] [.val (.c (.sl (xs.map DBuf.c)))]:=(sK xs hf.1 fun x hx=>sJ x (hf.2 x hx)).val (AO DBuf.pure)
theorem Vp (d:DDead):Ctr prog 61 [.agg d.c] [.val (.agg d.c)]:=by
 refine CM call61 func61 ntmps61 results61 fun _=>?_
 simp only[go_sem]
theorem Vq (xs:List DDead) (hf:xs.length≤1048576) (hx:∀ x∈xs,Ctr prog 61 [.agg x.c] [.val (.agg x.c)]):Ctr prog 25 [.c (.sl (xs.map DDead.c))] [.own 115 3 (xs.map DDead.c) true]:=by
 refine CM call25 func25 ntmps25 results25 fun _=>?_
 have hc:(0:Int)≤xs.length∧(xs.length:Int)≤xs.length∧(xs.length:Int)≤2147483648:=by omega
 simp only[go_sem,ae,hc]
 have hg:=fun k=>@Ef _ DDead.c DDead.pure [.v (.int .i64 0),.v (.int .i64 0),.v (.int .i64 0)] rfl xs k 115 3 true true
 refine LoopK.mk 1 [0,3,4] (A:=Nat) (fun k=>⟨23,[(0,.c (.sl (xs.map DDead.c))),(3,.c (.ref 0)),(4,.c (.v (.int .i64 k)))],[⟨115,3,grow (xs.map DDead.c) [.v (.int .i64 0),.v (.int .i64 0),.v (.int .i64 0)] k,true,true⟩]⟩) (fun k=>k≤xs.length) (fun k=>xs.length-k) 0 ⟨⟨rfl,by have:=hg 0; simp only[Ap,ae] at this; exact this⟩,by simp only[Ap,ae]; rfl,ak _⟩ ?_
 intro k hk
 simp only[go_sem,ae]
 refine cndC.mk (fun h=>?_) (fun h=>?_)
 ·have hk':k<xs.length:=by simpa using h
  have hset:=@DX _ DDead.c xs [.v (.int .i64 0),.v (.int .i64 0),.v (.int .i64 0)] k hk'
  simp only[go_sem] at hset
  simp only[go_sem,AA _ hk']
  refine CW (hx xs[k] (aj hk')) fun _=>?_
  simp only[go_sem,Bl hk,EG hk',hk',hset,wrap_i64 (n:=(k:Int)+1) (by omega) (by omega)]
  exact⟨k+1,⟨rfl,hg _⟩,rfl,by omega,by first | omega | (simp only; omega)⟩
 ·have hk':k=xs.length:=by simp at h; omega
  subst hk'
  rw[DY]
  simp only[go_sem]
  simp[CS (AO DDead.pure)]
theorem iL (xs:List DDead) (hf:xs.length≤1048576):Ctr prog 25 [.c (.sl (xs.map DDead.c))] [.val (.c (.sl (xs.map DDead.c)))]:=(Vq xs hf fun x _=>Vp x).val (AO DDead.pure)
theorem RP (d:DRef):Ctr prog 127 [.agg d.c] [.val (.agg d.c)]:=by
 refine CM call127 func127 ntmps127 results127 fun _=>?_
 simp only[go_sem]
theorem RQ (xs:List DRef) (hf:xs.length≤1048576) (hx:∀ x∈xs,Ctr prog 127 [.agg x.c] [.val (.agg x.c)]):Ctr prog 59 [.c (.sl (xs.map DRef.c))] [.own 165 5 (xs.map DRef.c) true]:=by
 refine CM call59 func59 ntmps59 results59 fun _=>?_
 have hc:(0:Int)≤xs.length∧(xs.length:Int)≤xs.length∧(xs.length:Int)≤2147483648:=by omega
 simp only[go_sem,ae,hc]
 have hg:=fun k=>@Ef _ DRef.c DRef.pure [.v (.int .i64 0),.v (.int .i64 0),.v (.int .i64 0),.v (.int .i64 0),.v (.int .i64 0)] rfl xs k 165 5 true true
 refine LoopK.mk 1 [0,3,4] (A:=Nat) (fun k=>⟨23,[(0,.c (.sl (xs.map DRef.c))),(3,.c (.ref 0)),(4,.c (.v (.int .i64 k)))],[⟨165,5,grow (xs.map DRef.c) [.v (.int .i64 0),.v (.int .i64 0),.v (.int .i64 0),.v (.int .i64 0),.v (.int .i64 0)] k,true,true⟩]⟩) (fun k=>k≤xs.length) (fun k=>xs.length-k) 0 ⟨⟨rfl,by have:=hg 0; simp only[Ap,ae] at this; exact this⟩,by simp only[Ap,ae]; rfl,ak _⟩ ?_
 intro k hk
 simp only[go_sem,ae]
 refine cndC.mk (fun h=>?_) (fun h=>?_)
 ·have hk':k<xs.length:=by simpa using h
  have hset:=@DX _ DRef.c xs [.v (.int .i64 0),.v (.int .i64 0),.v (.int .i64 0),.v (.int .i64 0),.v (.int .i64 0)] k hk'
  simp only[go_sem] at hset
  simp only[go_sem,AA _ hk']
  refine CW (hx xs[k] (aj hk')) fun _=>?_
  simp only[go_sem,Bl hk,EG hk',hk',hset,wrap_i64 (n:=(k:Int)+1) (by omega) (by omega)]
  exact⟨k+1,⟨rfl,hg _⟩,rfl,by omega,by first | omega | (simp only; omega)⟩
 ·have hk':k=xs.length:=by simp at h; omega
  subst hk'
  rw[DY]
  simp only[go_sem]
  simp[CS (AO DRef.pure)]
theorem Vr (xs:List DRef) (hf:xs.length≤1048576):Ctr prog 59 [.c (.sl (xs.map DRef.c))] [.val (.c (.sl (xs.map DRef.c)))]:=(RQ xs hf fun x _=>RP x).val (AO DRef.pure)
theorem sN (d:DDir) (hf:Oz d):Ctr prog 22 [.agg d.c] [.val (.agg d.c)]:=by
 rw[Ht] at hf
 have f0:=hf
 refine CM call22 func22 ntmps22 results22 fun _=>?_
 simp only[go_sem]
 refine CW (Vr d.l f0) fun _=>?_
 simp only[go_sem]
theorem mf (d:DTask) (hf:FW d):Ctr prog 62 [.agg d.c] [.val (.agg d.c)]:=by
 rw[D6] at hf
 obtain⟨f0,f1,f2,f3⟩:=hf
 refine CM call62 func62 ntmps62 results62 fun _=>?_
 simp only[go_sem]
 refine CW (Ll d.r f0) fun _=>?_
 simp only[go_sem]
 refine CW (TA d.q f1) fun _=>?_
 simp only[go_sem]
 refine CW (Vr d.l f2) fun _=>?_
 simp only[go_sem]
 refine CW (Vl d.got f3) fun _=>?_
 simp only[go_sem]
theorem mg (xs:List DTask) (hf:xs.length≤1048576) (hx:∀ x∈xs,Ctr prog 62 [.agg x.c] [.val (.agg x.c)]):Ctr prog 26 [.c (.sl (xs.map DTask.c))] [.own 127 25 (xs.map DTask.c) true]:=by
 refine CM call26 func26 ntmps26 results26 fun _=>?_
 have hc:(0:Int)≤xs.length∧(xs.length:Int)≤xs.length∧(xs.length:Int)≤2147483648:=by omega
 simp only[go_sem,ae,hc]
 have hg:=fun k=>@Ef _ DTask.c DTask.pure [.v (.int .i64 0),.v (.int .i64 0),.v (.int .i64 0),.v (.slice none 0 0),.v (.int .i64 0),.v (.int .i64 0),.v (.int .i64 0),.v (.int .i64 0),.v (.int .i64 0),.v (.int .i64 0),.v (.int .i64 0),.v (.string ByteArray.empty),.v (.slice none 0 0),.v (.int .i64 0),.v (.slice none 0 0),.v (.int .i64 0),.v (.int .i64 0),.v (.slice none 0 0),.v (.int .i64 0),.v (.int .i64 0),.v (.int .i64 0),.v (.int .i64 0),.v (.int .i64 0),.v (.bool false),.v (.slice none 0 0)] rfl xs k 127 25 true true
 refine LoopK.mk 1 [0,3,4] (A:=Nat) (fun k=>⟨23,[(0,.c (.sl (xs.map DTask.c))),(3,.c (.ref 0)),(4,.c (.v (.int .i64 k)))],[⟨127,25,grow (xs.map DTask.c) [.v (.int .i64 0),.v (.int .i64 0),.v (.int .i64 0),.v (.slice none 0 0),.v (.int .i64 0),.v (.int .i64 0),.v (.int .i64 0),.v (.int .i64 0),.v (.int .i64 0),.v (.int .i64 0),.v (.int .i64 0),.v (.string ByteArray.empty),.v (.slice none 0 0),.v (.int .i64 0),.v (.slice none 0 0),.v (.int .i64 0),.v (.int .i64 0),.v (.slice none 0 0),.v (.int .i64 0),.v (.int .i64 0),.v (.int .i64 0),.v (.int .i64 0),.v (.int .i64 0),.v (.bool false),.v (.slice none 0 0)] k,true,true⟩]⟩) (fun k=>k≤xs.length) (fun k=>xs.length-k) 0 ⟨⟨rfl,by have:=hg 0; simp only[Ap,ae] at this; exact this⟩,by simp only[Ap,ae]; rfl,ak _⟩ ?_
 intro k hk
 simp only[go_sem,ae]
 refine cndC.mk (fun h=>?_) (fun h=>?_)
 ·have hk':k<xs.length:=by simpa using h
  have hset:=@DX _ DTask.c xs [.v (.int .i64 0),.v (.int .i64 0),.v (.int .i64 0),.v (.slice none 0 0),.v (.int .i64 0),.v (.int .i64 0),.v (.int .i64 0),.v (.int .i64 0),.v (.int .i64 0),.v (.int .i64 0),.v (.int .i64 0),.v (.string ByteArray.empty),.v (.slice none 0 0),.v (.int .i64 0),.v (.slice none 0 0),.v (.int .i64 0),.v (.int .i64 0),.v (.slice none 0 0),.v (.int .i64 0),.v (.int .i64 0),.v (.int .i64 0),.v (.int .i64 0),.v (.int .i64 0),.v (.bool false),.v (.slice none 0 0)] k hk'
  simp only[go_sem] at hset
  simp only[go_sem,AA _ hk']
  refine CW (hx xs[k] (aj hk')) fun _=>?_
  simp only[go_sem,Bl hk,EG hk',hk',hset,wrap_i64 (n:=(k:Int)+1) (by omega) (by omega)]
  exact⟨k+1,⟨rfl,hg _⟩,rfl,by omega,by first | omega | (simp only; omega)⟩
 ·have hk':k=xs.length:=by simp at h; omega
  subst hk'
  rw[DY]
  simp only[go_sem]
  simp[CS (AO DTask.pure)]
theorem iM (xs:List DTask) (hf:fitS FW xs):Ctr prog 26 [.c (.sl (xs.map DTask.c))] [.val (.c (.sl (xs.map DTask.c)))]:=(mg xs hf.1 fun x hx=>mf x (hf.2 x hx)).val (AO DTask.pure)
theorem mi (d:DDeed) (hf:E8 d):Ctr prog 63 [.agg d.c] [.val (.agg d.c)]:=by
 rw[F7] at hf
 obtain⟨f0,f1,f2⟩:=hf
 refine CM call63 func63 ntmps63 results63 fun _=>?_
 simp only[go_sem]
 refine CW (Ll d.r f0) fun _=>?_
 simp only[go_sem]
 refine CW (TA d.q f1) fun _=>?_
 simp only[go_sem]
 refine CW (Zm d.res f2) fun _=>?_
 simp only[go_sem]
theorem mr (xs:List DDeed) (hf:xs.length≤1048576) (hx:∀ x∈xs,Ctr prog 63 [.agg x.c] [.val (.agg x.c)]):Ctr prog 27 [.c (.sl (xs.map DDeed.c))] [.own 132 25 (xs.map DDeed.c) true]:=by
 refine CM call27 func27 ntmps27 results27 fun _=>?_
 have hc:(0:Int)≤xs.length∧(xs.length:Int)≤xs.length∧(xs.length:Int)≤2147483648:=by omega
 simp only[go_sem,ae,hc]
 have hg:=fun k=>@Ef _ DDeed.c DDeed.pure [.v (.int .i64 0),.v (.int .i64 0),.v (.slice none 0 0),.v (.int .i64 0),.v (.int .i64 0),.v (.int .i64 0),.v (.int .i64 0),.v (.int .i64 0),.v (.int .i64 0),.v (.int .i64 0),.v (.string ByteArray.empty),.v (.slice none 0 0),.v (.int .i64 0),.v (.slice none 0 0),.v (.slice none 0 0),.v (.int .i64 0),.v (.bool false),.v (.int .i64 0),.v (.int .i64 0),.v (.string ByteArray.empty),.v (.int .i64 0),.v (.int .i64 0),.v (.int .i64 0),.v (.int .i64 0),.v (.int .i64 0)] rfl xs k 132 25 true true
 refine LoopK.mk 1 [0,3,4] (A:=Nat) (fun k=>⟨23,[(0,.c (.sl (xs.map DDeed.c))),(3,.c (.ref 0)),(4,.c (.v (.int .i64 k)))],[⟨132,25,grow (xs.map DDeed.c) [.v (.int .i64 0),.v (.int .i64 0),.v (.slice none 0 0),.v (.int .i64 0),.v (.int .i64 0),.v (.int .i64 0),.v (.int .i64 0),.v (.int .i64 0),.v (.int .i64 0),.v (.int .i64 0),.v (.string ByteArray.empty),.v (.slice none 0 0),.v (.int .i64 0),.v (.slice none 0 0),.v (.slice none 0 0),.v (.int .i64 0),.v (.bool false),.v (.int .i64 0),.v (.int .i64 0),.v (.string ByteArray.empty),.v (.int .i64 0),.v (.int .i64 0),.v (.int .i64 0),.v (.int .i64 0),.v (.int .i64 0)] k,true,true⟩]⟩) (fun k=>k≤xs.length) (fun k=>xs.length-k) 0 ⟨⟨rfl,by have:=hg 0; simp only[Ap,ae] at this; exact this⟩,by simp only[Ap,ae]; rfl,ak _⟩ ?_
 intro k hk
 simp only[go_sem,ae]
 refine cndC.mk (fun h=>?_) (fun h=>?_)
 ·have hk':k<xs.length:=by simpa using h
  have hset:=@DX _ DDeed.c xs [.v (.int .i64 0),.v (.int .i64 0),.v (.slice none 0 0),.v (.int .i64 0),.v (.int .i64 0),.v (.int .i64 0),.v (.int .i64 0),.v (.int .i64 0),.v (.int .i64 0),.v (.int .i64 0),.v (.string ByteArray.empty),.v (.slice none 0 0),.v (.int .i64 0),.v (.slice none 0 0),.v (.slice none 0 0),.v (.int .i64 0),.v (.bool false),.v (.int .i64 0),.v (.int .i64 0),.v (.string ByteArray.empty),.v (.int .i64 0),.v (.int .i64 0),.v (.int .i64 0),.v (.int .i64 0),.v (.int .i64 0)] k hk'
  simp only[go_sem] at hset
  simp only[go_sem,AA _ hk']
  refine CW (hx xs[k] (aj hk')) fun _=>?_
  simp only[go_sem,Bl hk,EG hk',hk',hset,wrap_i64 (n:=(k:Int)+1) (by omega) (by omega)]
  exact⟨k+1,⟨rfl,hg _⟩,rfl,by omega,by first | omega | (simp only; omega)⟩
 ·have hk':k=xs.length:=by simp at h; omega
  subst hk'
  rw[DY]
  simp only[go_sem]
  simp[CS (AO DDeed.pure)]
theorem iO (xs:List DDeed) (hf:fitS E8 xs):Ctr prog 27 [.c (.sl (xs.map DDeed.c))] [.val (.c (.sl (xs.map DDeed.c)))]:=(mr xs hf.1 fun x hx=>mi x (hf.2 x hx)).val (AO DDeed.pure)
theorem m_ (d:DConf) (hf:La d):Ctr prog 21 [.agg d.c] [.val (.agg d.c)]:=by
 rw[F8] at hf
 have f0:=hf
 refine CM call21 func21 ntmps21 results21 fun _=>?_
 simp only[go_sem]
 refine CW (Lj d.cols f0) fun _=>?_
 simp only[go_sem]
theorem F_ (d:DWorld) (hf:AU d):Ctr prog 7 [.agg d.c] [.val (.agg d.c)]:=by
 rw[BH] at hf
 obtain⟨f0,f1,f2,f3,f4,f5,f6,f7⟩:=hf
 refine CM call7 func7 ntmps7 results7 fun _=>?_
 simp only[go_sem]
 refine CW (m_ d.c0 f0) fun _=>?_
 simp only[go_sem]
 refine CW (sN d.d f1) fun _=>?_
 simp only[go_sem]
 refine CW (mZ d.b f2) fun _=>?_
 simp only[go_sem]
 refine CW (Lj d.m f3) fun _=>?_
 simp only[go_sem]
 refine CW (iL d.x f4) fun _=>?_
 simp only[go_sem]
 refine CW (Lj d.p f5) fun _=>?_
 simp only[go_sem]
 refine CW (iM d.tasks f6) fun _=>?_
 simp only[go_sem]
 refine CW (iO d.deeds f7) fun _=>?_
 simp only[go_sem]
theorem Lm (xs:List Int):Ctr prog 31 [.c (.sl (xs.map intC)),.c (.sl (xs.map intC))] [.val (.c (.v (.bool true)))]:=by
 refine CM call31 func31 ntmps31 results31 fun hw=>?_
 have hlen:xs.length≤9223372036854775807:=by have:=hw.1.1; simpa [Go.maxLen] using this
 simp only[go_sem,ae,aH]
 refine LoopK.mk 0 [0,1,5] (A:=Nat) (fun k=>⟨26,[(0,.c (.sl (xs.map intC))),(1,.c (.sl (xs.map intC))),(5,.c (.v (.int .i64 k)))],[]⟩) (fun k=>k≤xs.length) (fun k=>xs.length-k) 0 ⟨⟨rfl,rfl⟩,rfl,ak _⟩ ?_
 intro k hk
 simp only[go_sem,ae]
 refine cndC.mk (fun h=>?_) (fun h=>?_)
 ·have hk':k<xs.length:=by simpa using h
  simp only[go_sem]
  refine DrawK.mk ?_
  simp only[go_sem,aH,AA _ hk',wrap_i64 (n:=(k:Int)+1) (by omega) (by omega)]
  exact⟨k+1,⟨rfl,rfl⟩,rfl,by omega,by first | omega | (simp only; omega)⟩
 ·simp only[go_sem]
theorem iP (xs:List Int):Ctr prog 136 [.c (.sl (xs.map byteC)),.c (.sl (xs.map byteC))] [.val (.c (.v (.bool true)))]:=by
 refine CM call136 func136 ntmps136 results136 fun hw=>?_
 have hlen:xs.length≤9223372036854775807:=by have:=hw.1.1; simpa [Go.maxLen] using this
 simp only[go_sem,ae,aH]
 refine LoopK.mk 0 [0,1,5] (A:=Nat) (fun k=>⟨26,[(0,.c (.sl (xs.map byteC))),(1,.c (.sl (xs.map byteC))),(5,.c (.v (.int .i64 k)))],[]⟩) (fun k=>k≤xs.length) (fun k=>xs.length-k) 0 ⟨⟨rfl,rfl⟩,rfl,ak _⟩ ?_
 intro k hk
 simp only[go_sem,ae]
 refine cndC.mk (fun h=>?_) (fun h=>?_)
 ·have hk':k<xs.length:=by simpa using h
  simp only[go_sem]
  refine DrawK.mk ?_
  simp only[go_sem,aH,AA _ hk',wrap_i64 (n:=(k:Int)+1) (by omega) (by omega)]
  exact⟨k+1,⟨rfl,rfl⟩,rfl,by omega,by first | omega | (simp only; omega)⟩
 ·simp only[go_sem]
theorem RS (d:DVal):Ctr prog 194 [.agg d.c,.agg d.c] [.val (.c (.v (.bool true)))]:=by
 refine CM call194 func194 ntmps194 results194 fun _=>?_
 simp only[go_sem,aH,bD]
theorem yX (xs:List DVal) (hx:∀ x∈xs,Ctr prog 194 [.agg x.c,.agg x.c] [.val (.c (.v (.bool true)))]):Ctr prog 137 [.c (.sl (xs.map DVal.c)),.c (.sl (xs.map DVal.c))] [.val (.c (.v (.bool true)))]:=by
 refine CM call137 func137 ntmps137 results137 fun hw=>?_
 have hlen:xs.length≤9223372036854775807:=by have:=hw.1.1; simpa [Go.maxLen] using this
 simp only[go_sem,ae,aH]
 refine LoopK.mk 0 [0,1,5] (A:=Nat) (fun k=>⟨27,[(0,.c (.sl (xs.map DVal.c))),(1,.c (.sl (xs.map DVal.c))),(5,.c (.v (.int .i64 k)))],[]⟩) (fun k=>k≤xs.length) (fun k=>xs.length-k) 0 ⟨⟨rfl,rfl⟩,rfl,ak _⟩ ?_
 intro k hk
 simp only[go_sem,ae]
 refine cndC.mk (fun h=>?_) (fun h=>?_)
 ·have hk':k<xs.length:=by simpa using h
  simp only[go_sem]
  refine DrawK.mk ?_
  simp only[go_sem,AA _ hk']
  refine CY (hx xs[k] (aj hk')) ?_
  simp only[go_sem,wrap_i64 (n:=(k:Int)+1) (by omega) (by omega)]
  exact⟨k+1,⟨rfl,rfl⟩,rfl,by omega,by first | omega | (simp only; omega)⟩
 ·simp only[go_sem]
theorem Lp (xs:List DVal):Ctr prog 137 [.c (.sl (xs.map DVal.c)),.c (.sl (xs.map DVal.c))] [.val (.c (.v (.bool true)))]:=yX xs fun x _=>RS x
theorem sO (d:DRow):Ctr prog 196 [.agg d.c,.agg d.c] [.val (.c (.v (.bool true)))]:=by
 refine CM call196 func196 ntmps196 results196 fun _=>?_
 simp only[go_sem,aH]
 refine CW (Lp d.l) fun _=>?_
 simp only[go_sem]
theorem yY (xs:List DRow) (hx:∀ x∈xs,Ctr prog 196 [.agg x.c,.agg x.c] [.val (.c (.v (.bool true)))]):Ctr prog 139 [.c (.sl (xs.map DRow.c)),.c (.sl (xs.map DRow.c))] [.val (.c (.v (.bool true)))]:=by
 refine CM call139 func139 ntmps139 results139 fun hw=>?_
 have hlen:xs.length≤9223372036854775807:=by have:=hw.1.1; simpa [Go.maxLen] using this
 simp only[go_sem,ae,aH]
 refine LoopK.mk 0 [0,1,5] (A:=Nat) (fun k=>⟨27,[(0,.c (.sl (xs.map DRow.c))),(1,.c (.sl (xs.map DRow.c))),(5,.c (.v (.int .i64 k)))],[]⟩) (fun k=>k≤xs.length) (fun k=>xs.length-k) 0 ⟨⟨rfl,rfl⟩,rfl,ak _⟩ ?_
 intro k hk
 simp only[go_sem,ae]
 refine cndC.mk (fun h=>?_) (fun h=>?_)
 ·have hk':k<xs.length:=by simpa using h
  simp only[go_sem]
  refine DrawK.mk ?_
  simp only[go_sem,AA _ hk']
  refine CY (hx xs[k] (aj hk')) ?_
  simp only[go_sem,wrap_i64 (n:=(k:Int)+1) (by omega) (by omega)]
  exact⟨k+1,⟨rfl,rfl⟩,rfl,by omega,by first | omega | (simp only; omega)⟩
 ·simp only[go_sem]
theorem Vs (xs:List DRow):Ctr prog 139 [.c (.sl (xs.map DRow.c)),.c (.sl (xs.map DRow.c))] [.val (.c (.v (.bool true)))]:=yY xs fun x _=>sO x
theorem sQ (xs:List DPred) (hx:∀ x∈xs,Ctr prog 195 [.agg x.c,.agg x.c] [.val (.c (.v (.bool true)))]):Ctr prog 228 [.c (.sl (xs.map DPred.c)),.c (.sl (xs.map DPred.c))] [.val (.c (.v (.bool true)))]:=by
 refine CM call228 func228 ntmps228 results228 fun hw=>?_
 have hlen:xs.length≤9223372036854775807:=by have:=hw.1.1; simpa [Go.maxLen] using this
 simp only[go_sem,ae,aH]
 refine LoopK.mk 0 [0,1,5] (A:=Nat) (fun k=>⟨27,[(0,.c (.sl (xs.map DPred.c))),(1,.c (.sl (xs.map DPred.c))),(5,.c (.v (.int .i64 k)))],[]⟩) (fun k=>k≤xs.length) (fun k=>xs.length-k) 0 ⟨⟨rfl,rfl⟩,rfl,ak _⟩ ?_
 intro k hk
 simp only[go_sem,ae]
 refine cndC.mk (fun h=>?_) (fun h=>?_)
 ·have hk':k<xs.length:=by simpa using h
  simp only[go_sem]
  refine DrawK.mk ?_
  simp only[go_sem,AA _ hk']
  refine CY (hx xs[k] (aj hk')) ?_
  simp only[go_sem,wrap_i64 (n:=(k:Int)+1) (by omega) (by omega)]
  exact⟨k+1,⟨rfl,rfl⟩,rfl,by omega,by first | omega | (simp only; omega)⟩
 ·simp only[go_sem]
theorem yZ (d:DPred) (hx:∀ x∈d.l,Ctr prog 195 [.agg x.c,.agg x.c] [.val (.c (.v (.bool true)))]):Ctr prog 195 [.agg d.c,.agg d.c] [.val (.c (.v (.bool true)))]:=by
 refine CM call195 func195 ntmps195 results195 fun _=>?_
 simp only[go_sem,aH]
 refine CW (RS d.v) fun _=>?_
 simp only[go_sem]
 refine CW (sQ d.l hx) fun _=>?_
 simp only[go_sem]
theorem Vt:∀ (n:Nat) (d:DPred),SizeOf.sizeOf d≤n→Ctr prog 195 [.agg d.c,.agg d.c] [.val (.c (.v (.bool true)))]
 | 0,d,h=>by cases d; simp at h
 | n+1,d,h=>yZ d fun x hx=>Vt n x (by
  have h1:SizeOf.sizeOf x<SizeOf.sizeOf d.l:=uC hx
  have h2:SizeOf.sizeOf d.l<SizeOf.sizeOf d:=by cases d; simp[DPred.l]; omega
  omega)
theorem nC (d:DPred):Ctr prog 195 [.agg d.c,.agg d.c] [.val (.c (.v (.bool true)))]:=Vt _ d (aK _)
theorem TB (d:DQuery):Ctr prog 138 [.agg d.c,.agg d.c] [.val (.c (.v (.bool true)))]:=by
 refine CM call138 func138 ntmps138 results138 fun _=>?_
 simp only[go_sem,aH]
 refine CW (nC d.p) fun _=>?_
 simp only[go_sem,aH]
 refine CW (Lm d.out) fun _=>?_
 simp only[go_sem]
theorem Zn (d:DResult):Ctr prog 140 [.agg d.c,.agg d.c] [.val (.c (.v (.bool true)))]:=by
 refine CM call140 func140 ntmps140 results140 fun _=>?_
 simp only[go_sem]
 refine CW (Vs d.rows) fun _=>?_
 simp only[go_sem,aH,bD]
 refine CW (RS d.v) fun _=>?_
 simp only[go_sem]
theorem nD (d:DSlot):Ctr prog 227 [.agg d.c,.agg d.c] [.val (.c (.v (.bool true)))]:=by
 refine CM call227 func227 ntmps227 results227 fun _=>?_
 simp only[go_sem,aH]
 refine CW (Lp d.l) fun _=>?_
 simp only[go_sem]
theorem sS (xs:List DSlot) (hx:∀ x∈xs,Ctr prog 227 [.agg x.c,.agg x.c] [.val (.c (.v (.bool true)))]):Ctr prog 193 [.c (.sl (xs.map DSlot.c)),.c (.sl (xs.map DSlot.c))] [.val (.c (.v (.bool true)))]:=by
 refine CM call193 func193 ntmps193 results193 fun hw=>?_
 have hlen:xs.length≤9223372036854775807:=by have:=hw.1.1; simpa [Go.maxLen] using this
 simp only[go_sem,ae,aH]
 refine LoopK.mk 0 [0,1,5] (A:=Nat) (fun k=>⟨27,[(0,.c (.sl (xs.map DSlot.c))),(1,.c (.sl (xs.map DSlot.c))),(5,.c (.v (.int .i64 k)))],[]⟩) (fun k=>k≤xs.length) (fun k=>xs.length-k) 0 ⟨⟨rfl,rfl⟩,rfl,ak _⟩ ?_
 intro k hk
 simp only[go_sem,ae]
 refine cndC.mk (fun h=>?_) (fun h=>?_)
 ·have hk':k<xs.length:=by simpa using h
  simp only[go_sem]
  refine DrawK.mk ?_
  simp only[go_sem,AA _ hk']
  refine CY (hx xs[k] (aj hk')) ?_
  simp only[go_sem,wrap_i64 (n:=(k:Int)+1) (by omega) (by omega)]
  exact⟨k+1,⟨rfl,rfl⟩,rfl,by omega,by first | omega | (simp only; omega)⟩
 ·simp only[go_sem]
theorem iQ (xs:List DSlot):Ctr prog 193 [.c (.sl (xs.map DSlot.c)),.c (.sl (xs.map DSlot.c))] [.val (.c (.v (.bool true)))]:=sS xs fun x _=>nD x
theorem iR (d:DChunk):Ctr prog 135 [.agg d.c,.agg d.c] [.val (.c (.v (.bool true)))]:=by
 refine CM call135 func135 ntmps135 results135 fun _=>?_
 simp only[go_sem,aH]
 refine CW (iQ d.l) fun _=>?_
 simp only[go_sem]
theorem sU (d:DBuf):Ctr prog 65 [.agg d.c,.agg d.c] [.val (.c (.v (.bool true)))]:=by
 refine CM call65 func65 ntmps65 results65 fun _=>?_
 simp only[go_sem,aH]
 refine CW (iR d.c0) fun _=>?_
 simp only[go_sem]
 refine CW (iP d.g) fun _=>?_
 simp only[go_sem]
theorem yc (xs:List DBuf) (hx:∀ x∈xs,Ctr prog 65 [.agg x.c,.agg x.c] [.val (.c (.v (.bool true)))]):Ctr prog 30 [.c (.sl (xs.map DBuf.c)),.c (.sl (xs.map DBuf.c))] [.val (.c (.v (.bool true)))]:=by
 refine CM call30 func30 ntmps30 results30 fun hw=>?_
 have hlen:xs.length≤9223372036854775807:=by have:=hw.1.1; simpa [Go.maxLen] using this
 simp only[go_sem,ae,aH]
 refine LoopK.mk 0 [0,1,5] (A:=Nat) (fun k=>⟨27,[(0,.c (.sl (xs.map DBuf.c))),(1,.c (.sl (xs.map DBuf.c))),(5,.c (.v (.int .i64 k)))],[]⟩) (fun k=>k≤xs.length) (fun k=>xs.length-k) 0 ⟨⟨rfl,rfl⟩,rfl,ak _⟩ ?_
 intro k hk
 simp only[go_sem,ae]
 refine cndC.mk (fun h=>?_) (fun h=>?_)
 ·have hk':k<xs.length:=by simpa using h
  simp only[go_sem]
  refine DrawK.mk ?_
  simp only[go_sem,AA _ hk']
  refine CY (hx xs[k] (aj hk')) ?_
  simp only[go_sem,wrap_i64 (n:=(k:Int)+1) (by omega) (by omega)]
  exact⟨k+1,⟨rfl,rfl⟩,rfl,by omega,by first | omega | (simp only; omega)⟩
 ·simp only[go_sem]
theorem nG (xs:List DBuf):Ctr prog 30 [.c (.sl (xs.map DBuf.c)),.c (.sl (xs.map DBuf.c))] [.val (.c (.v (.bool true)))]:=yc xs fun x _=>sU x
theorem nH (d:DDead):Ctr prog 66 [.agg d.c,.agg d.c] [.val (.c (.v (.bool true)))]:=by
 refine CM call66 func66 ntmps66 results66 fun _=>?_
 simp only[go_sem,aH]
theorem sV (xs:List DDead) (hx:∀ x∈xs,Ctr prog 66 [.agg x.c,.agg x.c] [.val (.c (.v (.bool true)))]):Ctr prog 32 [.c (.sl (xs.map DDead.c)),.c (.sl (xs.map DDead.c))] [.val (.c (.v (.bool true)))]:=by
 refine CM call32 func32 ntmps32 results32 fun hw=>?_
 have hlen:xs.length≤9223372036854775807:=by have:=hw.1.1; simpa [Go.maxLen] using this
 simp only[go_sem,ae,aH]
 refine LoopK.mk 0 [0,1,5] (A:=Nat) (fun k=>⟨27,[(0,.c (.sl (xs.map DDead.c))),(1,.c (.sl (xs.map DDead.c))),(5,.c (.v (.int .i64 k)))],[]⟩) (fun k=>k≤xs.length) (fun k=>xs.length-k) 0 ⟨⟨rfl,rfl⟩,rfl,ak _⟩ ?_
 intro k hk
 simp only[go_sem,ae]
 refine cndC.mk (fun h=>?_) (fun h=>?_)
 ·have hk':k<xs.length:=by simpa using h
  simp only[go_sem]
  refine DrawK.mk ?_
  simp only[go_sem,AA _ hk']
  refine CY (hx xs[k] (aj hk')) ?_
  simp only[go_sem,wrap_i64 (n:=(k:Int)+1) (by omega) (by omega)]
  exact⟨k+1,⟨rfl,rfl⟩,rfl,by omega,by first | omega | (simp only; omega)⟩
 ·simp only[go_sem]
theorem iT (xs:List DDead):Ctr prog 32 [.c (.sl (xs.map DDead.c)),.c (.sl (xs.map DDead.c))] [.val (.c (.v (.bool true)))]:=sV xs fun x _=>nH x
theorem sW (d:DRef):Ctr prog 134 [.agg d.c,.agg d.c] [.val (.c (.v (.bool true)))]:=by
 refine CM call134 func134 ntmps134 results134 fun _=>?_
 simp only[go_sem,aH]
theorem yf (xs:List DRef) (hx:∀ x∈xs,Ctr prog 134 [.agg x.c,.agg x.c] [.val (.c (.v (.bool true)))]):Ctr prog 64 [.c (.sl (xs.map DRef.c)),.c (.sl (xs.map DRef.c))] [.val (.c (.v (.bool true)))]:=by
 refine CM call64 func64 ntmps64 results64 fun hw=>?_
 have hlen:xs.length≤9223372036854775807:=by have:=hw.1.1; simpa [Go.maxLen] using this
 simp only[go_sem,ae,aH]
 refine LoopK.mk 0 [0,1,5] (A:=Nat) (fun k=>⟨27,[(0,.c (.sl (xs.map DRef.c))),(1,.c (.sl (xs.map DRef.c))),(5,.c (.v (.int .i64 k)))],[]⟩) (fun k=>k≤xs.length) (fun k=>xs.length-k) 0 ⟨⟨rfl,rfl⟩,rfl,ak _⟩ ?_
 intro k hk
 simp only[go_sem,ae]
 refine cndC.mk (fun h=>?_) (fun h=>?_)
 ·have hk':k<xs.length:=by simpa using h
  simp only[go_sem]
  refine DrawK.mk ?_
  simp only[go_sem,AA _ hk']
  refine CY (hx xs[k] (aj hk')) ?_
  simp only[go_sem,wrap_i64 (n:=(k:Int)+1) (by omega) (by omega)]
  exact⟨k+1,⟨rfl,rfl⟩,rfl,by omega,by first | omega | (simp only; omega)⟩
 ·simp only[go_sem]
theorem Vu (xs:List DRef):Ctr prog 64 [.c (.sl (xs.map DRef.c)),.c (.sl (xs.map DRef.c))] [.val (.c (.v (.bool true)))]:=yf xs fun x _=>sW x
theorem sZ (d:DDir):Ctr prog 29 [.agg d.c,.agg d.c] [.val (.c (.v (.bool true)))]:=by
 refine CM call29 func29 ntmps29 results29 fun _=>?_
 simp only[go_sem,aH]
 refine CW (Vu d.l) fun _=>?_
 simp only[go_sem]
theorem nI (d:DTask):Ctr prog 67 [.agg d.c,.agg d.c] [.val (.c (.v (.bool true)))]:=by
 refine CM call67 func67 ntmps67 results67 fun _=>?_
 simp only[go_sem,aH]
 refine CW (Lp d.r) fun _=>?_
 simp only[go_sem,aH]
 refine CW (TB d.q) fun _=>?_
 simp only[go_sem,aH]
 refine CW (Vu d.l) fun _=>?_
 simp only[go_sem,aH,bD]
 refine CW (Vs d.got) fun _=>?_
 simp only[go_sem]
theorem su (xs:List DTask) (hx:∀ x∈xs,Ctr prog 67 [.agg x.c,.agg x.c] [.val (.c (.v (.bool true)))]):Ctr prog 33 [.c (.sl (xs.map DTask.c)),.c (.sl (xs.map DTask.c))] [.val (.c (.v (.bool true)))]:=by
 refine CM call33 func33 ntmps33 results33 fun hw=>?_
 have hlen:xs.length≤9223372036854775807:=by have:=hw.1.1; simpa [Go.maxLen] using this
 simp only[go_sem,ae,aH]
 refine LoopK.mk 0 [0,1,5] (A:=Nat) (fun k=>⟨27,[(0,.c (.sl (xs.map DTask.c))),(1,.c (.sl (xs.map DTask.c))),(5,.c (.v (.int .i64 k)))],[]⟩) (fun k=>k≤xs.length) (fun k=>xs.length-k) 0 ⟨⟨rfl,rfl⟩,rfl,ak _⟩ ?_
 intro k hk
 simp only[go_sem,ae]
 refine cndC.mk (fun h=>?_) (fun h=>?_)
 ·have hk':k<xs.length:=by simpa using h
  simp only[go_sem]
  refine DrawK.mk ?_
  simp only[go_sem,AA _ hk']
  refine CY (hx xs[k] (aj hk')) ?_
  simp only[go_sem,wrap_i64 (n:=(k:Int)+1) (by omega) (by omega)]
  exact⟨k+1,⟨rfl,rfl⟩,rfl,by omega,by first | omega | (simp only; omega)⟩
 ·simp only[go_sem]
theorem iU (xs:List DTask):Ctr prog 33 [.c (.sl (xs.map DTask.c)),.c (.sl (xs.map DTask.c))] [.val (.c (.v (.bool true)))]:=su xs fun x _=>nI x
theorem nJ (d:DDeed):Ctr prog 68 [.agg d.c,.agg d.c] [.val (.c (.v (.bool true)))]:=by
 refine CM call68 func68 ntmps68 results68 fun _=>?_
 simp only[go_sem,aH]
 refine CW (Lp d.r) fun _=>?_
 simp only[go_sem,aH]
 refine CW (TB d.q) fun _=>?_
 simp only[go_sem]
 refine CW (Zn d.res) fun _=>?_
 simp only[go_sem,aH]
theorem tC (xs:List DDeed) (hx:∀ x∈xs,Ctr prog 68 [.agg x.c,.agg x.c] [.val (.c (.v (.bool true)))]):Ctr prog 34 [.c (.sl (xs.map DDeed.c)),.c (.sl (xs.map DDeed.c))] [.val (.c (.v (.bool true)))]:=by
 refine CM call34 func34 ntmps34 results34 fun hw=>?_
 have hlen:xs.length≤9223372036854775807:=by have:=hw.1.1; simpa [Go.maxLen] using this
 simp only[go_sem,ae,aH]
 refine LoopK.mk 0 [0,1,5] (A:=Nat) (fun k=>⟨27,[(0,.c (.sl (xs.map DDeed.c))),(1,.c (.sl (xs.map DDeed.c))),(5,.c (.v (.int .i64 k)))],[]⟩) (fun k=>k≤xs.length) (fun k=>xs.length-k) 0 ⟨⟨rfl,rfl⟩,rfl,ak _⟩ ?_
 intro k hk
 simp only[go_sem,ae]
 refine cndC.mk (fun h=>?_) (fun h=>?_)
 ·have hk':k<xs.length:=by simpa using h
  simp only[go_sem]
  refine DrawK.mk ?_
  simp only[go_sem,AA _ hk']
  refine CY (hx xs[k] (aj hk')) ?_
  simp only[go_sem,wrap_i64 (n:=(k:Int)+1) (by omega) (by omega)]
  exact⟨k+1,⟨rfl,rfl⟩,rfl,by omega,by first | omega | (simp only; omega)⟩
 ·simp only[go_sem]
theorem iV (xs:List DDeed):Ctr prog 34 [.c (.sl (xs.map DDeed.c)),.c (.sl (xs.map DDeed.c))] [.val (.c (.v (.bool true)))]:=tC xs fun x _=>nJ x
theorem nK (d:DConf):Ctr prog 28 [.agg d.c,.agg d.c] [.val (.c (.v (.bool true)))]:=by
 refine CM call28 func28 ntmps28 results28 fun _=>?_
 simp only[go_sem]
 refine CW (Lm d.cols) fun _=>?_
 simp only[go_sem,aH]
theorem Hw (d:DWorld):Ctr prog 9 [.agg d.c,.agg d.c] [.val (.c (.v (.bool true)))]:=by
 refine CM call9 func9 ntmps9 results9 fun _=>?_
 simp only[go_sem]
 refine CW (nK d.c0) fun _=>?_
 simp only[go_sem,aH]
 refine CW (sZ d.d) fun _=>?_
 simp only[go_sem]
 refine CW (nG d.b) fun _=>?_
 simp only[go_sem]
 refine CW (Lm d.m) fun _=>?_
 simp only[go_sem]
 refine CW (iT d.x) fun _=>?_
 simp only[go_sem]
 refine CW (Lm d.p) fun _=>?_
 simp only[go_sem]
 refine CW (iU d.tasks) fun _=>?_
 simp only[go_sem]
 refine CW (iV d.deeds) fun _=>?_
 simp only[go_sem]
end Go.Proofs.YtnchiiikacemmaaGreat
