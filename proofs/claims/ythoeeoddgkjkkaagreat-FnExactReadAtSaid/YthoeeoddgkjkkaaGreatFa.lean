/- Contracts of the sz/to/eq functions: by program (gen_data.py). -/
import Derived.Test.YthoeeoddgkjkkaaGreatDa
import Derived.Test.YthoeeoddgkjkkaaGreatTy
namespace Go.Proofs.YthoeeoddgkjkkaaGreat
set_option linter.unusedSimpArgs false
set_option linter.unusedVariables false
open Go.Vm
set_option maxHeartbeats 1000000
set_option maxRecDepth 10000
theorem JJ (xs:List Int) (l:Int) (hl:0≤l):Ctr Tryz.prog 39 [.c (.sl (xs.map intC)),.c (.v (.int .i64 l))] [.val (.c (.v (.int .i64 (CV xs.length l))))]:=by
 refine Ctr.mk Tryz.call39 Tryz.func39 rfl mixed Tryz.ntmps39 Tryz.results39 (by kernel_rfl) rfl fun hw=>?_
 have hlen:xs.length≤9223372036854775807:=by have:=hw.1.1; simpa [Go.maxLen] using this
 have hl2:l≤9223372036854775807:=IL hw.2.1
 simp only[go_sem,List.length_map,wrap_i64 (n:=l-xs.length) (by omega) (by omega)]
 refine cndC.mk (fun h=>?_) (fun h=>?_)
 ·have h':l-xs.length<0:=by simpa using h
  simp only[go_sem]
  simp[CV,h']
 ·have h':¬ l-xs.length<0:=by simpa using h
  simp only[go_sem]
  simp[CV,h']
theorem WQ (xs:List Int) (l:Int) (hl:0≤l):Ctr Tryz.prog 142 [.c (.sl (xs.map byteC)),.c (.v (.int .i64 l))] [.val (.c (.v (.int .i64 (CV xs.length l))))]:=by
 refine Ctr.mk Tryz.call142 Tryz.func142 rfl mixed Tryz.ntmps142 Tryz.results142 (by kernel_rfl) rfl fun hw=>?_
 have hlen:xs.length≤9223372036854775807:=by have:=hw.1.1; simpa [Go.maxLen] using this
 have hl2:l≤9223372036854775807:=IL hw.2.1
 simp only[go_sem,List.length_map,wrap_i64 (n:=l-xs.length) (by omega) (by omega)]
 refine cndC.mk (fun h=>?_) (fun h=>?_)
 ·have h':l-xs.length<0:=by simpa using h
  simp only[go_sem]
  simp[CV,h']
 ·have h':¬ l-xs.length<0:=by simpa using h
  simp only[go_sem]
  simp[CV,h']
theorem OA (d:DVal) (l:Int) (hl:0≤l):Ctr Tryz.prog 129 [.agg d.c,.c (.v (.int .i64 l))] [.val (.c (.v (.int .i64 (AZ d l))))]:=by
 refine Ctr.mk Tryz.call129 Tryz.func129 rfl mixed Tryz.ntmps129 Tryz.results129 (by kernel_rfl) rfl fun hw=>?_
 rw[Di]
 have hl2:l≤9223372036854775807:=IL hw.2.1
 have hs:d.s.size≤9223372036854775807:=dH hw.1.2.2.1
 simp only[go_sem,wrap_i64 (n:=l-d.s.size) (by omega) (by omega)]
 refine cndC.mk (fun h=>?_) (fun h=>?_)
 ·have h0:l-d.s.size<0:=by simpa using h
  simp only[go_sem]
  simp[CV,sq,h0]
 ·have h0:¬ l-d.s.size<0:=by simpa using h
  simp only[go_sem]
  simp[CV,sq,h0]
theorem iP (xs:List DVal) (hx:∀ x∈xs,∀ l,0≤l→Ctr Tryz.prog 129 [.agg x.c,.c (.v (.int .i64 l))] [.val (.c (.v (.int .i64 (AZ x l))))]) (l:Int) (hl:0≤l):Ctr Tryz.prog 143 [.c (.sl (xs.map DVal.c)),.c (.v (.int .i64 l))] [.val (.c (.v (.int .i64 (A_ AZ xs l))))]:=by
 refine Ctr.mk Tryz.call143 Tryz.func143 rfl mixed Tryz.ntmps143 Tryz.results143 (by kernel_rfl) rfl fun hw=>?_
 have hlen:xs.length≤9223372036854775807:=by have:=hw.1.1; simpa [Go.maxLen] using this
 have hl2:l≤9223372036854775807:=IL hw.2.1
 simp only[go_sem,List.length_map,wrap_i64 (n:=l-xs.length) (by omega) (by omega)]
 refine cndC.mk (fun h=>?_) (fun h=>?_)
 ·have h':l-xs.length<0:=by simpa using h
  simp only[go_sem]
  simp[A_,sq,CV,h']
 ·have h':¬ l-xs.length<0:=by simpa using h
  simp only[go_sem]
  refine LoopK.mk 0 [0,1,5] (A:=Nat×Int) (fun x=>⟨27,[(0,.c (.sl (xs.map DVal.c))),(1,.c (.v (.int .i64 x.2))),(5,.c (.v (.int .i64 x.1)))],[]⟩) (fun x=>x.1≤xs.length∧0≤x.2∧Ky AZ (xs.drop x.1) x.2=A_ AZ xs l) (fun x=>xs.length-x.1)
   (0,l-xs.length) ⟨⟨rfl,rfl⟩,rfl,Nat.zero_le _,by simp only; omega,by simp[A_,sq,CV,h']⟩ ?_
  rintro⟨k,m⟩ ⟨hk,hm0,hm⟩
  simp only at hk hm hm0
  simp only[go_sem,List.length_map]
  refine cndC.mk (fun h=>?_) (fun h=>?_)
  ·have hk':k<xs.length:=by simpa using h
   simp only[go_sem,AA _ hk']
   refine CallK.mk _ (by simpa only[go_sem] using hx xs[k] (List.getElem_mem hk') m hm0) fun _=>?_
   simp only[go_sem]
   rw[List.drop_eq_getElem_cons hk'] at hm
   simp only[Ky] at hm
   refine cndC.mk (fun h=>?_) (fun h=>?_)
   ·have h':AZ xs[k] m<0:=by simpa using h
    simp only[go_sem]
    rw[Nw h'] at hm
    rw[hm]
   ·have h':¬ AZ xs[k] m<0:=by simpa using h
    rw[J6 h'] at hm
    simp only[go_sem,wrap_i64 (n:=(k:Int)+1) (by omega) (by omega)]
    exact⟨(k+1,AZ xs[k] m),⟨rfl,rfl⟩,rfl,⟨by simp only; omega,(by omega:(0:Int)≤AZ xs[k] m),hm⟩,by simp only; omega⟩
  ·have hk':k=xs.length:=by simp at h; omega
   subst hk'
   simp only[go_sem]
   simp[Ky] at hm
   rw[hm]
theorem JK (xs:List DVal) (l:Int) (hl:0≤l):Ctr Tryz.prog 143 [.c (.sl (xs.map DVal.c)),.c (.v (.int .i64 l))] [.val (.c (.v (.int .i64 (A_ AZ xs l))))]:=iP xs (fun x _ l hl=>OA x l hl) l hl
theorem aS (d:DRow) (l:Int) (hl:0≤l):Ctr Tryz.prog 174 [.agg d.c,.c (.v (.int .i64 l))] [.val (.c (.v (.int .i64 (DY d l))))]:=by
 refine Ctr.mk Tryz.call174 Tryz.func174 rfl mixed Tryz.ntmps174 Tryz.results174 (by kernel_rfl) rfl fun hw=>?_
 rw[Ot]
 simp only[go_sem]
 refine CallK.mk _ (by simpa only[go_sem] using JK d.l _ (by omega)) fun _=>?_
 simp only[go_sem]
 refine cndC.mk (fun h=>?_) (fun h=>?_)
 ·have h0:A_ AZ d.l (l)<0:=by simpa using h
  simp only[go_sem]
  simp[sq,h0]
 ·have h0:¬ A_ AZ d.l (l)<0:=by simpa using h
  simp only[go_sem]
  simp[sq,h0]
theorem iQ (xs:List DRow) (hx:∀ x∈xs,∀ l,0≤l→Ctr Tryz.prog 174 [.agg x.c,.c (.v (.int .i64 l))] [.val (.c (.v (.int .i64 (DY x l))))]) (l:Int) (hl:0≤l):Ctr Tryz.prog 144 [.c (.sl (xs.map DRow.c)),.c (.v (.int .i64 l))] [.val (.c (.v (.int .i64 (A_ DY xs l))))]:=by
 refine Ctr.mk Tryz.call144 Tryz.func144 rfl mixed Tryz.ntmps144 Tryz.results144 (by kernel_rfl) rfl fun hw=>?_
 have hlen:xs.length≤9223372036854775807:=by have:=hw.1.1; simpa [Go.maxLen] using this
 have hl2:l≤9223372036854775807:=IL hw.2.1
 simp only[go_sem,List.length_map,wrap_i64 (n:=l-xs.length) (by omega) (by omega)]
 refine cndC.mk (fun h=>?_) (fun h=>?_)
 ·have h':l-xs.length<0:=by simpa using h
  simp only[go_sem]
  simp[A_,sq,CV,h']
 ·have h':¬ l-xs.length<0:=by simpa using h
  simp only[go_sem]
  refine LoopK.mk 0 [0,1,5] (A:=Nat×Int) (fun x=>⟨27,[(0,.c (.sl (xs.map DRow.c))),(1,.c (.v (.int .i64 x.2))),(5,.c (.v (.int .i64 x.1)))],[]⟩) (fun x=>x.1≤xs.length∧0≤x.2∧Ky DY (xs.drop x.1) x.2=A_ DY xs l) (fun x=>xs.length-x.1)
   (0,l-xs.length) ⟨⟨rfl,rfl⟩,rfl,Nat.zero_le _,by simp only; omega,by simp[A_,sq,CV,h']⟩ ?_
  rintro⟨k,m⟩ ⟨hk,hm0,hm⟩
  simp only at hk hm hm0
  simp only[go_sem,List.length_map]
  refine cndC.mk (fun h=>?_) (fun h=>?_)
  ·have hk':k<xs.length:=by simpa using h
   simp only[go_sem,AA _ hk']
   refine CallK.mk _ (by simpa only[go_sem] using hx xs[k] (List.getElem_mem hk') m hm0) fun _=>?_
   simp only[go_sem]
   rw[List.drop_eq_getElem_cons hk'] at hm
   simp only[Ky] at hm
   refine cndC.mk (fun h=>?_) (fun h=>?_)
   ·have h':DY xs[k] m<0:=by simpa using h
    simp only[go_sem]
    rw[Nw h'] at hm
    rw[hm]
   ·have h':¬ DY xs[k] m<0:=by simpa using h
    rw[J6 h'] at hm
    simp only[go_sem,wrap_i64 (n:=(k:Int)+1) (by omega) (by omega)]
    exact⟨(k+1,DY xs[k] m),⟨rfl,rfl⟩,rfl,⟨by simp only; omega,(by omega:(0:Int)≤DY xs[k] m),hm⟩,by simp only; omega⟩
  ·have hk':k=xs.length:=by simp at h; omega
   subst hk'
   simp only[go_sem]
   simp[Ky] at hm
   rw[hm]
theorem Qv (xs:List DRow) (l:Int) (hl:0≤l):Ctr Tryz.prog 144 [.c (.sl (xs.map DRow.c)),.c (.v (.int .i64 l))] [.val (.c (.v (.int .i64 (A_ DY xs l))))]:=iQ xs (fun x _ l hl=>aS x l hl) l hl
theorem aT (xs:List DPred) (hx:∀ x∈xs,∀ l,0≤l→Ctr Tryz.prog 87 [.agg x.c,.c (.v (.int .i64 l))] [.val (.c (.v (.int .i64 (Ae x l))))]) (l:Int) (hl:0≤l):Ctr Tryz.prog 130 [.c (.sl (xs.map DPred.c)),.c (.v (.int .i64 l))] [.val (.c (.v (.int .i64 (A_ Ae xs l))))]:=by
 refine Ctr.mk Tryz.call130 Tryz.func130 rfl mixed Tryz.ntmps130 Tryz.results130 (by kernel_rfl) rfl fun hw=>?_
 have hlen:xs.length≤9223372036854775807:=by have:=hw.1.1; simpa [Go.maxLen] using this
 have hl2:l≤9223372036854775807:=IL hw.2.1
 simp only[go_sem,List.length_map,wrap_i64 (n:=l-xs.length) (by omega) (by omega)]
 refine cndC.mk (fun h=>?_) (fun h=>?_)
 ·have h':l-xs.length<0:=by simpa using h
  simp only[go_sem]
  simp[A_,sq,CV,h']
 ·have h':¬ l-xs.length<0:=by simpa using h
  simp only[go_sem]
  refine LoopK.mk 0 [0,1,5] (A:=Nat×Int) (fun x=>⟨27,[(0,.c (.sl (xs.map DPred.c))),(1,.c (.v (.int .i64 x.2))),(5,.c (.v (.int .i64 x.1)))],[]⟩) (fun x=>x.1≤xs.length∧0≤x.2∧Ky Ae (xs.drop x.1) x.2=A_ Ae xs l) (fun x=>xs.length-x.1)
   (0,l-xs.length) ⟨⟨rfl,rfl⟩,rfl,Nat.zero_le _,by simp only; omega,by simp[A_,sq,CV,h']⟩ ?_
  rintro⟨k,m⟩ ⟨hk,hm0,hm⟩
  simp only at hk hm hm0
  simp only[go_sem,List.length_map]
  refine cndC.mk (fun h=>?_) (fun h=>?_)
  ·have hk':k<xs.length:=by simpa using h
   simp only[go_sem,AA _ hk']
   refine CallK.mk _ (by simpa only[go_sem] using hx xs[k] (List.getElem_mem hk') m hm0) fun _=>?_
   simp only[go_sem]
   rw[List.drop_eq_getElem_cons hk'] at hm
   simp only[Ky] at hm
   refine cndC.mk (fun h=>?_) (fun h=>?_)
   ·have h':Ae xs[k] m<0:=by simpa using h
    simp only[go_sem]
    rw[Nw h'] at hm
    rw[hm]
   ·have h':¬ Ae xs[k] m<0:=by simpa using h
    rw[J6 h'] at hm
    simp only[go_sem,wrap_i64 (n:=(k:Int)+1) (by omega) (by omega)]
    exact⟨(k+1,Ae xs[k] m),⟨rfl,rfl⟩,rfl,⟨by simp only; omega,(by omega:(0:Int)≤Ae xs[k] m),hm⟩,by simp only; omega⟩
  ·have hk':k=xs.length:=by simp at h; omega
   subst hk'
   simp only[go_sem]
   simp[Ky] at hm
   rw[hm]
theorem iR (d:DPred) (hx:∀ x∈d.l,∀ l,0≤l→Ctr Tryz.prog 87 [.agg x.c,.c (.v (.int .i64 l))] [.val (.c (.v (.int .i64 (Ae x l))))]) (l:Int) (hl:0≤l):Ctr Tryz.prog 87 [.agg d.c,.c (.v (.int .i64 l))] [.val (.c (.v (.int .i64 (Ae d l))))]:=by
 refine Ctr.mk Tryz.call87 Tryz.func87 rfl mixed Tryz.ntmps87 Tryz.results87 (by kernel_rfl) rfl fun hw=>?_
 rw[ED]
 simp only[go_sem]
 refine CallK.mk _ (by simpa only[go_sem] using OA d.v _ (by omega)) fun _=>?_
 simp only[go_sem]
 refine cndC.mk (fun h=>?_) (fun h=>?_)
 ·have h0:AZ d.v (l)<0:=by simpa using h
  simp only[go_sem]
  simp[sq,h0]
 ·have h0:¬ AZ d.v (l)<0:=by simpa using h
  simp only[go_sem]
  refine CallK.mk _ (by simpa only[go_sem] using aT d.l hx _ (by omega)) fun _=>?_
  simp only[go_sem]
  refine cndC.mk (fun h=>?_) (fun h=>?_)
  ·have h1:A_ Ae d.l (AZ d.v (l))<0:=by simpa using h
   simp only[go_sem]
   simp[sq,h0,h1]
  ·have h1:¬ A_ Ae d.l (AZ d.v (l))<0:=by simpa using h
   simp only[go_sem]
   simp[sq,h0,h1]
theorem Qw:∀ (n:Nat) (d:DPred),SizeOf.sizeOf d≤n→∀ l,0≤l→Ctr Tryz.prog 87 [.agg d.c,.c (.v (.int .i64 l))] [.val (.c (.v (.int .i64 (Ae d l))))]
 | 0,d,h=>by cases d; simp at h
 | n+1,d,h=>iR d fun x hx=>Qw n x (by
  have h1:SizeOf.sizeOf x<SizeOf.sizeOf d.l:=List.sizeOf_lt_of_mem hx
  have h2:SizeOf.sizeOf d.l<SizeOf.sizeOf d:=by cases d; simp[DPred.l]; omega
  omega)
theorem YV (d:DPred) (l:Int) (hl:0≤l):Ctr Tryz.prog 87 [.agg d.c,.c (.v (.int .i64 l))] [.val (.c (.v (.int .i64 (Ae d l))))]:=Qw _ d (Nat.le_refl _) l hl
theorem J_ (d:DQuery) (l:Int) (hl:0≤l):Ctr Tryz.prog 27 [.agg d.c,.c (.v (.int .i64 l))] [.val (.c (.v (.int .i64 (BH d l))))]:=by
 refine Ctr.mk Tryz.call27 Tryz.func27 rfl mixed Tryz.ntmps27 Tryz.results27 (by kernel_rfl) rfl fun hw=>?_
 rw[FV]
 simp only[go_sem]
 refine CallK.mk _ (by simpa only[go_sem] using YV d.p _ (by omega)) fun _=>?_
 simp only[go_sem]
 refine cndC.mk (fun h=>?_) (fun h=>?_)
 ·have h0:Ae d.p (l)<0:=by simpa using h
  simp only[go_sem]
  simp[sq,h0]
 ·have h0:¬ Ae d.p (l)<0:=by simpa using h
  simp only[go_sem]
  refine CallK.mk _ (by simpa only[go_sem] using JJ d.out _ (by omega)) fun _=>?_
  simp only[go_sem]
  refine cndC.mk (fun h=>?_) (fun h=>?_)
  ·have h1:CV d.out.length (Ae d.p (l))<0:=by simpa using h
   simp only[go_sem]
   simp[sq,h0,h1]
  ·have h1:¬ CV d.out.length (Ae d.p (l))<0:=by simpa using h
   simp only[go_sem]
   simp[sq,h0,h1]
theorem U2 (d:DResult) (l:Int) (hl:0≤l):Ctr Tryz.prog 145 [.agg d.c,.c (.v (.int .i64 l))] [.val (.c (.v (.int .i64 (GH d l))))]:=by
 refine Ctr.mk Tryz.call145 Tryz.func145 rfl mixed Tryz.ntmps145 Tryz.results145 (by kernel_rfl) rfl fun hw=>?_
 rw[JF]
 simp only[go_sem]
 refine CallK.mk _ (by simpa only[go_sem] using Qv d.rows _ (by omega)) fun _=>?_
 simp only[go_sem]
 refine cndC.mk (fun h=>?_) (fun h=>?_)
 ·have h0:A_ DY d.rows (l)<0:=by simpa using h
  simp only[go_sem]
  simp[sq,h0]
 ·have h0:¬ A_ DY d.rows (l)<0:=by simpa using h
  simp only[go_sem]
  refine CallK.mk _ (by simpa only[go_sem] using OA d.v _ (by omega)) fun _=>?_
  simp only[go_sem]
  refine cndC.mk (fun h=>?_) (fun h=>?_)
  ·have h1:AZ d.v (A_ DY d.rows (l))<0:=by simpa using h
   simp only[go_sem]
   simp[sq,h0,h1]
  ·have h1:¬ AZ d.v (A_ DY d.rows (l))<0:=by simpa using h
   simp only[go_sem]
   simp[sq,h0,h1]
theorem YW (d:DSlot) (l:Int) (hl:0≤l):Ctr Tryz.prog 201 [.agg d.c,.c (.v (.int .i64 l))] [.val (.c (.v (.int .i64 (Dl d l))))]:=by
 refine Ctr.mk Tryz.call201 Tryz.func201 rfl mixed Tryz.ntmps201 Tryz.results201 (by kernel_rfl) rfl fun hw=>?_
 rw[ML]
 simp only[go_sem]
 refine CallK.mk _ (by simpa only[go_sem] using JK d.l _ (by omega)) fun _=>?_
 simp only[go_sem]
 refine cndC.mk (fun h=>?_) (fun h=>?_)
 ·have h0:A_ AZ d.l (l)<0:=by simpa using h
  simp only[go_sem]
  simp[sq,h0]
 ·have h0:¬ A_ AZ d.l (l)<0:=by simpa using h
  simp only[go_sem]
  simp[sq,h0]
theorem aU (xs:List DSlot) (hx:∀ x∈xs,∀ l,0≤l→Ctr Tryz.prog 201 [.agg x.c,.c (.v (.int .i64 l))] [.val (.c (.v (.int .i64 (Dl x l))))]) (l:Int) (hl:0≤l):Ctr Tryz.prog 173 [.c (.sl (xs.map DSlot.c)),.c (.v (.int .i64 l))] [.val (.c (.v (.int .i64 (A_ Dl xs l))))]:=by
 refine Ctr.mk Tryz.call173 Tryz.func173 rfl mixed Tryz.ntmps173 Tryz.results173 (by kernel_rfl) rfl fun hw=>?_
 have hlen:xs.length≤9223372036854775807:=by have:=hw.1.1; simpa [Go.maxLen] using this
 have hl2:l≤9223372036854775807:=IL hw.2.1
 simp only[go_sem,List.length_map,wrap_i64 (n:=l-xs.length) (by omega) (by omega)]
 refine cndC.mk (fun h=>?_) (fun h=>?_)
 ·have h':l-xs.length<0:=by simpa using h
  simp only[go_sem]
  simp[A_,sq,CV,h']
 ·have h':¬ l-xs.length<0:=by simpa using h
  simp only[go_sem]
  refine LoopK.mk 0 [0,1,5] (A:=Nat×Int) (fun x=>⟨27,[(0,.c (.sl (xs.map DSlot.c))),(1,.c (.v (.int .i64 x.2))),(5,.c (.v (.int .i64 x.1)))],[]⟩) (fun x=>x.1≤xs.length∧0≤x.2∧Ky Dl (xs.drop x.1) x.2=A_ Dl xs l) (fun x=>xs.length-x.1)
   (0,l-xs.length) ⟨⟨rfl,rfl⟩,rfl,Nat.zero_le _,by simp only; omega,by simp[A_,sq,CV,h']⟩ ?_
  rintro⟨k,m⟩ ⟨hk,hm0,hm⟩
  simp only at hk hm hm0
  simp only[go_sem,List.length_map]
  refine cndC.mk (fun h=>?_) (fun h=>?_)
  ·have hk':k<xs.length:=by simpa using h
   simp only[go_sem,AA _ hk']
   refine CallK.mk _ (by simpa only[go_sem] using hx xs[k] (List.getElem_mem hk') m hm0) fun _=>?_
   simp only[go_sem]
   rw[List.drop_eq_getElem_cons hk'] at hm
   simp only[Ky] at hm
   refine cndC.mk (fun h=>?_) (fun h=>?_)
   ·have h':Dl xs[k] m<0:=by simpa using h
    simp only[go_sem]
    rw[Nw h'] at hm
    rw[hm]
   ·have h':¬ Dl xs[k] m<0:=by simpa using h
    rw[J6 h'] at hm
    simp only[go_sem,wrap_i64 (n:=(k:Int)+1) (by omega) (by omega)]
    exact⟨(k+1,Dl xs[k] m),⟨rfl,rfl⟩,rfl,⟨by simp only; omega,(by omega:(0:Int)≤Dl xs[k] m),hm⟩,by simp only; omega⟩
  ·have hk':k=xs.length:=by simp at h; omega
   subst hk'
   simp only[go_sem]
   simp[Ky] at hm
   rw[hm]
theorem WR (xs:List DSlot) (l:Int) (hl:0≤l):Ctr Tryz.prog 173 [.c (.sl (xs.map DSlot.c)),.c (.v (.int .i64 l))] [.val (.c (.v (.int .i64 (A_ Dl xs l))))]:=aU xs (fun x _ l hl=>YW x l hl) l hl
theorem WS (d:DChunk) (l:Int) (hl:0≤l):Ctr Tryz.prog 141 [.agg d.c,.c (.v (.int .i64 l))] [.val (.c (.v (.int .i64 (Fg d l))))]:=by
 refine Ctr.mk Tryz.call141 Tryz.func141 rfl mixed Tryz.ntmps141 Tryz.results141 (by kernel_rfl) rfl fun hw=>?_
 rw[J7]
 simp only[go_sem]
 refine CallK.mk _ (by simpa only[go_sem] using WR d.l _ (by omega)) fun _=>?_
 simp only[go_sem]
 refine cndC.mk (fun h=>?_) (fun h=>?_)
 ·have h0:A_ Dl d.l (l)<0:=by simpa using h
  simp only[go_sem]
  simp[sq,h0]
 ·have h0:¬ A_ Dl d.l (l)<0:=by simpa using h
  simp only[go_sem]
  simp[sq,h0]
theorem aV (d:DBuf) (l:Int) (hl:0≤l):Ctr Tryz.prog 95 [.agg d.c,.c (.v (.int .i64 l))] [.val (.c (.v (.int .i64 (DC d l))))]:=by
 refine Ctr.mk Tryz.call95 Tryz.func95 rfl mixed Tryz.ntmps95 Tryz.results95 (by kernel_rfl) rfl fun hw=>?_
 rw[Ou]
 simp only[go_sem]
 refine CallK.mk _ (by simpa only[go_sem] using WS d.c0 _ (by omega)) fun _=>?_
 simp only[go_sem]
 refine cndC.mk (fun h=>?_) (fun h=>?_)
 ·have h0:Fg d.c0 (l)<0:=by simpa using h
  simp only[go_sem]
  simp[sq,h0]
 ·have h0:¬ Fg d.c0 (l)<0:=by simpa using h
  simp only[go_sem]
  refine CallK.mk _ (by simpa only[go_sem] using WQ d.g _ (by omega)) fun _=>?_
  simp only[go_sem]
  refine cndC.mk (fun h=>?_) (fun h=>?_)
  ·have h1:CV d.g.length (Fg d.c0 (l))<0:=by simpa using h
   simp only[go_sem]
   simp[sq,h0,h1]
  ·have h1:¬ CV d.g.length (Fg d.c0 (l))<0:=by simpa using h
   simp only[go_sem]
   simp[sq,h0,h1]
theorem iT (xs:List DBuf) (hx:∀ x∈xs,∀ l,0≤l→Ctr Tryz.prog 95 [.agg x.c,.c (.v (.int .i64 l))] [.val (.c (.v (.int .i64 (DC x l))))]) (l:Int) (hl:0≤l):Ctr Tryz.prog 38 [.c (.sl (xs.map DBuf.c)),.c (.v (.int .i64 l))] [.val (.c (.v (.int .i64 (A_ DC xs l))))]:=by
 refine Ctr.mk Tryz.call38 Tryz.func38 rfl mixed Tryz.ntmps38 Tryz.results38 (by kernel_rfl) rfl fun hw=>?_
 have hlen:xs.length≤9223372036854775807:=by have:=hw.1.1; simpa [Go.maxLen] using this
 have hl2:l≤9223372036854775807:=IL hw.2.1
 simp only[go_sem,List.length_map,wrap_i64 (n:=l-xs.length) (by omega) (by omega)]
 refine cndC.mk (fun h=>?_) (fun h=>?_)
 ·have h':l-xs.length<0:=by simpa using h
  simp only[go_sem]
  simp[A_,sq,CV,h']
 ·have h':¬ l-xs.length<0:=by simpa using h
  simp only[go_sem]
  refine LoopK.mk 0 [0,1,5] (A:=Nat×Int) (fun x=>⟨27,[(0,.c (.sl (xs.map DBuf.c))),(1,.c (.v (.int .i64 x.2))),(5,.c (.v (.int .i64 x.1)))],[]⟩) (fun x=>x.1≤xs.length∧0≤x.2∧Ky DC (xs.drop x.1) x.2=A_ DC xs l) (fun x=>xs.length-x.1)
   (0,l-xs.length) ⟨⟨rfl,rfl⟩,rfl,Nat.zero_le _,by simp only; omega,by simp[A_,sq,CV,h']⟩ ?_
  rintro⟨k,m⟩ ⟨hk,hm0,hm⟩
  simp only at hk hm hm0
  simp only[go_sem,List.length_map]
  refine cndC.mk (fun h=>?_) (fun h=>?_)
  ·have hk':k<xs.length:=by simpa using h
   simp only[go_sem,AA _ hk']
   refine CallK.mk _ (by simpa only[go_sem] using hx xs[k] (List.getElem_mem hk') m hm0) fun _=>?_
   simp only[go_sem]
   rw[List.drop_eq_getElem_cons hk'] at hm
   simp only[Ky] at hm
   refine cndC.mk (fun h=>?_) (fun h=>?_)
   ·have h':DC xs[k] m<0:=by simpa using h
    simp only[go_sem]
    rw[Nw h'] at hm
    rw[hm]
   ·have h':¬ DC xs[k] m<0:=by simpa using h
    rw[J6 h'] at hm
    simp only[go_sem,wrap_i64 (n:=(k:Int)+1) (by omega) (by omega)]
    exact⟨(k+1,DC xs[k] m),⟨rfl,rfl⟩,rfl,⟨by simp only; omega,(by omega:(0:Int)≤DC xs[k] m),hm⟩,by simp only; omega⟩
  ·have hk':k=xs.length:=by simp at h; omega
   subst hk'
   simp only[go_sem]
   simp[Ky] at hm
   rw[hm]
theorem YX (xs:List DBuf) (l:Int) (hl:0≤l):Ctr Tryz.prog 38 [.c (.sl (xs.map DBuf.c)),.c (.v (.int .i64 l))] [.val (.c (.v (.int .i64 (A_ DC xs l))))]:=iT xs (fun x _ l hl=>aV x l hl) l hl
theorem WT (xs:List DDead) (l:Int) (hl:0≤l):Ctr Tryz.prog 40 [.c (.sl (xs.map DDead.c)),.c (.v (.int .i64 l))] [.val (.c (.v (.int .i64 (CV xs.length l))))]:=by
 refine Ctr.mk Tryz.call40 Tryz.func40 rfl mixed Tryz.ntmps40 Tryz.results40 (by kernel_rfl) rfl fun hw=>?_
 have hlen:xs.length≤9223372036854775807:=by have:=hw.1.1; simpa [Go.maxLen] using this
 have hl2:l≤9223372036854775807:=IL hw.2.1
 simp only[go_sem,List.length_map,wrap_i64 (n:=l-xs.length) (by omega) (by omega)]
 refine cndC.mk (fun h=>?_) (fun h=>?_)
 ·have h':l-xs.length<0:=by simpa using h
  simp only[go_sem]
  simp[CV,h']
 ·have h':¬ l-xs.length<0:=by simpa using h
  simp only[go_sem]
  simp[CV,h']
theorem Qx (xs:List DRef) (l:Int) (hl:0≤l):Ctr Tryz.prog 94 [.c (.sl (xs.map DRef.c)),.c (.v (.int .i64 l))] [.val (.c (.v (.int .i64 (CV xs.length l))))]:=by
 refine Ctr.mk Tryz.call94 Tryz.func94 rfl mixed Tryz.ntmps94 Tryz.results94 (by kernel_rfl) rfl fun hw=>?_
 have hlen:xs.length≤9223372036854775807:=by have:=hw.1.1; simpa [Go.maxLen] using this
 have hl2:l≤9223372036854775807:=IL hw.2.1
 simp only[go_sem,List.length_map,wrap_i64 (n:=l-xs.length) (by omega) (by omega)]
 refine cndC.mk (fun h=>?_) (fun h=>?_)
 ·have h':l-xs.length<0:=by simpa using h
  simp only[go_sem]
  simp[CV,h']
 ·have h':¬ l-xs.length<0:=by simpa using h
  simp only[go_sem]
  simp[CV,h']
theorem aW (d:DDir) (l:Int) (hl:0≤l):Ctr Tryz.prog 37 [.agg d.c,.c (.v (.int .i64 l))] [.val (.c (.v (.int .i64 (Dx d l))))]:=by
 refine Ctr.mk Tryz.call37 Tryz.func37 rfl mixed Tryz.ntmps37 Tryz.results37 (by kernel_rfl) rfl fun hw=>?_
 rw[Jm]
 simp only[go_sem]
 refine CallK.mk _ (by simpa only[go_sem] using Qx d.l _ (by omega)) fun _=>?_
 simp only[go_sem]
 refine cndC.mk (fun h=>?_) (fun h=>?_)
 ·have h0:CV d.l.length (l)<0:=by simpa using h
  simp only[go_sem]
  simp[sq,h0]
 ·have h0:¬ CV d.l.length (l)<0:=by simpa using h
  simp only[go_sem]
  simp[sq,h0]
theorem YY (d:DTask) (l:Int) (hl:0≤l):Ctr Tryz.prog 96 [.agg d.c,.c (.v (.int .i64 l))] [.val (.c (.v (.int .i64 (DR d l))))]:=by
 refine Ctr.mk Tryz.call96 Tryz.func96 rfl mixed Tryz.ntmps96 Tryz.results96 (by kernel_rfl) rfl fun hw=>?_
 rw[MM]
 simp only[go_sem]
 refine CallK.mk _ (by simpa only[go_sem] using JK d.r _ (by omega)) fun _=>?_
 simp only[go_sem]
 refine cndC.mk (fun h=>?_) (fun h=>?_)
 ·have h0:A_ AZ d.r (l)<0:=by simpa using h
  simp only[go_sem]
  simp[sq,h0]
 ·have h0:¬ A_ AZ d.r (l)<0:=by simpa using h
  simp only[go_sem]
  refine CallK.mk _ (by simpa only[go_sem] using J_ d.q _ (by omega)) fun _=>?_
  simp only[go_sem]
  refine cndC.mk (fun h=>?_) (fun h=>?_)
  ·have h1:BH d.q (A_ AZ d.r (l))<0:=by simpa using h
   simp only[go_sem]
   simp[sq,h0,h1]
  ·have h1:¬ BH d.q (A_ AZ d.r (l))<0:=by simpa using h
   simp only[go_sem]
   refine CallK.mk _ (by simpa only[go_sem] using Qx d.l _ (by omega)) fun _=>?_
   simp only[go_sem]
   refine cndC.mk (fun h=>?_) (fun h=>?_)
   ·have h2:CV d.l.length (BH d.q (A_ AZ d.r (l)))<0:=by simpa using h
    simp only[go_sem]
    simp[sq,h0,h1,h2]
   ·have h2:¬ CV d.l.length (BH d.q (A_ AZ d.r (l)))<0:=by simpa using h
    simp only[go_sem]
    refine CallK.mk _ (by simpa only[go_sem] using Qv d.got _ (by omega)) fun _=>?_
    simp only[go_sem]
    refine cndC.mk (fun h=>?_) (fun h=>?_)
    ·have h3:A_ DY d.got (CV d.l.length (BH d.q (A_ AZ d.r (l))))<0:=by simpa using h
     simp only[go_sem]
     simp[sq,h0,h1,h2,h3]
    ·have h3:¬ A_ DY d.got (CV d.l.length (BH d.q (A_ AZ d.r (l))))<0:=by simpa using h
     simp only[go_sem]
     simp[sq,h0,h1,h2,h3]
theorem aX (xs:List DTask) (hx:∀ x∈xs,∀ l,0≤l→Ctr Tryz.prog 96 [.agg x.c,.c (.v (.int .i64 l))] [.val (.c (.v (.int .i64 (DR x l))))]) (l:Int) (hl:0≤l):Ctr Tryz.prog 41 [.c (.sl (xs.map DTask.c)),.c (.v (.int .i64 l))] [.val (.c (.v (.int .i64 (A_ DR xs l))))]:=by
 refine Ctr.mk Tryz.call41 Tryz.func41 rfl mixed Tryz.ntmps41 Tryz.results41 (by kernel_rfl) rfl fun hw=>?_
 have hlen:xs.length≤9223372036854775807:=by have:=hw.1.1; simpa [Go.maxLen] using this
 have hl2:l≤9223372036854775807:=IL hw.2.1
 simp only[go_sem,List.length_map,wrap_i64 (n:=l-xs.length) (by omega) (by omega)]
 refine cndC.mk (fun h=>?_) (fun h=>?_)
 ·have h':l-xs.length<0:=by simpa using h
  simp only[go_sem]
  simp[A_,sq,CV,h']
 ·have h':¬ l-xs.length<0:=by simpa using h
  simp only[go_sem]
  refine LoopK.mk 0 [0,1,5] (A:=Nat×Int) (fun x=>⟨27,[(0,.c (.sl (xs.map DTask.c))),(1,.c (.v (.int .i64 x.2))),(5,.c (.v (.int .i64 x.1)))],[]⟩) (fun x=>x.1≤xs.length∧0≤x.2∧Ky DR (xs.drop x.1) x.2=A_ DR xs l) (fun x=>xs.length-x.1)
   (0,l-xs.length) ⟨⟨rfl,rfl⟩,rfl,Nat.zero_le _,by simp only; omega,by simp[A_,sq,CV,h']⟩ ?_
  rintro⟨k,m⟩ ⟨hk,hm0,hm⟩
  simp only at hk hm hm0
  simp only[go_sem,List.length_map]
  refine cndC.mk (fun h=>?_) (fun h=>?_)
  ·have hk':k<xs.length:=by simpa using h
   simp only[go_sem,AA _ hk']
   refine CallK.mk _ (by simpa only[go_sem] using hx xs[k] (List.getElem_mem hk') m hm0) fun _=>?_
   simp only[go_sem]
   rw[List.drop_eq_getElem_cons hk'] at hm
   simp only[Ky] at hm
   refine cndC.mk (fun h=>?_) (fun h=>?_)
   ·have h':DR xs[k] m<0:=by simpa using h
    simp only[go_sem]
    rw[Nw h'] at hm
    rw[hm]
   ·have h':¬ DR xs[k] m<0:=by simpa using h
    rw[J6 h'] at hm
    simp only[go_sem,wrap_i64 (n:=(k:Int)+1) (by omega) (by omega)]
    exact⟨(k+1,DR xs[k] m),⟨rfl,rfl⟩,rfl,⟨by simp only; omega,(by omega:(0:Int)≤DR xs[k] m),hm⟩,by simp only; omega⟩
  ·have hk':k=xs.length:=by simp at h; omega
   subst hk'
   simp only[go_sem]
   simp[Ky] at hm
   rw[hm]
theorem WU (xs:List DTask) (l:Int) (hl:0≤l):Ctr Tryz.prog 41 [.c (.sl (xs.map DTask.c)),.c (.v (.int .i64 l))] [.val (.c (.v (.int .i64 (A_ DR xs l))))]:=aX xs (fun x _ l hl=>YY x l hl) l hl
theorem YZ (d:DDeed) (l:Int) (hl:0≤l):Ctr Tryz.prog 97 [.agg d.c,.c (.v (.int .i64 l))] [.val (.c (.v (.int .i64 (Dn d l))))]:=by
 refine Ctr.mk Tryz.call97 Tryz.func97 rfl mixed Tryz.ntmps97 Tryz.results97 (by kernel_rfl) rfl fun hw=>?_
 rw[MN]
 simp only[go_sem]
 refine CallK.mk _ (by simpa only[go_sem] using JK d.r _ (by omega)) fun _=>?_
 simp only[go_sem]
 refine cndC.mk (fun h=>?_) (fun h=>?_)
 ·have h0:A_ AZ d.r (l)<0:=by simpa using h
  simp only[go_sem]
  simp[sq,h0]
 ·have h0:¬ A_ AZ d.r (l)<0:=by simpa using h
  simp only[go_sem]
  refine CallK.mk _ (by simpa only[go_sem] using J_ d.q _ (by omega)) fun _=>?_
  simp only[go_sem]
  refine cndC.mk (fun h=>?_) (fun h=>?_)
  ·have h1:BH d.q (A_ AZ d.r (l))<0:=by simpa using h
   simp only[go_sem]
   simp[sq,h0,h1]
  ·have h1:¬ BH d.q (A_ AZ d.r (l))<0:=by simpa using h
   simp only[go_sem]
   refine CallK.mk _ (by simpa only[go_sem] using U2 d.res _ (by omega)) fun _=>?_
   simp only[go_sem]
   refine cndC.mk (fun h=>?_) (fun h=>?_)
   ·have h2:GH d.res (BH d.q (A_ AZ d.r (l)))<0:=by simpa using h
    simp only[go_sem]
    simp[sq,h0,h1,h2]
   ·have h2:¬ GH d.res (BH d.q (A_ AZ d.r (l)))<0:=by simpa using h
    simp only[go_sem]
    simp[sq,h0,h1,h2]
theorem aY (xs:List DDeed) (hx:∀ x∈xs,∀ l,0≤l→Ctr Tryz.prog 97 [.agg x.c,.c (.v (.int .i64 l))] [.val (.c (.v (.int .i64 (Dn x l))))]) (l:Int) (hl:0≤l):Ctr Tryz.prog 42 [.c (.sl (xs.map DDeed.c)),.c (.v (.int .i64 l))] [.val (.c (.v (.int .i64 (A_ Dn xs l))))]:=by
 refine Ctr.mk Tryz.call42 Tryz.func42 rfl mixed Tryz.ntmps42 Tryz.results42 (by kernel_rfl) rfl fun hw=>?_
 have hlen:xs.length≤9223372036854775807:=by have:=hw.1.1; simpa [Go.maxLen] using this
 have hl2:l≤9223372036854775807:=IL hw.2.1
 simp only[go_sem,List.length_map,wrap_i64 (n:=l-xs.length) (by omega) (by omega)]
 refine cndC.mk (fun h=>?_) (fun h=>?_)
 ·have h':l-xs.length<0:=by simpa using h
  simp only[go_sem]
  simp[A_,sq,CV,h']
 ·have h':¬ l-xs.length<0:=by simpa using h
  simp only[go_sem]
  refine LoopK.mk 0 [0,1,5] (A:=Nat×Int) (fun x=>⟨27,[(0,.c (.sl (xs.map DDeed.c))),(1,.c (.v (.int .i64 x.2))),(5,.c (.v (.int .i64 x.1)))],[]⟩) (fun x=>x.1≤xs.length∧0≤x.2∧Ky Dn (xs.drop x.1) x.2=A_ Dn xs l) (fun x=>xs.length-x.1)
   (0,l-xs.length) ⟨⟨rfl,rfl⟩,rfl,Nat.zero_le _,by simp only; omega,by simp[A_,sq,CV,h']⟩ ?_
  rintro⟨k,m⟩ ⟨hk,hm0,hm⟩
  simp only at hk hm hm0
  simp only[go_sem,List.length_map]
  refine cndC.mk (fun h=>?_) (fun h=>?_)
  ·have hk':k<xs.length:=by simpa using h
   simp only[go_sem,AA _ hk']
   refine CallK.mk _ (by simpa only[go_sem] using hx xs[k] (List.getElem_mem hk') m hm0) fun _=>?_
   simp only[go_sem]
   rw[List.drop_eq_getElem_cons hk'] at hm
   simp only[Ky] at hm
   refine cndC.mk (fun h=>?_) (fun h=>?_)
   ·have h':Dn xs[k] m<0:=by simpa using h
    simp only[go_sem]
    rw[Nw h'] at hm
    rw[hm]
   ·have h':¬ Dn xs[k] m<0:=by simpa using h
    rw[J6 h'] at hm
    simp only[go_sem,wrap_i64 (n:=(k:Int)+1) (by omega) (by omega)]
    exact⟨(k+1,Dn xs[k] m),⟨rfl,rfl⟩,rfl,⟨by simp only; omega,(by omega:(0:Int)≤Dn xs[k] m),hm⟩,by simp only; omega⟩
  ·have hk':k=xs.length:=by simp at h; omega
   subst hk'
   simp only[go_sem]
   simp[Ky] at hm
   rw[hm]
theorem WV (xs:List DDeed) (l:Int) (hl:0≤l):Ctr Tryz.prog 42 [.c (.sl (xs.map DDeed.c)),.c (.v (.int .i64 l))] [.val (.c (.v (.int .i64 (A_ Dn xs l))))]:=aY xs (fun x _ l hl=>YZ x l hl) l hl
theorem Ya (d:DConf) (l:Int) (hl:0≤l):Ctr Tryz.prog 36 [.agg d.c,.c (.v (.int .i64 l))] [.val (.c (.v (.int .i64 (Be d l))))]:=by
 refine Ctr.mk Tryz.call36 Tryz.func36 rfl mixed Tryz.ntmps36 Tryz.results36 (by kernel_rfl) rfl fun hw=>?_
 rw[Ig]
 simp only[go_sem]
 refine CallK.mk _ (by simpa only[go_sem] using JJ d.cols _ (by omega)) fun _=>?_
 simp only[go_sem]
 refine cndC.mk (fun h=>?_) (fun h=>?_)
 ·have h0:CV d.cols.length (l)<0:=by simpa using h
  simp only[go_sem]
  simp[sq,h0]
 ·have h0:¬ CV d.cols.length (l)<0:=by simpa using h
  simp only[go_sem]
  simp[sq,h0]
theorem WW (d:DWorld) (l:Int) (hl:0≤l):Ctr Tryz.prog 9 [.agg d.c,.c (.v (.int .i64 l))] [.val (.c (.v (.int .i64 (Fh d l))))]:=by
 refine Ctr.mk Tryz.call9 Tryz.func9 rfl mixed Tryz.ntmps9 Tryz.results9 (by kernel_rfl) rfl fun hw=>?_
 rw[J8]
 simp only[go_sem]
 refine CallK.mk _ (by simpa only[go_sem] using Ya d.c0 _ (by omega)) fun _=>?_
 simp only[go_sem]
 refine cndC.mk (fun h=>?_) (fun h=>?_)
 ·have h0:Be d.c0 (l)<0:=by simpa using h
  simp only[go_sem]
  simp[sq,h0]
 ·have h0:¬ Be d.c0 (l)<0:=by simpa using h
  simp only[go_sem]
  refine CallK.mk _ (by simpa only[go_sem] using aW d.d _ (by omega)) fun _=>?_
  simp only[go_sem]
  refine cndC.mk (fun h=>?_) (fun h=>?_)
  ·have h1:Dx d.d (Be d.c0 (l))<0:=by simpa using h
   simp only[go_sem]
   simp[sq,h0,h1]
  ·have h1:¬ Dx d.d (Be d.c0 (l))<0:=by simpa using h
   simp only[go_sem]
   refine CallK.mk _ (by simpa only[go_sem] using YX d.b _ (by omega)) fun _=>?_
   simp only[go_sem]
   refine cndC.mk (fun h=>?_) (fun h=>?_)
   ·have h2:A_ DC d.b (Dx d.d (Be d.c0 (l)))<0:=by simpa using h
    simp only[go_sem]
    simp[sq,h0,h1,h2]
   ·have h2:¬ A_ DC d.b (Dx d.d (Be d.c0 (l)))<0:=by simpa using h
    simp only[go_sem]
    refine CallK.mk _ (by simpa only[go_sem] using JJ d.m _ (by omega)) fun _=>?_
    simp only[go_sem]
    refine cndC.mk (fun h=>?_) (fun h=>?_)
    ·have h3:CV d.m.length (A_ DC d.b (Dx d.d (Be d.c0 (l))))<0:=by simpa using h
     simp only[go_sem]
     simp[sq,h0,h1,h2,h3]
    ·have h3:¬ CV d.m.length (A_ DC d.b (Dx d.d (Be d.c0 (l))))<0:=by simpa using h
     simp only[go_sem]
     refine CallK.mk _ (by simpa only[go_sem] using WT d.x _ (by omega)) fun _=>?_
     simp only[go_sem]
     refine cndC.mk (fun h=>?_) (fun h=>?_)
     ·have h4:CV d.x.length (CV d.m.length (A_ DC d.b (Dx d.d (Be d.c0 (l)))))<0:=by simpa using h
      simp only[go_sem]
      simp[sq,h0,h1,h2,h3,h4]
     ·have h4:¬ CV d.x.length (CV d.m.length (A_ DC d.b (Dx d.d (Be d.c0 (l)))))<0:=by simpa using h
      simp only[go_sem]
      refine CallK.mk _ (by simpa only[go_sem] using JJ d.p _ (by omega)) fun _=>?_
      simp only[go_sem]
      refine cndC.mk (fun h=>?_) (fun h=>?_)
      ·have h5:CV d.p.length (CV d.x.length (CV d.m.length (A_ DC d.b (Dx d.d (Be d.c0 (l))))))<0:=by simpa using h
       simp only[go_sem]
       simp[sq,h0,h1,h2,h3,h4,h5]
      ·have h5:¬ CV d.p.length (CV d.x.length (CV d.m.length (A_ DC d.b (Dx d.d (Be d.c0 (l))))))<0:=by simpa using h
       simp only[go_sem]
       refine CallK.mk _ (by simpa only[go_sem] using WU d.tasks _ (by omega)) fun _=>?_
       simp only[go_sem]
       refine cndC.mk (fun h=>?_) (fun h=>?_)
       ·have h6:A_ DR d.tasks (CV d.p.length (CV d.x.length (CV d.m.length (A_ DC d.b (Dx d.d (Be d.c0 (l)))))))<0:=by simpa using h
        simp only[go_sem]
        simp[sq,h0,h1,h2,h3,h4,h5,h6]
       ·have h6:¬ A_ DR d.tasks (CV d.p.length (CV d.x.length (CV d.m.length (A_ DC d.b (Dx d.d (Be d.c0 (l)))))))<0:=by simpa using h
        simp only[go_sem]
        refine CallK.mk _ (by simpa only[go_sem] using WV d.deeds _ (by omega)) fun _=>?_
        simp only[go_sem]
        refine cndC.mk (fun h=>?_) (fun h=>?_)
        ·have h7:A_ Dn d.deeds (A_ DR d.tasks (CV d.p.length (CV d.x.length (CV d.m.length (A_ DC d.b (Dx d.d (Be d.c0 (l))))))))<0:=by simpa using h
         simp only[go_sem]
         simp[sq,h0,h1,h2,h3,h4,h5,h6,h7]
        ·have h7:¬ A_ Dn d.deeds (A_ DR d.tasks (CV d.p.length (CV d.x.length (CV d.m.length (A_ DC d.b (Dx d.d (Be d.c0 (l))))))))<0:=by simpa using h
         simp only[go_sem]
         simp[sq,h0,h1,h2,h3,h4,h5,h6,h7]
theorem Iq (xs:List Int) (hf:xs.length≤1048576):Ctr Tryz.prog 49 [.c (.sl (xs.map intC))] [.own 3 1 (xs.map intC) true]:=by
 refine Ctr.mk Tryz.call49 Tryz.func49 rfl mixed Tryz.ntmps49 Tryz.results49 (by kernel_rfl) rfl fun _=>?_
 have hc:(0:Int)≤xs.length∧(xs.length:Int)≤xs.length∧(xs.length:Int)≤2147483648:=by omega
 simp only[go_sem,List.length_map,hc,List.length_replicate]
 have hg:=fun k=>@D5 _ intC intC.pure [.v (.int .i64 0)] rfl xs k 3 1 true true
 refine LoopK.mk 1 [0,3,4] (A:=Nat) (fun k=>⟨22,[(0,.c (.sl (xs.map intC))),(3,.c (.ref 0)),(4,.c (.v (.int .i64 k)))],[⟨3,1,grow (xs.map intC) [.v (.int .i64 0)] k,true,true⟩]⟩) (fun k=>k≤xs.length) (fun k=>xs.length-k) 0 ⟨⟨rfl,by have:=hg 0; simp only[Ai,List.length_map] at this; exact this⟩,by simp only[Ai,List.length_map]; rfl,Nat.zero_le _⟩ ?_
 intro k hk
 simp only[go_sem,List.length_map]
 refine cndC.mk (fun h=>?_) (fun h=>?_)
 ·have hk':k<xs.length:=by simpa using h
  have hset:=@Ce _ intC xs [.v (.int .i64 0)] k hk'
  simp only[go_sem] at hset
  simp only[go_sem,AA _ hk',Ac hk,Az hk',hk',hset,wrap_i64 (n:=(k:Int)+1) (by omega) (by omega)]
  exact⟨k+1,⟨rfl,hg _⟩,rfl,by omega,by first | omega | (simp only; omega)⟩
 ·have hk':k=xs.length:=by simp at h; omega
  subst hk'
  rw[Cf]
  simp only[go_sem]
  simp[BZ (AL intC.pure)]
theorem Qy (xs:List Int) (hf:xs.length≤1048576):Ctr Tryz.prog 152 [.c (.sl (xs.map byteC))] [.own 5 1 (xs.map byteC) true]:=by
 refine Ctr.mk Tryz.call152 Tryz.func152 rfl mixed Tryz.ntmps152 Tryz.results152 (by kernel_rfl) rfl fun _=>?_
 have hc:(0:Int)≤xs.length∧(xs.length:Int)≤xs.length∧(xs.length:Int)≤2147483648:=by omega
 simp only[go_sem,List.length_map,hc,List.length_replicate]
 have hg:=fun k=>@D5 _ byteC byteC.pure [.v (.int .u8 0)] rfl xs k 5 1 true true
 refine LoopK.mk 1 [0,3,4] (A:=Nat) (fun k=>⟨22,[(0,.c (.sl (xs.map byteC))),(3,.c (.ref 0)),(4,.c (.v (.int .i64 k)))],[⟨5,1,grow (xs.map byteC) [.v (.int .u8 0)] k,true,true⟩]⟩) (fun k=>k≤xs.length) (fun k=>xs.length-k) 0 ⟨⟨rfl,by have:=hg 0; simp only[Ai,List.length_map] at this; exact this⟩,by simp only[Ai,List.length_map]; rfl,Nat.zero_le _⟩ ?_
 intro k hk
 simp only[go_sem,List.length_map]
 refine cndC.mk (fun h=>?_) (fun h=>?_)
 ·have hk':k<xs.length:=by simpa using h
  have hset:=@Ce _ byteC xs [.v (.int .u8 0)] k hk'
  simp only[go_sem] at hset
  simp only[go_sem,AA _ hk',Ac hk,Az hk',hk',hset,wrap_i64 (n:=(k:Int)+1) (by omega) (by omega)]
  exact⟨k+1,⟨rfl,hg _⟩,rfl,by omega,by first | omega | (simp only; omega)⟩
 ·have hk':k=xs.length:=by simp at h; omega
  subst hk'
  rw[Cf]
  simp only[go_sem]
  simp[BZ (AL byteC.pure)]
theorem JL (xs:List Int) (hf:xs.length≤1048576):Ctr Tryz.prog 49 [.c (.sl (xs.map intC))] [.val (.c (.sl (xs.map intC)))]:=(Iq xs hf).val (AL intC.pure)
theorem WX (xs:List Int) (hf:xs.length≤1048576):Ctr Tryz.prog 152 [.c (.sl (xs.map byteC))] [.val (.c (.sl (xs.map byteC)))]:=(Qy xs hf).val (AL byteC.pure)
theorem Ep (d:DVal) (hf:F7 d):Ctr Tryz.prog 135 [.agg d.c] [.val (.agg d.c)]:=by
 rw[MO] at hf
 have f0:=hf
 refine Ctr.mk Tryz.call135 Tryz.func135 rfl mixed Tryz.ntmps135 Tryz.results135 (by kernel_rfl) rfl fun _=>?_
 simp only[go_sem]
theorem Ir (xs:List DVal) (hf:xs.length≤1048576) (hx:∀ x∈xs,Ctr Tryz.prog 135 [.agg x.c] [.val (.agg x.c)]):Ctr Tryz.prog 153 [.c (.sl (xs.map DVal.c))] [.own 72 3 (xs.map DVal.c) true]:=by
 refine Ctr.mk Tryz.call153 Tryz.func153 rfl mixed Tryz.ntmps153 Tryz.results153 (by kernel_rfl) rfl fun _=>?_
 have hc:(0:Int)≤xs.length∧(xs.length:Int)≤xs.length∧(xs.length:Int)≤2147483648:=by omega
 simp only[go_sem,List.length_map,hc,List.length_replicate]
 have hg:=fun k=>@D5 _ DVal.c DVal.pure [.v (.int .i64 0),.v (.int .i64 0),.v (.string ByteArray.empty)] rfl xs k 72 3 true true
 refine LoopK.mk 1 [0,3,4] (A:=Nat) (fun k=>⟨23,[(0,.c (.sl (xs.map DVal.c))),(3,.c (.ref 0)),(4,.c (.v (.int .i64 k)))],[⟨72,3,grow (xs.map DVal.c) [.v (.int .i64 0),.v (.int .i64 0),.v (.string ByteArray.empty)] k,true,true⟩]⟩) (fun k=>k≤xs.length) (fun k=>xs.length-k) 0 ⟨⟨rfl,by have:=hg 0; simp only[Ai,List.length_map] at this; exact this⟩,by simp only[Ai,List.length_map]; rfl,Nat.zero_le _⟩ ?_
 intro k hk
 simp only[go_sem,List.length_map]
 refine cndC.mk (fun h=>?_) (fun h=>?_)
 ·have hk':k<xs.length:=by simpa using h
  have hset:=@Ce _ DVal.c xs [.v (.int .i64 0),.v (.int .i64 0),.v (.string ByteArray.empty)] k hk'
  simp only[go_sem] at hset
  simp only[go_sem,AA _ hk',Ac hk,Az hk',hk',hset,wrap_i64 (n:=(k:Int)+1) (by omega) (by omega)]
  refine CallK.mk _ (by simpa only[go_sem] using hx xs[k] (List.getElem_mem hk')) fun _=>?_
  simp only[go_sem,AA _ hk',Ac hk,Az hk',hk',hset,wrap_i64 (n:=(k:Int)+1) (by omega) (by omega)]
  exact⟨k+1,⟨rfl,hg _⟩,rfl,by omega,by first | omega | (simp only; omega)⟩
 ·have hk':k=xs.length:=by simp at h; omega
  subst hk'
  rw[Cf]
  simp only[go_sem]
  simp[BZ (AL DVal.pure)]
theorem JM (xs:List DVal) (hf:fitS F7 xs):Ctr Tryz.prog 153 [.c (.sl (xs.map DVal.c))] [.val (.c (.sl (xs.map DVal.c)))]:=(Ir xs hf.1 fun x hx=>Ep x (hf.2 x hx)).val (AL DVal.pure)
theorem aZ (d:DRow) (hf:BI d):Ctr Tryz.prog 185 [.agg d.c] [.val (.agg d.c)]:=by
 rw[Bf] at hf
 have f0:=hf
 refine Ctr.mk Tryz.call185 Tryz.func185 rfl mixed Tryz.ntmps185 Tryz.results185 (by kernel_rfl) rfl fun _=>?_
 simp only[go_sem]
 refine CallK.mk _ (by simpa only[go_sem] using JM d.l f0) fun _=>?_
 simp only[go_sem]
theorem ae (xs:List DRow) (hf:xs.length≤1048576) (hx:∀ x∈xs,Ctr Tryz.prog 185 [.agg x.c] [.val (.agg x.c)]):Ctr Tryz.prog 154 [.c (.sl (xs.map DRow.c))] [.own 121 2 (xs.map DRow.c) true]:=by
 refine Ctr.mk Tryz.call154 Tryz.func154 rfl mixed Tryz.ntmps154 Tryz.results154 (by kernel_rfl) rfl fun _=>?_
 have hc:(0:Int)≤xs.length∧(xs.length:Int)≤xs.length∧(xs.length:Int)≤2147483648:=by omega
 simp only[go_sem,List.length_map,hc,List.length_replicate]
 have hg:=fun k=>@D5 _ DRow.c DRow.pure [.v (.int .i64 0),.v (.slice none 0 0)] rfl xs k 121 2 true true
 refine LoopK.mk 1 [0,3,4] (A:=Nat) (fun k=>⟨23,[(0,.c (.sl (xs.map DRow.c))),(3,.c (.ref 0)),(4,.c (.v (.int .i64 k)))],[⟨121,2,grow (xs.map DRow.c) [.v (.int .i64 0),.v (.slice none 0 0)] k,true,true⟩]⟩) (fun k=>k≤xs.length) (fun k=>xs.length-k) 0 ⟨⟨rfl,by have:=hg 0; simp only[Ai,List.length_map] at this; exact this⟩,by simp only[Ai,List.length_map]; rfl,Nat.zero_le _⟩ ?_
 intro k hk
 simp only[go_sem,List.length_map]
 refine cndC.mk (fun h=>?_) (fun h=>?_)
 ·have hk':k<xs.length:=by simpa using h
  have hset:=@Ce _ DRow.c xs [.v (.int .i64 0),.v (.slice none 0 0)] k hk'
  simp only[go_sem] at hset
  simp only[go_sem,AA _ hk',Ac hk,Az hk',hk',hset,wrap_i64 (n:=(k:Int)+1) (by omega) (by omega)]
  refine CallK.mk _ (by simpa only[go_sem] using hx xs[k] (List.getElem_mem hk')) fun _=>?_
  simp only[go_sem,AA _ hk',Ac hk,Az hk',hk',hset,wrap_i64 (n:=(k:Int)+1) (by omega) (by omega)]
  exact⟨k+1,⟨rfl,hg _⟩,rfl,by omega,by first | omega | (simp only; omega)⟩
 ·have hk':k=xs.length:=by simp at h; omega
  subst hk'
  rw[Cf]
  simp only[go_sem]
  simp[BZ (AL DRow.pure)]
theorem Qz (xs:List DRow) (hf:fitS BI xs):Ctr Tryz.prog 154 [.c (.sl (xs.map DRow.c))] [.val (.c (.sl (xs.map DRow.c)))]:=(ae xs hf.1 fun x hx=>aZ x (hf.2 x hx)).val (AL DRow.pure)
theorem Yb (xs:List DPred) (hf:xs.length≤1048576) (hx:∀ x∈xs,Ctr Tryz.prog 89 [.agg x.c] [.val (.agg x.c)]):Ctr Tryz.prog 136 [.c (.sl (xs.map DPred.c))] [.own 78 7 (xs.map DPred.c) true]:=by
 refine Ctr.mk Tryz.call136 Tryz.func136 rfl mixed Tryz.ntmps136 Tryz.results136 (by kernel_rfl) rfl fun _=>?_
 have hc:(0:Int)≤xs.length∧(xs.length:Int)≤xs.length∧(xs.length:Int)≤2147483648:=by omega
 simp only[go_sem,List.length_map,hc,List.length_replicate]
 have hg:=fun k=>@D5 _ DPred.c DPred.pure [.v (.int .i64 0),.v (.int .i64 0),.v (.int .i64 0),.v (.int .i64 0),.v (.int .i64 0),.v (.string ByteArray.empty),.v (.slice none 0 0)] rfl xs k 78 7 true true
 refine LoopK.mk 1 [0,3,4] (A:=Nat) (fun k=>⟨23,[(0,.c (.sl (xs.map DPred.c))),(3,.c (.ref 0)),(4,.c (.v (.int .i64 k)))],[⟨78,7,grow (xs.map DPred.c) [.v (.int .i64 0),.v (.int .i64 0),.v (.int .i64 0),.v (.int .i64 0),.v (.int .i64 0),.v (.string ByteArray.empty),.v (.slice none 0 0)] k,true,true⟩]⟩) (fun k=>k≤xs.length) (fun k=>xs.length-k) 0 ⟨⟨rfl,by have:=hg 0; simp only[Ai,List.length_map] at this; exact this⟩,by simp only[Ai,List.length_map]; rfl,Nat.zero_le _⟩ ?_
 intro k hk
 simp only[go_sem,List.length_map]
 refine cndC.mk (fun h=>?_) (fun h=>?_)
 ·have hk':k<xs.length:=by simpa using h
  have hset:=@Ce _ DPred.c xs [.v (.int .i64 0),.v (.int .i64 0),.v (.int .i64 0),.v (.int .i64 0),.v (.int .i64 0),.v (.string ByteArray.empty),.v (.slice none 0 0)] k hk'
  simp only[go_sem] at hset
  simp only[go_sem,AA _ hk',Ac hk,Az hk',hk',hset,wrap_i64 (n:=(k:Int)+1) (by omega) (by omega)]
  refine CallK.mk _ (by simpa only[go_sem] using hx xs[k] (List.getElem_mem hk')) fun _=>?_
  simp only[go_sem,AA _ hk',Ac hk,Az hk',hk',hset,wrap_i64 (n:=(k:Int)+1) (by omega) (by omega)]
  exact⟨k+1,⟨rfl,hg _⟩,rfl,by omega,by first | omega | (simp only; omega)⟩
 ·have hk':k=xs.length:=by simp at h; omega
  subst hk'
  rw[Cf]
  simp only[go_sem]
  simp[BZ (AL DPred.pure)]
theorem iU (d:DPred) (hf:DD d) (hx:∀ x∈d.l,Ctr Tryz.prog 89 [.agg x.c] [.val (.agg x.c)]):Ctr Tryz.prog 89 [.agg d.c] [.val (.agg d.c)]:=by
 rw[Eo] at hf
 obtain⟨f0,f1⟩:=hf
 refine Ctr.mk Tryz.call89 Tryz.func89 rfl mixed Tryz.ntmps89 Tryz.results89 (by kernel_rfl) rfl fun _=>?_
 simp only[go_sem]
 refine CallK.mk _ (by simpa only[go_sem] using Ep d.v f0) fun _=>?_
 simp only[go_sem]
 refine CallK.mk _ (by simpa only[go_sem] using(Yb d.l f1.1 hx).val (AL DPred.pure)) fun _=>?_
 simp only[go_sem]
theorem Q3:∀ (n:Nat) (d:DPred),SizeOf.sizeOf d≤n→DD d→Ctr Tryz.prog 89 [.agg d.c] [.val (.agg d.c)]
 | 0,d,h,_=>by cases d; simp at h
 | n+1,d,h,hf=>iU d hf fun x hx=>Q3 n x (by
  have h1:SizeOf.sizeOf x<SizeOf.sizeOf d.l:=List.sizeOf_lt_of_mem hx
  have h2:SizeOf.sizeOf d.l<SizeOf.sizeOf d:=by cases d; simp[DPred.l]; omega
  omega) (by rw[Eo] at hf; exact(hf.2).2 x hx)
theorem Yc (d:DPred) (hf:DD d):Ctr Tryz.prog 89 [.agg d.c] [.val (.agg d.c)]:=Q3 _ d (Nat.le_refl _) hf
theorem EG (d:DQuery) (hf:Dy d):Ctr Tryz.prog 29 [.agg d.c] [.val (.agg d.c)]:=by
 rw[Ej] at hf
 obtain⟨f0,f1⟩:=hf
 refine Ctr.mk Tryz.call29 Tryz.func29 rfl mixed Tryz.ntmps29 Tryz.results29 (by kernel_rfl) rfl fun _=>?_
 simp only[go_sem]
 refine CallK.mk _ (by simpa only[go_sem] using Yc d.p f0) fun _=>?_
 simp only[go_sem]
 refine CallK.mk _ (by simpa only[go_sem] using JL d.out f1) fun _=>?_
 simp only[go_sem]
theorem U3 (d:DResult) (hf:Ih d):Ctr Tryz.prog 155 [.agg d.c] [.val (.agg d.c)]:=by
 rw[J9] at hf
 obtain⟨f0,f1⟩:=hf
 refine Ctr.mk Tryz.call155 Tryz.func155 rfl mixed Tryz.ntmps155 Tryz.results155 (by kernel_rfl) rfl fun _=>?_
 simp only[go_sem]
 refine CallK.mk _ (by simpa only[go_sem] using Qz d.rows f0) fun _=>?_
 simp only[go_sem]
 refine CallK.mk _ (by simpa only[go_sem] using Ep d.v f1) fun _=>?_
 simp only[go_sem]
theorem Yd (d:DSlot) (hf:JG d):Ctr Tryz.prog 215 [.agg d.c] [.val (.agg d.c)]:=by
 rw[Ip] at hf
 have f0:=hf
 refine Ctr.mk Tryz.call215 Tryz.func215 rfl mixed Tryz.ntmps215 Tryz.results215 (by kernel_rfl) rfl fun _=>?_
 simp only[go_sem]
 refine CallK.mk _ (by simpa only[go_sem] using JM d.l f0) fun _=>?_
 simp only[go_sem]
theorem Ye (xs:List DSlot) (hf:xs.length≤1048576) (hx:∀ x∈xs,Ctr Tryz.prog 215 [.agg x.c] [.val (.agg x.c)]):Ctr Tryz.prog 184 [.c (.sl (xs.map DSlot.c))] [.own 162 2 (xs.map DSlot.c) true]:=by
 refine Ctr.mk Tryz.call184 Tryz.func184 rfl mixed Tryz.ntmps184 Tryz.results184 (by kernel_rfl) rfl fun _=>?_
 have hc:(0:Int)≤xs.length∧(xs.length:Int)≤xs.length∧(xs.length:Int)≤2147483648:=by omega
 simp only[go_sem,List.length_map,hc,List.length_replicate]
 have hg:=fun k=>@D5 _ DSlot.c DSlot.pure [.v (.int .i64 0),.v (.slice none 0 0)] rfl xs k 162 2 true true
 refine LoopK.mk 1 [0,3,4] (A:=Nat) (fun k=>⟨23,[(0,.c (.sl (xs.map DSlot.c))),(3,.c (.ref 0)),(4,.c (.v (.int .i64 k)))],[⟨162,2,grow (xs.map DSlot.c) [.v (.int .i64 0),.v (.slice none 0 0)] k,true,true⟩]⟩) (fun k=>k≤xs.length) (fun k=>xs.length-k) 0 ⟨⟨rfl,by have:=hg 0; simp only[Ai,List.length_map] at this; exact this⟩,by simp only[Ai,List.length_map]; rfl,Nat.zero_le _⟩ ?_
 intro k hk
 simp only[go_sem,List.length_map]
 refine cndC.mk (fun h=>?_) (fun h=>?_)
 ·have hk':k<xs.length:=by simpa using h
  have hset:=@Ce _ DSlot.c xs [.v (.int .i64 0),.v (.slice none 0 0)] k hk'
  simp only[go_sem] at hset
  simp only[go_sem,AA _ hk',Ac hk,Az hk',hk',hset,wrap_i64 (n:=(k:Int)+1) (by omega) (by omega)]
  refine CallK.mk _ (by simpa only[go_sem] using hx xs[k] (List.getElem_mem hk')) fun _=>?_
  simp only[go_sem,AA _ hk',Ac hk,Az hk',hk',hset,wrap_i64 (n:=(k:Int)+1) (by omega) (by omega)]
  exact⟨k+1,⟨rfl,hg _⟩,rfl,by omega,by first | omega | (simp only; omega)⟩
 ·have hk':k=xs.length:=by simp at h; omega
  subst hk'
  rw[Cf]
  simp only[go_sem]
  simp[BZ (AL DSlot.pure)]
theorem WY (xs:List DSlot) (hf:fitS JG xs):Ctr Tryz.prog 184 [.c (.sl (xs.map DSlot.c))] [.val (.c (.sl (xs.map DSlot.c)))]:=(Ye xs hf.1 fun x hx=>Yd x (hf.2 x hx)).val (AL DSlot.pure)
theorem WZ (d:DChunk) (hf:Ez d):Ctr Tryz.prog 151 [.agg d.c] [.val (.agg d.c)]:=by
 rw[EF] at hf
 have f0:=hf
 refine Ctr.mk Tryz.call151 Tryz.func151 rfl mixed Tryz.ntmps151 Tryz.results151 (by kernel_rfl) rfl fun _=>?_
 simp only[go_sem]
 refine CallK.mk _ (by simpa only[go_sem] using WY d.l f0) fun _=>?_
 simp only[go_sem]
theorem ag (d:DBuf) (hf:LU d):Ctr Tryz.prog 102 [.agg d.c] [.val (.agg d.c)]:=by
 rw[MP] at hf
 obtain⟨f0,f1⟩:=hf
 refine Ctr.mk Tryz.call102 Tryz.func102 rfl mixed Tryz.ntmps102 Tryz.results102 (by kernel_rfl) rfl fun _=>?_
 simp only[go_sem]
 refine CallK.mk _ (by simpa only[go_sem] using WZ d.c0 f0) fun _=>?_
 simp only[go_sem]
 refine CallK.mk _ (by simpa only[go_sem] using WX d.g f1) fun _=>?_
 simp only[go_sem]
theorem ah (xs:List DBuf) (hf:xs.length≤1048576) (hx:∀ x∈xs,Ctr Tryz.prog 102 [.agg x.c] [.val (.agg x.c)]):Ctr Tryz.prog 48 [.c (.sl (xs.map DBuf.c))] [.own 101 5 (xs.map DBuf.c) true]:=by
 refine Ctr.mk Tryz.call48 Tryz.func48 rfl mixed Tryz.ntmps48 Tryz.results48 (by kernel_rfl) rfl fun _=>?_
 have hc:(0:Int)≤xs.length∧(xs.length:Int)≤xs.length∧(xs.length:Int)≤2147483648:=by omega
 simp only[go_sem,List.length_map,hc,List.length_replicate]
 have hg:=fun k=>@D5 _ DBuf.c DBuf.pure [.v (.int .i64 0),.v (.int .i64 0),.v (.int .i64 0),.v (.slice none 0 0),.v (.slice none 0 0)] rfl xs k 101 5 true true
 refine LoopK.mk 1 [0,3,4] (A:=Nat) (fun k=>⟨23,[(0,.c (.sl (xs.map DBuf.c))),(3,.c (.ref 0)),(4,.c (.v (.int .i64 k)))],[⟨101,5,grow (xs.map DBuf.c) [.v (.int .i64 0),.v (.int .i64 0),.v (.int .i64 0),.v (.slice none 0 0),.v (.slice none 0 0)] k,true,true⟩]⟩) (fun k=>k≤xs.length) (fun k=>xs.length-k) 0 ⟨⟨rfl,by have:=hg 0; simp only[Ai,List.length_map] at this; exact this⟩,by simp only[Ai,List.length_map]; rfl,Nat.zero_le _⟩ ?_
 intro k hk
 simp only[go_sem,List.length_map]
 refine cndC.mk (fun h=>?_) (fun h=>?_)
 ·have hk':k<xs.length:=by simpa using h
  have hset:=@Ce _ DBuf.c xs [.v (.int .i64 0),.v (.int .i64 0),.v (.int .i64 0),.v (.slice none 0 0),.v (.slice none 0 0)] k hk'
  simp only[go_sem] at hset
  simp only[go_sem,AA _ hk',Ac hk,Az hk',hk',hset,wrap_i64 (n:=(k:Int)+1) (by omega) (by omega)]
  refine CallK.mk _ (by simpa only[go_sem] using hx xs[k] (List.getElem_mem hk')) fun _=>?_
  simp only[go_sem,AA _ hk',Ac hk,Az hk',hk',hset,wrap_i64 (n:=(k:Int)+1) (by omega) (by omega)]
  exact⟨k+1,⟨rfl,hg _⟩,rfl,by omega,by first | omega | (simp only; omega)⟩
 ·have hk':k=xs.length:=by simp at h; omega
  subst hk'
  rw[Cf]
  simp only[go_sem]
  simp[BZ (AL DBuf.pure)]
theorem Yf (xs:List DBuf) (hf:fitS LU xs):Ctr Tryz.prog 48 [.c (.sl (xs.map DBuf.c))] [.val (.c (.sl (xs.map DBuf.c)))]:=(ah xs hf.1 fun x hx=>ag x (hf.2 x hx)).val (AL DBuf.pure)
theorem Q4 (d:DDead):Ctr Tryz.prog 103 [.agg d.c] [.val (.agg d.c)]:=by
 refine Ctr.mk Tryz.call103 Tryz.func103 rfl mixed Tryz.ntmps103 Tryz.results103 (by kernel_rfl) rfl fun _=>?_
 simp only[go_sem]
theorem Q5 (xs:List DDead) (hf:xs.length≤1048576) (hx:∀ x∈xs,Ctr Tryz.prog 103 [.agg x.c] [.val (.agg x.c)]):Ctr Tryz.prog 50 [.c (.sl (xs.map DDead.c))] [.own 168 3 (xs.map DDead.c) true]:=by
 refine Ctr.mk Tryz.call50 Tryz.func50 rfl mixed Tryz.ntmps50 Tryz.results50 (by kernel_rfl) rfl fun _=>?_
 have hc:(0:Int)≤xs.length∧(xs.length:Int)≤xs.length∧(xs.length:Int)≤2147483648:=by omega
 simp only[go_sem,List.length_map,hc,List.length_replicate]
 have hg:=fun k=>@D5 _ DDead.c DDead.pure [.v (.int .i64 0),.v (.int .i64 0),.v (.int .i64 0)] rfl xs k 168 3 true true
 refine LoopK.mk 1 [0,3,4] (A:=Nat) (fun k=>⟨23,[(0,.c (.sl (xs.map DDead.c))),(3,.c (.ref 0)),(4,.c (.v (.int .i64 k)))],[⟨168,3,grow (xs.map DDead.c) [.v (.int .i64 0),.v (.int .i64 0),.v (.int .i64 0)] k,true,true⟩]⟩) (fun k=>k≤xs.length) (fun k=>xs.length-k) 0 ⟨⟨rfl,by have:=hg 0; simp only[Ai,List.length_map] at this; exact this⟩,by simp only[Ai,List.length_map]; rfl,Nat.zero_le _⟩ ?_
 intro k hk
 simp only[go_sem,List.length_map]
 refine cndC.mk (fun h=>?_) (fun h=>?_)
 ·have hk':k<xs.length:=by simpa using h
  have hset:=@Ce _ DDead.c xs [.v (.int .i64 0),.v (.int .i64 0),.v (.int .i64 0)] k hk'
  simp only[go_sem] at hset
  simp only[go_sem,AA _ hk',Ac hk,Az hk',hk',hset,wrap_i64 (n:=(k:Int)+1) (by omega) (by omega)]
  refine CallK.mk _ (by simpa only[go_sem] using hx xs[k] (List.getElem_mem hk')) fun _=>?_
  simp only[go_sem,AA _ hk',Ac hk,Az hk',hk',hset,wrap_i64 (n:=(k:Int)+1) (by omega) (by omega)]
  exact⟨k+1,⟨rfl,hg _⟩,rfl,by omega,by first | omega | (simp only; omega)⟩
 ·have hk':k=xs.length:=by simp at h; omega
  subst hk'
  rw[Cf]
  simp only[go_sem]
  simp[BZ (AL DDead.pure)]
theorem We (xs:List DDead) (hf:xs.length≤1048576):Ctr Tryz.prog 50 [.c (.sl (xs.map DDead.c))] [.val (.c (.sl (xs.map DDead.c)))]:=(Q5 xs hf fun x _=>Q4 x).val (AL DDead.pure)
theorem OB (d:DRef):Ctr Tryz.prog 19 [.agg d.c] [.val (.agg d.c)]:=by
 refine Ctr.mk Tryz.call19 Tryz.func19 rfl mixed Tryz.ntmps19 Tryz.results19 (by kernel_rfl) rfl fun _=>?_
 simp only[go_sem]
theorem OC (xs:List DRef) (hf:xs.length≤1048576) (hx:∀ x∈xs,Ctr Tryz.prog 19 [.agg x.c] [.val (.agg x.c)]):Ctr Tryz.prog 101 [.c (.sl (xs.map DRef.c))] [.own 56 5 (xs.map DRef.c) true]:=by
 refine Ctr.mk Tryz.call101 Tryz.func101 rfl mixed Tryz.ntmps101 Tryz.results101 (by kernel_rfl) rfl fun _=>?_
 have hc:(0:Int)≤xs.length∧(xs.length:Int)≤xs.length∧(xs.length:Int)≤2147483648:=by omega
 simp only[go_sem,List.length_map,hc,List.length_replicate]
 have hg:=fun k=>@D5 _ DRef.c DRef.pure [.v (.int .i64 0),.v (.int .i64 0),.v (.int .i64 0),.v (.int .i64 0),.v (.int .i64 0)] rfl xs k 56 5 true true
 refine LoopK.mk 1 [0,3,4] (A:=Nat) (fun k=>⟨23,[(0,.c (.sl (xs.map DRef.c))),(3,.c (.ref 0)),(4,.c (.v (.int .i64 k)))],[⟨56,5,grow (xs.map DRef.c) [.v (.int .i64 0),.v (.int .i64 0),.v (.int .i64 0),.v (.int .i64 0),.v (.int .i64 0)] k,true,true⟩]⟩) (fun k=>k≤xs.length) (fun k=>xs.length-k) 0 ⟨⟨rfl,by have:=hg 0; simp only[Ai,List.length_map] at this; exact this⟩,by simp only[Ai,List.length_map]; rfl,Nat.zero_le _⟩ ?_
 intro k hk
 simp only[go_sem,List.length_map]
 refine cndC.mk (fun h=>?_) (fun h=>?_)
 ·have hk':k<xs.length:=by simpa using h
  have hset:=@Ce _ DRef.c xs [.v (.int .i64 0),.v (.int .i64 0),.v (.int .i64 0),.v (.int .i64 0),.v (.int .i64 0)] k hk'
  simp only[go_sem] at hset
  simp only[go_sem,AA _ hk',Ac hk,Az hk',hk',hset,wrap_i64 (n:=(k:Int)+1) (by omega) (by omega)]
  refine CallK.mk _ (by simpa only[go_sem] using hx xs[k] (List.getElem_mem hk')) fun _=>?_
  simp only[go_sem,AA _ hk',Ac hk,Az hk',hk',hset,wrap_i64 (n:=(k:Int)+1) (by omega) (by omega)]
  exact⟨k+1,⟨rfl,hg _⟩,rfl,by omega,by first | omega | (simp only; omega)⟩
 ·have hk':k=xs.length:=by simp at h; omega
  subst hk'
  rw[Cf]
  simp only[go_sem]
  simp[BZ (AL DRef.pure)]
theorem Q7 (xs:List DRef) (hf:xs.length≤1048576):Ctr Tryz.prog 101 [.c (.sl (xs.map DRef.c))] [.val (.c (.sl (xs.map DRef.c)))]:=(OC xs hf fun x _=>OB x).val (AL DRef.pure)
theorem ai (d:DDir) (hf:QH d):Ctr Tryz.prog 47 [.agg d.c] [.val (.agg d.c)]:=by
 rw[MQ] at hf
 have f0:=hf
 refine Ctr.mk Tryz.call47 Tryz.func47 rfl mixed Tryz.ntmps47 Tryz.results47 (by kernel_rfl) rfl fun _=>?_
 simp only[go_sem]
 refine CallK.mk _ (by simpa only[go_sem] using Q7 d.l f0) fun _=>?_
 simp only[go_sem]
theorem Yg (d:DTask) (hf:JH d):Ctr Tryz.prog 104 [.agg d.c] [.val (.agg d.c)]:=by
 rw[Nz] at hf
 obtain⟨f0,f1,f2,f3⟩:=hf
 refine Ctr.mk Tryz.call104 Tryz.func104 rfl mixed Tryz.ntmps104 Tryz.results104 (by kernel_rfl) rfl fun _=>?_
 simp only[go_sem]
 refine CallK.mk _ (by simpa only[go_sem] using JM d.r f0) fun _=>?_
 simp only[go_sem]
 refine CallK.mk _ (by simpa only[go_sem] using EG d.q f1) fun _=>?_
 simp only[go_sem]
 refine CallK.mk _ (by simpa only[go_sem] using Q7 d.l f2) fun _=>?_
 simp only[go_sem]
 refine CallK.mk _ (by simpa only[go_sem] using Qz d.got f3) fun _=>?_
 simp only[go_sem]
theorem Yh (xs:List DTask) (hf:xs.length≤1048576) (hx:∀ x∈xs,Ctr Tryz.prog 104 [.agg x.c] [.val (.agg x.c)]):Ctr Tryz.prog 51 [.c (.sl (xs.map DTask.c))] [.own 172 25 (xs.map DTask.c) true]:=by
 refine Ctr.mk Tryz.call51 Tryz.func51 rfl mixed Tryz.ntmps51 Tryz.results51 (by kernel_rfl) rfl fun _=>?_
 have hc:(0:Int)≤xs.length∧(xs.length:Int)≤xs.length∧(xs.length:Int)≤2147483648:=by omega
 simp only[go_sem,List.length_map,hc,List.length_replicate]
 have hg:=fun k=>@D5 _ DTask.c DTask.pure [.v (.int .i64 0),.v (.int .i64 0),.v (.int .i64 0),.v (.slice none 0 0),.v (.int .i64 0),.v (.int .i64 0),.v (.int .i64 0),.v (.int .i64 0),.v (.int .i64 0),.v (.int .i64 0),.v (.int .i64 0),.v (.string ByteArray.empty),.v (.slice none 0 0),.v (.int .i64 0),.v (.slice none 0 0),.v (.int .i64 0),.v (.int .i64 0),.v (.slice none 0 0),.v (.int .i64 0),.v (.int .i64 0),.v (.int .i64 0),.v (.int .i64 0),.v (.int .i64 0),.v (.bool false),.v (.slice none 0 0)] rfl xs k 172 25 true true
 refine LoopK.mk 1 [0,3,4] (A:=Nat) (fun k=>⟨23,[(0,.c (.sl (xs.map DTask.c))),(3,.c (.ref 0)),(4,.c (.v (.int .i64 k)))],[⟨172,25,grow (xs.map DTask.c) [.v (.int .i64 0),.v (.int .i64 0),.v (.int .i64 0),.v (.slice none 0 0),.v (.int .i64 0),.v (.int .i64 0),.v (.int .i64 0),.v (.int .i64 0),.v (.int .i64 0),.v (.int .i64 0),.v (.int .i64 0),.v (.string ByteArray.empty),.v (.slice none 0 0),.v (.int .i64 0),.v (.slice none 0 0),.v (.int .i64 0),.v (.int .i64 0),.v (.slice none 0 0),.v (.int .i64 0),.v (.int .i64 0),.v (.int .i64 0),.v (.int .i64 0),.v (.int .i64 0),.v (.bool false),.v (.slice none 0 0)] k,true,true⟩]⟩) (fun k=>k≤xs.length) (fun k=>xs.length-k) 0 ⟨⟨rfl,by have:=hg 0; simp only[Ai,List.length_map] at this; exact this⟩,by simp only[Ai,List.length_map]; rfl,Nat.zero_le _⟩ ?_
 intro k hk
 simp only[go_sem,List.length_map]
 refine cndC.mk (fun h=>?_) (fun h=>?_)
 ·have hk':k<xs.length:=by simpa using h
  have hset:=@Ce _ DTask.c xs [.v (.int .i64 0),.v (.int .i64 0),.v (.int .i64 0),.v (.slice none 0 0),.v (.int .i64 0),.v (.int .i64 0),.v (.int .i64 0),.v (.int .i64 0),.v (.int .i64 0),.v (.int .i64 0),.v (.int .i64 0),.v (.string ByteArray.empty),.v (.slice none 0 0),.v (.int .i64 0),.v (.slice none 0 0),.v (.int .i64 0),.v (.int .i64 0),.v (.slice none 0 0),.v (.int .i64 0),.v (.int .i64 0),.v (.int .i64 0),.v (.int .i64 0),.v (.int .i64 0),.v (.bool false),.v (.slice none 0 0)] k hk'
  simp only[go_sem] at hset
  simp only[go_sem,AA _ hk',Ac hk,Az hk',hk',hset,wrap_i64 (n:=(k:Int)+1) (by omega) (by omega)]
  refine CallK.mk _ (by simpa only[go_sem] using hx xs[k] (List.getElem_mem hk')) fun _=>?_
  simp only[go_sem,AA _ hk',Ac hk,Az hk',hk',hset,wrap_i64 (n:=(k:Int)+1) (by omega) (by omega)]
  exact⟨k+1,⟨rfl,hg _⟩,rfl,by omega,by first | omega | (simp only; omega)⟩
 ·have hk':k=xs.length:=by simp at h; omega
  subst hk'
  rw[Cf]
  simp only[go_sem]
  simp[BZ (AL DTask.pure)]
theorem Wh (xs:List DTask) (hf:fitS JH xs):Ctr Tryz.prog 51 [.c (.sl (xs.map DTask.c))] [.val (.c (.sl (xs.map DTask.c)))]:=(Yh xs hf.1 fun x hx=>Yg x (hf.2 x hx)).val (AL DTask.pure)
theorem Yi (d:DDeed) (hf:JI d):Ctr Tryz.prog 105 [.agg d.c] [.val (.agg d.c)]:=by
 rw[N8] at hf
 obtain⟨f0,f1,f2⟩:=hf
 refine Ctr.mk Tryz.call105 Tryz.func105 rfl mixed Tryz.ntmps105 Tryz.results105 (by kernel_rfl) rfl fun _=>?_
 simp only[go_sem]
 refine CallK.mk _ (by simpa only[go_sem] using JM d.r f0) fun _=>?_
 simp only[go_sem]
 refine CallK.mk _ (by simpa only[go_sem] using EG d.q f1) fun _=>?_
 simp only[go_sem]
 refine CallK.mk _ (by simpa only[go_sem] using U3 d.res f2) fun _=>?_
 simp only[go_sem]
theorem Yj (xs:List DDeed) (hf:xs.length≤1048576) (hx:∀ x∈xs,Ctr Tryz.prog 105 [.agg x.c] [.val (.agg x.c)]):Ctr Tryz.prog 52 [.c (.sl (xs.map DDeed.c))] [.own 175 25 (xs.map DDeed.c) true]:=by
 refine Ctr.mk Tryz.call52 Tryz.func52 rfl mixed Tryz.ntmps52 Tryz.results52 (by kernel_rfl) rfl fun _=>?_
 have hc:(0:Int)≤xs.length∧(xs.length:Int)≤xs.length∧(xs.length:Int)≤2147483648:=by omega
 simp only[go_sem,List.length_map,hc,List.length_replicate]
 have hg:=fun k=>@D5 _ DDeed.c DDeed.pure [.v (.int .i64 0),.v (.int .i64 0),.v (.slice none 0 0),.v (.int .i64 0),.v (.int .i64 0),.v (.int .i64 0),.v (.int .i64 0),.v (.int .i64 0),.v (.int .i64 0),.v (.int .i64 0),.v (.string ByteArray.empty),.v (.slice none 0 0),.v (.int .i64 0),.v (.slice none 0 0),.v (.slice none 0 0),.v (.int .i64 0),.v (.bool false),.v (.int .i64 0),.v (.int .i64 0),.v (.string ByteArray.empty),.v (.int .i64 0),.v (.int .i64 0),.v (.int .i64 0),.v (.int .i64 0),.v (.int .i64 0)] rfl xs k 175 25 true true
 refine LoopK.mk 1 [0,3,4] (A:=Nat) (fun k=>⟨23,[(0,.c (.sl (xs.map DDeed.c))),(3,.c (.ref 0)),(4,.c (.v (.int .i64 k)))],[⟨175,25,grow (xs.map DDeed.c) [.v (.int .i64 0),.v (.int .i64 0),.v (.slice none 0 0),.v (.int .i64 0),.v (.int .i64 0),.v (.int .i64 0),.v (.int .i64 0),.v (.int .i64 0),.v (.int .i64 0),.v (.int .i64 0),.v (.string ByteArray.empty),.v (.slice none 0 0),.v (.int .i64 0),.v (.slice none 0 0),.v (.slice none 0 0),.v (.int .i64 0),.v (.bool false),.v (.int .i64 0),.v (.int .i64 0),.v (.string ByteArray.empty),.v (.int .i64 0),.v (.int .i64 0),.v (.int .i64 0),.v (.int .i64 0),.v (.int .i64 0)] k,true,true⟩]⟩) (fun k=>k≤xs.length) (fun k=>xs.length-k) 0 ⟨⟨rfl,by have:=hg 0; simp only[Ai,List.length_map] at this; exact this⟩,by simp only[Ai,List.length_map]; rfl,Nat.zero_le _⟩ ?_
 intro k hk
 simp only[go_sem,List.length_map]
 refine cndC.mk (fun h=>?_) (fun h=>?_)
 ·have hk':k<xs.length:=by simpa using h
  have hset:=@Ce _ DDeed.c xs [.v (.int .i64 0),.v (.int .i64 0),.v (.slice none 0 0),.v (.int .i64 0),.v (.int .i64 0),.v (.int .i64 0),.v (.int .i64 0),.v (.int .i64 0),.v (.int .i64 0),.v (.int .i64 0),.v (.string ByteArray.empty),.v (.slice none 0 0),.v (.int .i64 0),.v (.slice none 0 0),.v (.slice none 0 0),.v (.int .i64 0),.v (.bool false),.v (.int .i64 0),.v (.int .i64 0),.v (.string ByteArray.empty),.v (.int .i64 0),.v (.int .i64 0),.v (.int .i64 0),.v (.int .i64 0),.v (.int .i64 0)] k hk'
  simp only[go_sem] at hset
  simp only[go_sem,AA _ hk',Ac hk,Az hk',hk',hset,wrap_i64 (n:=(k:Int)+1) (by omega) (by omega)]
  refine CallK.mk _ (by simpa only[go_sem] using hx xs[k] (List.getElem_mem hk')) fun _=>?_
  simp only[go_sem,AA _ hk',Ac hk,Az hk',hk',hset,wrap_i64 (n:=(k:Int)+1) (by omega) (by omega)]
  exact⟨k+1,⟨rfl,hg _⟩,rfl,by omega,by first | omega | (simp only; omega)⟩
 ·have hk':k=xs.length:=by simp at h; omega
  subst hk'
  rw[Cf]
  simp only[go_sem]
  simp[BZ (AL DDeed.pure)]
theorem Wi (xs:List DDeed) (hf:fitS JI xs):Ctr Tryz.prog 52 [.c (.sl (xs.map DDeed.c))] [.val (.c (.sl (xs.map DDeed.c)))]:=(Yj xs hf.1 fun x hx=>Yi x (hf.2 x hx)).val (AL DDeed.pure)
theorem Yk (d:DConf) (hf:MR d):Ctr Tryz.prog 46 [.agg d.c] [.val (.agg d.c)]:=by
 rw[N_] at hf
 have f0:=hf
 refine Ctr.mk Tryz.call46 Tryz.func46 rfl mixed Tryz.ntmps46 Tryz.results46 (by kernel_rfl) rfl fun _=>?_
 simp only[go_sem]
 refine CallK.mk _ (by simpa only[go_sem] using JL d.cols f0) fun _=>?_
 simp only[go_sem]
theorem Fj (d:DWorld) (hf:Cb d):Ctr Tryz.prog 11 [.agg d.c] [.val (.agg d.c)]:=by
 rw[Gg] at hf
 obtain⟨f0,f1,f2,f3,f4,f5,f6,f7⟩:=hf
 refine Ctr.mk Tryz.call11 Tryz.func11 rfl mixed Tryz.ntmps11 Tryz.results11 (by kernel_rfl) rfl fun _=>?_
 simp only[go_sem]
 refine CallK.mk _ (by simpa only[go_sem] using Yk d.c0 f0) fun _=>?_
 simp only[go_sem]
 refine CallK.mk _ (by simpa only[go_sem] using ai d.d f1) fun _=>?_
 simp only[go_sem]
 refine CallK.mk _ (by simpa only[go_sem] using Yf d.b f2) fun _=>?_
 simp only[go_sem]
 refine CallK.mk _ (by simpa only[go_sem] using JL d.m f3) fun _=>?_
 simp only[go_sem]
 refine CallK.mk _ (by simpa only[go_sem] using We d.x f4) fun _=>?_
 simp only[go_sem]
 refine CallK.mk _ (by simpa only[go_sem] using JL d.p f5) fun _=>?_
 simp only[go_sem]
 refine CallK.mk _ (by simpa only[go_sem] using Wh d.tasks f6) fun _=>?_
 simp only[go_sem]
 refine CallK.mk _ (by simpa only[go_sem] using Wi d.deeds f7) fun _=>?_
 simp only[go_sem]
theorem JO (xs:List Int):Ctr Tryz.prog 60 [.c (.sl (xs.map intC)),.c (.sl (xs.map intC))] [.val (.c (.v (.bool true)))]:=by
 refine Ctr.mk Tryz.call60 Tryz.func60 rfl mixed Tryz.ntmps60 Tryz.results60 (by kernel_rfl) rfl fun hw=>?_
 have hlen:xs.length≤9223372036854775807:=by have:=hw.1.1; simpa [Go.maxLen] using this
 simp only[go_sem,List.length_map,bne_self_eq_false,beq_self_eq_true]
 refine LoopK.mk 0 [0,1,5] (A:=Nat) (fun k=>⟨26,[(0,.c (.sl (xs.map intC))),(1,.c (.sl (xs.map intC))),(5,.c (.v (.int .i64 k)))],[]⟩) (fun k=>k≤xs.length) (fun k=>xs.length-k) 0 ⟨⟨rfl,rfl⟩,rfl,Nat.zero_le _⟩ ?_
 intro k hk
 simp only[go_sem,List.length_map]
 refine cndC.mk (fun h=>?_) (fun h=>?_)
 ·have hk':k<xs.length:=by simpa using h
  simp only[go_sem]
  refine DrawK.mk ?_
  simp only[go_sem,List.length_map,bne_self_eq_false,beq_self_eq_true,AA _ hk',hk',wrap_i64 (n:=(k:Int)+1) (by omega) (by omega)]
  exact⟨k+1,⟨rfl,rfl⟩,rfl,by omega,by first | omega | (simp only; omega)⟩
 ·simp only[go_sem]
theorem Wj (xs:List Int):Ctr Tryz.prog 166 [.c (.sl (xs.map byteC)),.c (.sl (xs.map byteC))] [.val (.c (.v (.bool true)))]:=by
 refine Ctr.mk Tryz.call166 Tryz.func166 rfl mixed Tryz.ntmps166 Tryz.results166 (by kernel_rfl) rfl fun hw=>?_
 have hlen:xs.length≤9223372036854775807:=by have:=hw.1.1; simpa [Go.maxLen] using this
 simp only[go_sem,List.length_map,bne_self_eq_false,beq_self_eq_true]
 refine LoopK.mk 0 [0,1,5] (A:=Nat) (fun k=>⟨26,[(0,.c (.sl (xs.map byteC))),(1,.c (.sl (xs.map byteC))),(5,.c (.v (.int .i64 k)))],[]⟩) (fun k=>k≤xs.length) (fun k=>xs.length-k) 0 ⟨⟨rfl,rfl⟩,rfl,Nat.zero_le _⟩ ?_
 intro k hk
 simp only[go_sem,List.length_map]
 refine cndC.mk (fun h=>?_) (fun h=>?_)
 ·have hk':k<xs.length:=by simpa using h
  simp only[go_sem]
  refine DrawK.mk ?_
  simp only[go_sem,List.length_map,bne_self_eq_false,beq_self_eq_true,AA _ hk',hk',wrap_i64 (n:=(k:Int)+1) (by omega) (by omega)]
  exact⟨k+1,⟨rfl,rfl⟩,rfl,by omega,by first | omega | (simp only; omega)⟩
 ·simp only[go_sem]
theorem OD (d:DVal):Ctr Tryz.prog 91 [.agg d.c,.agg d.c] [.val (.c (.v (.bool true)))]:=by
 refine Ctr.mk Tryz.call91 Tryz.func91 rfl mixed Tryz.ntmps91 Tryz.results91 (by kernel_rfl) rfl fun _=>?_
 simp only[go_sem,bne_self_eq_false,beq_self_eq_true]
theorem iV (xs:List DVal) (hx:∀ x∈xs,Ctr Tryz.prog 91 [.agg x.c,.agg x.c] [.val (.c (.v (.bool true)))]):Ctr Tryz.prog 121 [.c (.sl (xs.map DVal.c)),.c (.sl (xs.map DVal.c))] [.val (.c (.v (.bool true)))]:=by
 refine Ctr.mk Tryz.call121 Tryz.func121 rfl mixed Tryz.ntmps121 Tryz.results121 (by kernel_rfl) rfl fun hw=>?_
 have hlen:xs.length≤9223372036854775807:=by have:=hw.1.1; simpa [Go.maxLen] using this
 simp only[go_sem,List.length_map,bne_self_eq_false,beq_self_eq_true]
 refine LoopK.mk 0 [0,1,5] (A:=Nat) (fun k=>⟨27,[(0,.c (.sl (xs.map DVal.c))),(1,.c (.sl (xs.map DVal.c))),(5,.c (.v (.int .i64 k)))],[]⟩) (fun k=>k≤xs.length) (fun k=>xs.length-k) 0 ⟨⟨rfl,rfl⟩,rfl,Nat.zero_le _⟩ ?_
 intro k hk
 simp only[go_sem,List.length_map]
 refine cndC.mk (fun h=>?_) (fun h=>?_)
 ·have hk':k<xs.length:=by simpa using h
  simp only[go_sem]
  refine DrawK.mk ?_
  simp only[go_sem,List.length_map,bne_self_eq_false,beq_self_eq_true,AA _ hk',hk',wrap_i64 (n:=(k:Int)+1) (by omega) (by omega)]
  refine CallF.mk _ (by simpa only[go_sem] using hx xs[k] (List.getElem_mem hk')) ?_
  simp only[go_sem,AA _ hk',wrap_i64 (n:=(k:Int)+1) (by omega) (by omega)]
  exact⟨k+1,⟨rfl,rfl⟩,rfl,by omega,by first | omega | (simp only; omega)⟩
 ·simp only[go_sem]
theorem JP (xs:List DVal):Ctr Tryz.prog 121 [.c (.sl (xs.map DVal.c)),.c (.sl (xs.map DVal.c))] [.val (.c (.v (.bool true)))]:=iV xs fun x _=>OD x
theorem aj (d:DRow):Ctr Tryz.prog 75 [.agg d.c,.agg d.c] [.val (.c (.v (.bool true)))]:=by
 refine Ctr.mk Tryz.call75 Tryz.func75 rfl mixed Tryz.ntmps75 Tryz.results75 (by kernel_rfl) rfl fun _=>?_
 simp only[go_sem,bne_self_eq_false,beq_self_eq_true]
 refine CallK.mk _ (by simpa only[go_sem] using JP d.l) fun _=>?_
 simp only[go_sem,bne_self_eq_false,beq_self_eq_true]
theorem iW (xs:List DRow) (hx:∀ x∈xs,Ctr Tryz.prog 75 [.agg x.c,.agg x.c] [.val (.c (.v (.bool true)))]):Ctr Tryz.prog 21 [.c (.sl (xs.map DRow.c)),.c (.sl (xs.map DRow.c))] [.val (.c (.v (.bool true)))]:=by
 refine Ctr.mk Tryz.call21 Tryz.func21 rfl mixed Tryz.ntmps21 Tryz.results21 (by kernel_rfl) rfl fun hw=>?_
 have hlen:xs.length≤9223372036854775807:=by have:=hw.1.1; simpa [Go.maxLen] using this
 simp only[go_sem,List.length_map,bne_self_eq_false,beq_self_eq_true]
 refine LoopK.mk 0 [0,1,5] (A:=Nat) (fun k=>⟨27,[(0,.c (.sl (xs.map DRow.c))),(1,.c (.sl (xs.map DRow.c))),(5,.c (.v (.int .i64 k)))],[]⟩) (fun k=>k≤xs.length) (fun k=>xs.length-k) 0 ⟨⟨rfl,rfl⟩,rfl,Nat.zero_le _⟩ ?_
 intro k hk
 simp only[go_sem,List.length_map]
 refine cndC.mk (fun h=>?_) (fun h=>?_)
 ·have hk':k<xs.length:=by simpa using h
  simp only[go_sem]
  refine DrawK.mk ?_
  simp only[go_sem,List.length_map,bne_self_eq_false,beq_self_eq_true,AA _ hk',hk',wrap_i64 (n:=(k:Int)+1) (by omega) (by omega)]
  refine CallF.mk _ (by simpa only[go_sem] using hx xs[k] (List.getElem_mem hk')) ?_
  simp only[go_sem,AA _ hk',wrap_i64 (n:=(k:Int)+1) (by omega) (by omega)]
  exact⟨k+1,⟨rfl,rfl⟩,rfl,by omega,by first | omega | (simp only; omega)⟩
 ·simp only[go_sem]
theorem Q8 (xs:List DRow):Ctr Tryz.prog 21 [.c (.sl (xs.map DRow.c)),.c (.sl (xs.map DRow.c))] [.val (.c (.v (.bool true)))]:=iW xs fun x _=>aj x
theorem ak (xs:List DPred) (hx:∀ x∈xs,Ctr Tryz.prog 92 [.agg x.c,.agg x.c] [.val (.c (.v (.bool true)))]):Ctr Tryz.prog 140 [.c (.sl (xs.map DPred.c)),.c (.sl (xs.map DPred.c))] [.val (.c (.v (.bool true)))]:=by
 refine Ctr.mk Tryz.call140 Tryz.func140 rfl mixed Tryz.ntmps140 Tryz.results140 (by kernel_rfl) rfl fun hw=>?_
 have hlen:xs.length≤9223372036854775807:=by have:=hw.1.1; simpa [Go.maxLen] using this
 simp only[go_sem,List.length_map,bne_self_eq_false,beq_self_eq_true]
 refine LoopK.mk 0 [0,1,5] (A:=Nat) (fun k=>⟨27,[(0,.c (.sl (xs.map DPred.c))),(1,.c (.sl (xs.map DPred.c))),(5,.c (.v (.int .i64 k)))],[]⟩) (fun k=>k≤xs.length) (fun k=>xs.length-k) 0 ⟨⟨rfl,rfl⟩,rfl,Nat.zero_le _⟩ ?_
 intro k hk
 simp only[go_sem,List.length_map]
 refine cndC.mk (fun h=>?_) (fun h=>?_)
 ·have hk':k<xs.length:=by simpa using h
  simp only[go_sem]
  refine DrawK.mk ?_
  simp only[go_sem,List.length_map,bne_self_eq_false,beq_self_eq_true,AA _ hk',hk',wrap_i64 (n:=(k:Int)+1) (by omega) (by omega)]
  refine CallF.mk _ (by simpa only[go_sem] using hx xs[k] (List.getElem_mem hk')) ?_
  simp only[go_sem,AA _ hk',wrap_i64 (n:=(k:Int)+1) (by omega) (by omega)]
  exact⟨k+1,⟨rfl,rfl⟩,rfl,by omega,by first | omega | (simp only; omega)⟩
 ·simp only[go_sem]
theorem iY (d:DPred) (hx:∀ x∈d.l,Ctr Tryz.prog 92 [.agg x.c,.agg x.c] [.val (.c (.v (.bool true)))]):Ctr Tryz.prog 92 [.agg d.c,.agg d.c] [.val (.c (.v (.bool true)))]:=by
 refine Ctr.mk Tryz.call92 Tryz.func92 rfl mixed Tryz.ntmps92 Tryz.results92 (by kernel_rfl) rfl fun _=>?_
 simp only[go_sem,bne_self_eq_false,beq_self_eq_true]
 refine CallK.mk _ (by simpa only[go_sem] using OD d.v) fun _=>?_
 simp only[go_sem,bne_self_eq_false,beq_self_eq_true]
 refine CallK.mk _ (by simpa only[go_sem] using ak d.l hx) fun _=>?_
 simp only[go_sem,bne_self_eq_false,beq_self_eq_true]
theorem Q9:∀ (n:Nat) (d:DPred),SizeOf.sizeOf d≤n→Ctr Tryz.prog 92 [.agg d.c,.agg d.c] [.val (.c (.v (.bool true)))]
 | 0,d,h=>by cases d; simp at h
 | n+1,d,h=>iY d fun x hx=>Q9 n x (by
  have h1:SizeOf.sizeOf x<SizeOf.sizeOf d.l:=List.sizeOf_lt_of_mem hx
  have h2:SizeOf.sizeOf d.l<SizeOf.sizeOf d:=by cases d; simp[DPred.l]; omega
  omega)
theorem Yl (d:DPred):Ctr Tryz.prog 92 [.agg d.c,.agg d.c] [.val (.c (.v (.bool true)))]:=Q9 _ d (Nat.le_refl _)
theorem IU (d:DQuery):Ctr Tryz.prog 32 [.agg d.c,.agg d.c] [.val (.c (.v (.bool true)))]:=by
 refine Ctr.mk Tryz.call32 Tryz.func32 rfl mixed Tryz.ntmps32 Tryz.results32 (by kernel_rfl) rfl fun _=>?_
 simp only[go_sem,bne_self_eq_false,beq_self_eq_true]
 refine CallK.mk _ (by simpa only[go_sem] using Yl d.p) fun _=>?_
 simp only[go_sem,bne_self_eq_false,beq_self_eq_true]
 refine CallK.mk _ (by simpa only[go_sem] using JO d.out) fun _=>?_
 simp only[go_sem,bne_self_eq_false,beq_self_eq_true]
theorem EU (d:DResult):Ctr Tryz.prog 31 [.agg d.c,.agg d.c] [.val (.c (.v (.bool true)))]:=by
 refine Ctr.mk Tryz.call31 Tryz.func31 rfl mixed Tryz.ntmps31 Tryz.results31 (by kernel_rfl) rfl fun _=>?_
 simp only[go_sem,bne_self_eq_false,beq_self_eq_true]
 refine CallK.mk _ (by simpa only[go_sem] using Q8 d.rows) fun _=>?_
 simp only[go_sem,bne_self_eq_false,beq_self_eq_true]
 refine CallK.mk _ (by simpa only[go_sem] using OD d.v) fun _=>?_
 simp only[go_sem,bne_self_eq_false,beq_self_eq_true]
theorem Ym (d:DSlot):Ctr Tryz.prog 234 [.agg d.c,.agg d.c] [.val (.c (.v (.bool true)))]:=by
 refine Ctr.mk Tryz.call234 Tryz.func234 rfl mixed Tryz.ntmps234 Tryz.results234 (by kernel_rfl) rfl fun _=>?_
 simp only[go_sem,bne_self_eq_false,beq_self_eq_true]
 refine CallK.mk _ (by simpa only[go_sem] using JP d.l) fun _=>?_
 simp only[go_sem,bne_self_eq_false,beq_self_eq_true]
theorem au (xs:List DSlot) (hx:∀ x∈xs,Ctr Tryz.prog 234 [.agg x.c,.agg x.c] [.val (.c (.v (.bool true)))]):Ctr Tryz.prog 197 [.c (.sl (xs.map DSlot.c)),.c (.sl (xs.map DSlot.c))] [.val (.c (.v (.bool true)))]:=by
 refine Ctr.mk Tryz.call197 Tryz.func197 rfl mixed Tryz.ntmps197 Tryz.results197 (by kernel_rfl) rfl fun hw=>?_
 have hlen:xs.length≤9223372036854775807:=by have:=hw.1.1; simpa [Go.maxLen] using this
 simp only[go_sem,List.length_map,bne_self_eq_false,beq_self_eq_true]
 refine LoopK.mk 0 [0,1,5] (A:=Nat) (fun k=>⟨27,[(0,.c (.sl (xs.map DSlot.c))),(1,.c (.sl (xs.map DSlot.c))),(5,.c (.v (.int .i64 k)))],[]⟩) (fun k=>k≤xs.length) (fun k=>xs.length-k) 0 ⟨⟨rfl,rfl⟩,rfl,Nat.zero_le _⟩ ?_
 intro k hk
 simp only[go_sem,List.length_map]
 refine cndC.mk (fun h=>?_) (fun h=>?_)
 ·have hk':k<xs.length:=by simpa using h
  simp only[go_sem]
  refine DrawK.mk ?_
  simp only[go_sem,List.length_map,bne_self_eq_false,beq_self_eq_true,AA _ hk',hk',wrap_i64 (n:=(k:Int)+1) (by omega) (by omega)]
  refine CallF.mk _ (by simpa only[go_sem] using hx xs[k] (List.getElem_mem hk')) ?_
  simp only[go_sem,AA _ hk',wrap_i64 (n:=(k:Int)+1) (by omega) (by omega)]
  exact⟨k+1,⟨rfl,rfl⟩,rfl,by omega,by first | omega | (simp only; omega)⟩
 ·simp only[go_sem]
theorem Wl (xs:List DSlot):Ctr Tryz.prog 197 [.c (.sl (xs.map DSlot.c)),.c (.sl (xs.map DSlot.c))] [.val (.c (.v (.bool true)))]:=au xs fun x _=>Ym x
theorem Wn (d:DChunk):Ctr Tryz.prog 165 [.agg d.c,.agg d.c] [.val (.c (.v (.bool true)))]:=by
 refine Ctr.mk Tryz.call165 Tryz.func165 rfl mixed Tryz.ntmps165 Tryz.results165 (by kernel_rfl) rfl fun _=>?_
 simp only[go_sem,bne_self_eq_false,beq_self_eq_true]
 refine CallK.mk _ (by simpa only[go_sem] using Wl d.l) fun _=>?_
 simp only[go_sem,bne_self_eq_false,beq_self_eq_true]
theorem ax (d:DBuf):Ctr Tryz.prog 109 [.agg d.c,.agg d.c] [.val (.c (.v (.bool true)))]:=by
 refine Ctr.mk Tryz.call109 Tryz.func109 rfl mixed Tryz.ntmps109 Tryz.results109 (by kernel_rfl) rfl fun _=>?_
 simp only[go_sem,bne_self_eq_false,beq_self_eq_true]
 refine CallK.mk _ (by simpa only[go_sem] using Wn d.c0) fun _=>?_
 simp only[go_sem,bne_self_eq_false,beq_self_eq_true]
 refine CallK.mk _ (by simpa only[go_sem] using Wj d.g) fun _=>?_
 simp only[go_sem,bne_self_eq_false,beq_self_eq_true]
theorem iZ (xs:List DBuf) (hx:∀ x∈xs,Ctr Tryz.prog 109 [.agg x.c,.agg x.c] [.val (.c (.v (.bool true)))]):Ctr Tryz.prog 59 [.c (.sl (xs.map DBuf.c)),.c (.sl (xs.map DBuf.c))] [.val (.c (.v (.bool true)))]:=by
 refine Ctr.mk Tryz.call59 Tryz.func59 rfl mixed Tryz.ntmps59 Tryz.results59 (by kernel_rfl) rfl fun hw=>?_
 have hlen:xs.length≤9223372036854775807:=by have:=hw.1.1; simpa [Go.maxLen] using this
 simp only[go_sem,List.length_map,bne_self_eq_false,beq_self_eq_true]
 refine LoopK.mk 0 [0,1,5] (A:=Nat) (fun k=>⟨27,[(0,.c (.sl (xs.map DBuf.c))),(1,.c (.sl (xs.map DBuf.c))),(5,.c (.v (.int .i64 k)))],[]⟩) (fun k=>k≤xs.length) (fun k=>xs.length-k) 0 ⟨⟨rfl,rfl⟩,rfl,Nat.zero_le _⟩ ?_
 intro k hk
 simp only[go_sem,List.length_map]
 refine cndC.mk (fun h=>?_) (fun h=>?_)
 ·have hk':k<xs.length:=by simpa using h
  simp only[go_sem]
  refine DrawK.mk ?_
  simp only[go_sem,List.length_map,bne_self_eq_false,beq_self_eq_true,AA _ hk',hk',wrap_i64 (n:=(k:Int)+1) (by omega) (by omega)]
  refine CallF.mk _ (by simpa only[go_sem] using hx xs[k] (List.getElem_mem hk')) ?_
  simp only[go_sem,AA _ hk',wrap_i64 (n:=(k:Int)+1) (by omega) (by omega)]
  exact⟨k+1,⟨rfl,rfl⟩,rfl,by omega,by first | omega | (simp only; omega)⟩
 ·simp only[go_sem]
theorem Yn (xs:List DBuf):Ctr Tryz.prog 59 [.c (.sl (xs.map DBuf.c)),.c (.sl (xs.map DBuf.c))] [.val (.c (.v (.bool true)))]:=iZ xs fun x _=>ax x
theorem Yo (d:DDead):Ctr Tryz.prog 110 [.agg d.c,.agg d.c] [.val (.c (.v (.bool true)))]:=by
 refine Ctr.mk Tryz.call110 Tryz.func110 rfl mixed Tryz.ntmps110 Tryz.results110 (by kernel_rfl) rfl fun _=>?_
 simp only[go_sem,bne_self_eq_false,beq_self_eq_true]
theorem ay (xs:List DDead) (hx:∀ x∈xs,Ctr Tryz.prog 110 [.agg x.c,.agg x.c] [.val (.c (.v (.bool true)))]):Ctr Tryz.prog 61 [.c (.sl (xs.map DDead.c)),.c (.sl (xs.map DDead.c))] [.val (.c (.v (.bool true)))]:=by
 refine Ctr.mk Tryz.call61 Tryz.func61 rfl mixed Tryz.ntmps61 Tryz.results61 (by kernel_rfl) rfl fun hw=>?_
 have hlen:xs.length≤9223372036854775807:=by have:=hw.1.1; simpa [Go.maxLen] using this
 simp only[go_sem,List.length_map,bne_self_eq_false,beq_self_eq_true]
 refine LoopK.mk 0 [0,1,5] (A:=Nat) (fun k=>⟨27,[(0,.c (.sl (xs.map DDead.c))),(1,.c (.sl (xs.map DDead.c))),(5,.c (.v (.int .i64 k)))],[]⟩) (fun k=>k≤xs.length) (fun k=>xs.length-k) 0 ⟨⟨rfl,rfl⟩,rfl,Nat.zero_le _⟩ ?_
 intro k hk
 simp only[go_sem,List.length_map]
 refine cndC.mk (fun h=>?_) (fun h=>?_)
 ·have hk':k<xs.length:=by simpa using h
  simp only[go_sem]
  refine DrawK.mk ?_
  simp only[go_sem,List.length_map,bne_self_eq_false,beq_self_eq_true,AA _ hk',hk',wrap_i64 (n:=(k:Int)+1) (by omega) (by omega)]
  refine CallF.mk _ (by simpa only[go_sem] using hx xs[k] (List.getElem_mem hk')) ?_
  simp only[go_sem,AA _ hk',wrap_i64 (n:=(k:Int)+1) (by omega) (by omega)]
  exact⟨k+1,⟨rfl,rfl⟩,rfl,by omega,by first | omega | (simp only; omega)⟩
 ·simp only[go_sem]
theorem Wp (xs:List DDead):Ctr Tryz.prog 61 [.c (.sl (xs.map DDead.c)),.c (.sl (xs.map DDead.c))] [.val (.c (.v (.bool true)))]:=ay xs fun x _=>Yo x
theorem az (d:DRef):Ctr Tryz.prog 164 [.agg d.c,.agg d.c] [.val (.c (.v (.bool true)))]:=by
 refine Ctr.mk Tryz.call164 Tryz.func164 rfl mixed Tryz.ntmps164 Tryz.results164 (by kernel_rfl) rfl fun _=>?_
 simp only[go_sem,bne_self_eq_false,beq_self_eq_true]
theorem ig (xs:List DRef) (hx:∀ x∈xs,Ctr Tryz.prog 164 [.agg x.c,.agg x.c] [.val (.c (.v (.bool true)))]):Ctr Tryz.prog 108 [.c (.sl (xs.map DRef.c)),.c (.sl (xs.map DRef.c))] [.val (.c (.v (.bool true)))]:=by
 refine Ctr.mk Tryz.call108 Tryz.func108 rfl mixed Tryz.ntmps108 Tryz.results108 (by kernel_rfl) rfl fun hw=>?_
 have hlen:xs.length≤9223372036854775807:=by have:=hw.1.1; simpa [Go.maxLen] using this
 simp only[go_sem,List.length_map,bne_self_eq_false,beq_self_eq_true]
 refine LoopK.mk 0 [0,1,5] (A:=Nat) (fun k=>⟨27,[(0,.c (.sl (xs.map DRef.c))),(1,.c (.sl (xs.map DRef.c))),(5,.c (.v (.int .i64 k)))],[]⟩) (fun k=>k≤xs.length) (fun k=>xs.length-k) 0 ⟨⟨rfl,rfl⟩,rfl,Nat.zero_le _⟩ ?_
 intro k hk
 simp only[go_sem,List.length_map]
 refine cndC.mk (fun h=>?_) (fun h=>?_)
 ·have hk':k<xs.length:=by simpa using h
  simp only[go_sem]
  refine DrawK.mk ?_
  simp only[go_sem,List.length_map,bne_self_eq_false,beq_self_eq_true,AA _ hk',hk',wrap_i64 (n:=(k:Int)+1) (by omega) (by omega)]
  refine CallF.mk _ (by simpa only[go_sem] using hx xs[k] (List.getElem_mem hk')) ?_
  simp only[go_sem,AA _ hk',wrap_i64 (n:=(k:Int)+1) (by omega) (by omega)]
  exact⟨k+1,⟨rfl,rfl⟩,rfl,by omega,by first | omega | (simp only; omega)⟩
 ·simp only[go_sem]
theorem Q_ (xs:List DRef):Ctr Tryz.prog 108 [.c (.sl (xs.map DRef.c)),.c (.sl (xs.map DRef.c))] [.val (.c (.v (.bool true)))]:=ig xs fun x _=>az x
theorem a_ (d:DDir):Ctr Tryz.prog 58 [.agg d.c,.agg d.c] [.val (.c (.v (.bool true)))]:=by
 refine Ctr.mk Tryz.call58 Tryz.func58 rfl mixed Tryz.ntmps58 Tryz.results58 (by kernel_rfl) rfl fun _=>?_
 simp only[go_sem,bne_self_eq_false,beq_self_eq_true]
 refine CallK.mk _ (by simpa only[go_sem] using Q_ d.l) fun _=>?_
 simp only[go_sem,bne_self_eq_false,beq_self_eq_true]
theorem Yp (d:DTask):Ctr Tryz.prog 111 [.agg d.c,.agg d.c] [.val (.c (.v (.bool true)))]:=by
 refine Ctr.mk Tryz.call111 Tryz.func111 rfl mixed Tryz.ntmps111 Tryz.results111 (by kernel_rfl) rfl fun _=>?_
 simp only[go_sem,bne_self_eq_false,beq_self_eq_true]
 refine CallK.mk _ (by simpa only[go_sem] using JP d.r) fun _=>?_
 simp only[go_sem,bne_self_eq_false,beq_self_eq_true]
 refine CallK.mk _ (by simpa only[go_sem] using IU d.q) fun _=>?_
 simp only[go_sem,bne_self_eq_false,beq_self_eq_true]
 refine CallK.mk _ (by simpa only[go_sem] using Q_ d.l) fun _=>?_
 simp only[go_sem,bne_self_eq_false,beq_self_eq_true]
 refine CallK.mk _ (by simpa only[go_sem] using Q8 d.got) fun _=>?_
 simp only[go_sem,bne_self_eq_false,beq_self_eq_true]
theorem bC (xs:List DTask) (hx:∀ x∈xs,Ctr Tryz.prog 111 [.agg x.c,.agg x.c] [.val (.c (.v (.bool true)))]):Ctr Tryz.prog 62 [.c (.sl (xs.map DTask.c)),.c (.sl (xs.map DTask.c))] [.val (.c (.v (.bool true)))]:=by
 refine Ctr.mk Tryz.call62 Tryz.func62 rfl mixed Tryz.ntmps62 Tryz.results62 (by kernel_rfl) rfl fun hw=>?_
 have hlen:xs.length≤9223372036854775807:=by have:=hw.1.1; simpa [Go.maxLen] using this
 simp only[go_sem,List.length_map,bne_self_eq_false,beq_self_eq_true]
 refine LoopK.mk 0 [0,1,5] (A:=Nat) (fun k=>⟨27,[(0,.c (.sl (xs.map DTask.c))),(1,.c (.sl (xs.map DTask.c))),(5,.c (.v (.int .i64 k)))],[]⟩) (fun k=>k≤xs.length) (fun k=>xs.length-k) 0 ⟨⟨rfl,rfl⟩,rfl,Nat.zero_le _⟩ ?_
 intro k hk
 simp only[go_sem,List.length_map]
 refine cndC.mk (fun h=>?_) (fun h=>?_)
 ·have hk':k<xs.length:=by simpa using h
  simp only[go_sem]
  refine DrawK.mk ?_
  simp only[go_sem,List.length_map,bne_self_eq_false,beq_self_eq_true,AA _ hk',hk',wrap_i64 (n:=(k:Int)+1) (by omega) (by omega)]
  refine CallF.mk _ (by simpa only[go_sem] using hx xs[k] (List.getElem_mem hk')) ?_
  simp only[go_sem,AA _ hk',wrap_i64 (n:=(k:Int)+1) (by omega) (by omega)]
  exact⟨k+1,⟨rfl,rfl⟩,rfl,by omega,by first | omega | (simp only; omega)⟩
 ·simp only[go_sem]
theorem Wq (xs:List DTask):Ctr Tryz.prog 62 [.c (.sl (xs.map DTask.c)),.c (.sl (xs.map DTask.c))] [.val (.c (.v (.bool true)))]:=bC xs fun x _=>Yp x
theorem Yq (d:DDeed):Ctr Tryz.prog 112 [.agg d.c,.agg d.c] [.val (.c (.v (.bool true)))]:=by
 refine Ctr.mk Tryz.call112 Tryz.func112 rfl mixed Tryz.ntmps112 Tryz.results112 (by kernel_rfl) rfl fun _=>?_
 simp only[go_sem,bne_self_eq_false,beq_self_eq_true]
 refine CallK.mk _ (by simpa only[go_sem] using JP d.r) fun _=>?_
 simp only[go_sem,bne_self_eq_false,beq_self_eq_true]
 refine CallK.mk _ (by simpa only[go_sem] using IU d.q) fun _=>?_
 simp only[go_sem,bne_self_eq_false,beq_self_eq_true]
 refine CallK.mk _ (by simpa only[go_sem] using EU d.res) fun _=>?_
 simp only[go_sem,bne_self_eq_false,beq_self_eq_true]
theorem bD (xs:List DDeed) (hx:∀ x∈xs,Ctr Tryz.prog 112 [.agg x.c,.agg x.c] [.val (.c (.v (.bool true)))]):Ctr Tryz.prog 63 [.c (.sl (xs.map DDeed.c)),.c (.sl (xs.map DDeed.c))] [.val (.c (.v (.bool true)))]:=by
 refine Ctr.mk Tryz.call63 Tryz.func63 rfl mixed Tryz.ntmps63 Tryz.results63 (by kernel_rfl) rfl fun hw=>?_
 have hlen:xs.length≤9223372036854775807:=by have:=hw.1.1; simpa [Go.maxLen] using this
 simp only[go_sem,List.length_map,bne_self_eq_false,beq_self_eq_true]
 refine LoopK.mk 0 [0,1,5] (A:=Nat) (fun k=>⟨27,[(0,.c (.sl (xs.map DDeed.c))),(1,.c (.sl (xs.map DDeed.c))),(5,.c (.v (.int .i64 k)))],[]⟩) (fun k=>k≤xs.length) (fun k=>xs.length-k) 0 ⟨⟨rfl,rfl⟩,rfl,Nat.zero_le _⟩ ?_
 intro k hk
 simp only[go_sem,List.length_map]
 refine cndC.mk (fun h=>?_) (fun h=>?_)
 ·have hk':k<xs.length:=by simpa using h
  simp only[go_sem]
  refine DrawK.mk ?_
  simp only[go_sem,List.length_map,bne_self_eq_false,beq_self_eq_true,AA _ hk',hk',wrap_i64 (n:=(k:Int)+1) (by omega) (by omega)]
  refine CallF.mk _ (by simpa only[go_sem] using hx xs[k] (List.getElem_mem hk')) ?_
  simp only[go_sem,AA _ hk',wrap_i64 (n:=(k:Int)+1) (by omega) (by omega)]
  exact⟨k+1,⟨rfl,rfl⟩,rfl,by omega,by first | omega | (simp only; omega)⟩
 ·simp only[go_sem]
theorem Ws (xs:List DDeed):Ctr Tryz.prog 63 [.c (.sl (xs.map DDeed.c)),.c (.sl (xs.map DDeed.c))] [.val (.c (.v (.bool true)))]:=bD xs fun x _=>Yq x
theorem Yr (d:DConf):Ctr Tryz.prog 57 [.agg d.c,.agg d.c] [.val (.c (.v (.bool true)))]:=by
 refine Ctr.mk Tryz.call57 Tryz.func57 rfl mixed Tryz.ntmps57 Tryz.results57 (by kernel_rfl) rfl fun _=>?_
 simp only[go_sem,bne_self_eq_false,beq_self_eq_true]
 refine CallK.mk _ (by simpa only[go_sem] using JO d.cols) fun _=>?_
 simp only[go_sem,bne_self_eq_false,beq_self_eq_true]
theorem Ox (d:DWorld):Ctr Tryz.prog 13 [.agg d.c,.agg d.c] [.val (.c (.v (.bool true)))]:=by
 refine Ctr.mk Tryz.call13 Tryz.func13 rfl mixed Tryz.ntmps13 Tryz.results13 (by kernel_rfl) rfl fun _=>?_
 simp only[go_sem,bne_self_eq_false,beq_self_eq_true]
 refine CallK.mk _ (by simpa only[go_sem] using Yr d.c0) fun _=>?_
 simp only[go_sem,bne_self_eq_false,beq_self_eq_true]
 refine CallK.mk _ (by simpa only[go_sem] using a_ d.d) fun _=>?_
 simp only[go_sem,bne_self_eq_false,beq_self_eq_true]
 refine CallK.mk _ (by simpa only[go_sem] using Yn d.b) fun _=>?_
 simp only[go_sem,bne_self_eq_false,beq_self_eq_true]
 refine CallK.mk _ (by simpa only[go_sem] using JO d.m) fun _=>?_
 simp only[go_sem,bne_self_eq_false,beq_self_eq_true]
 refine CallK.mk _ (by simpa only[go_sem] using Wp d.x) fun _=>?_
 simp only[go_sem,bne_self_eq_false,beq_self_eq_true]
 refine CallK.mk _ (by simpa only[go_sem] using JO d.p) fun _=>?_
 simp only[go_sem,bne_self_eq_false,beq_self_eq_true]
 refine CallK.mk _ (by simpa only[go_sem] using Wq d.tasks) fun _=>?_
 simp only[go_sem,bne_self_eq_false,beq_self_eq_true]
 refine CallK.mk _ (by simpa only[go_sem] using Ws d.deeds) fun _=>?_
 simp only[go_sem,bne_self_eq_false,beq_self_eq_true]
end Go.Proofs.YthoeeoddgkjkkaaGreat
