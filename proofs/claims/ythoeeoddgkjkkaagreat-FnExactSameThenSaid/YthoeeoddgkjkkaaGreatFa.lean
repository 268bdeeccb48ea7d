/- Contracts of the sz/to/eq functions: by program (gen_data.py). -/
import Derived.Test.YthoeeoddgkjkkaaGreatDa
import Derived.Test.YthoeeoddgkjkkaaGreatTy
namespace Go.Proofs.YthoeeoddgkjkkaaGreat
set_option linter.unusedSimpArgs false
set_option linter.unusedVariables false
open Go.Vm
set_option maxHeartbeats 1000000
set_option maxRecDepth 10000
theorem szIntS_spec (xs : List Int) (l : Int) (hl : 0 ≤ l) : Ctr Tryz.prog 39 [.c (.sl (xs.map intC)),.c (.v (.int .i64 l))] [.val (.c (.v (.int .i64 (szI xs.length l))))]:=by
 refine Ctr.mk Tryz.call39 Tryz.func39 rfl mixed Tryz.ntmps39 Tryz.results39 (by kernel_rfl) rfl fun hw=>?_
 have hlen : xs.length ≤ 9223372036854775807:=by have:=hw.1.1; simpa [Go.maxLen] using this
 have hl2 : l ≤ 9223372036854775807:=i64_le hw.2.1
 simp only [go_sem,List.length_map,wrap_i64 (n:=l - xs.length) (by omega) (by omega)]
 refine cndC.mk (fun h=>?_) (fun h=>?_)
 ·have h' : l - xs.length < 0:=by simpa using h
  simp only [go_sem]
  simp [szI,h']
 ·have h' : ¬ l - xs.length < 0:=by simpa using h
  simp only [go_sem]
  simp [szI,h']
theorem szByteS_spec (xs : List Int) (l : Int) (hl : 0 ≤ l) : Ctr Tryz.prog 142 [.c (.sl (xs.map byteC)),.c (.v (.int .i64 l))] [.val (.c (.v (.int .i64 (szI xs.length l))))]:=by
 refine Ctr.mk Tryz.call142 Tryz.func142 rfl mixed Tryz.ntmps142 Tryz.results142 (by kernel_rfl) rfl fun hw=>?_
 have hlen : xs.length ≤ 9223372036854775807:=by have:=hw.1.1; simpa [Go.maxLen] using this
 have hl2 : l ≤ 9223372036854775807:=i64_le hw.2.1
 simp only [go_sem,List.length_map,wrap_i64 (n:=l - xs.length) (by omega) (by omega)]
 refine cndC.mk (fun h=>?_) (fun h=>?_)
 ·have h' : l - xs.length < 0:=by simpa using h
  simp only [go_sem]
  simp [szI,h']
 ·have h' : ¬ l - xs.length < 0:=by simpa using h
  simp only [go_sem]
  simp [szI,h']
theorem szVal_spec (d : DVal) (l : Int) (hl : 0 ≤ l) : Ctr Tryz.prog 129 [.agg d.c,.c (.v (.int .i64 l))] [.val (.c (.v (.int .i64 (szVal d l))))]:=by
 refine Ctr.mk Tryz.call129 Tryz.func129 rfl mixed Tryz.ntmps129 Tryz.results129 (by kernel_rfl) rfl fun hw=>?_
 rw [szVal_eq]
 have hl2 : l ≤ 9223372036854775807:=i64_le hw.2.1
 have hs : d.s.size ≤ 9223372036854775807:=str_le hw.1.2.2.1
 simp only [go_sem,wrap_i64 (n:=l - d.s.size) (by omega) (by omega)]
 refine cndC.mk (fun h=>?_) (fun h=>?_)
 ·have h0 : l - d.s.size < 0:=by simpa using h
  simp only [go_sem]
  simp [szI,sq,h0]
 ·have h0 : ¬ l - d.s.size < 0:=by simpa using h
  simp only [go_sem]
  simp [szI,sq,h0]
theorem szValS_of (xs : List DVal) (hx : ∀ x ∈ xs,∀ l,0 ≤ l → Ctr Tryz.prog 129 [.agg x.c,.c (.v (.int .i64 l))] [.val (.c (.v (.int .i64 (szVal x l))))]) (l : Int) (hl : 0 ≤ l) : Ctr Tryz.prog 143 [.c (.sl (xs.map DVal.c)),.c (.v (.int .i64 l))] [.val (.c (.v (.int .i64 (szS szVal xs l))))]:=by
 refine Ctr.mk Tryz.call143 Tryz.func143 rfl mixed Tryz.ntmps143 Tryz.results143 (by kernel_rfl) rfl fun hw=>?_
 have hlen : xs.length ≤ 9223372036854775807:=by have:=hw.1.1; simpa [Go.maxLen] using this
 have hl2 : l ≤ 9223372036854775807:=i64_le hw.2.1
 simp only [go_sem,List.length_map,wrap_i64 (n:=l - xs.length) (by omega) (by omega)]
 refine cndC.mk (fun h=>?_) (fun h=>?_)
 ·have h' : l - xs.length < 0:=by simpa using h
  simp only [go_sem]
  simp [szS,sq,szI,h']
 ·have h' : ¬ l - xs.length < 0:=by simpa using h
  simp only [go_sem]
  refine LoopK.mk 0 [0,1,5] (A:=Nat × Int) (fun x=>⟨27,[(0,.c (.sl (xs.map DVal.c))),(1,.c (.v (.int .i64 x.2))),(5,.c (.v (.int .i64 x.1)))],[]⟩) (fun x=>x.1 ≤ xs.length ∧ 0 ≤ x.2 ∧ szL szVal (xs.drop x.1) x.2 = szS szVal xs l) (fun x=>xs.length - x.1)
   (0,l - xs.length) ⟨⟨rfl,rfl⟩,rfl,Nat.zero_le _,by simp only; omega,by simp [szS,sq,szI,h']⟩ ?_
  rintro ⟨k,m⟩ ⟨hk,hm0,hm⟩
  simp only at hk hm hm0
  simp only [go_sem,List.length_map]
  refine cndC.mk (fun h=>?_) (fun h=>?_)
  ·have hk' : k < xs.length:=by simpa using h
   simp only [go_sem,map_at _ hk']
   refine CallK.mk _ (by simpa only [go_sem] using hx xs[k] (List.getElem_mem hk') m hm0) fun _=>?_
   simp only [go_sem]
   rw [List.drop_eq_getElem_cons hk'] at hm
   simp only [szL] at hm
   refine cndC.mk (fun h=>?_) (fun h=>?_)
   ·have h' : szVal xs[k] m < 0:=by simpa using h
    simp only [go_sem]
    rw [sq_neg h'] at hm
    rw [hm]
   ·have h' : ¬ szVal xs[k] m < 0:=by simpa using h
    rw [sq_pos h'] at hm
    simp only [go_sem,wrap_i64 (n:=(k : Int) + 1) (by omega) (by omega)]
    exact ⟨(k + 1,szVal xs[k] m),⟨rfl,rfl⟩,rfl,⟨by simp only; omega,(by omega : (0 : Int) ≤ szVal xs[k] m),hm⟩,by simp only; omega⟩
  ·have hk' : k = xs.length:=by simp at h; omega
   subst hk'
   simp only [go_sem]
   simp [szL] at hm
   rw [hm]
theorem szValS_spec (xs : List DVal) (l : Int) (hl : 0 ≤ l) : Ctr Tryz.prog 143 [.c (.sl (xs.map DVal.c)),.c (.v (.int .i64 l))] [.val (.c (.v (.int .i64 (szS szVal xs l))))]:=szValS_of xs (fun x _ l hl=>szVal_spec x l hl) l hl
theorem szRow_spec (d : DRow) (l : Int) (hl : 0 ≤ l) : Ctr Tryz.prog 174 [.agg d.c,.c (.v (.int .i64 l))] [.val (.c (.v (.int .i64 (szRow d l))))]:=by
 refine Ctr.mk Tryz.call174 Tryz.func174 rfl mixed Tryz.ntmps174 Tryz.results174 (by kernel_rfl) rfl fun hw=>?_
 rw [szRow_eq]
 simp only [go_sem]
 refine CallK.mk _ (by simpa only [go_sem] using szValS_spec d.l _ (by omega)) fun _=>?_
 simp only [go_sem]
 refine cndC.mk (fun h=>?_) (fun h=>?_)
 ·have h0 : szS szVal d.l (l) < 0:=by simpa using h
  simp only [go_sem]
  simp [sq,h0]
 ·have h0 : ¬ szS szVal d.l (l) < 0:=by simpa using h
  simp only [go_sem]
  simp [sq,h0]
theorem szRowS_of (xs : List DRow) (hx : ∀ x ∈ xs,∀ l,0 ≤ l → Ctr Tryz.prog 174 [.agg x.c,.c (.v (.int .i64 l))] [.val (.c (.v (.int .i64 (szRow x l))))]) (l : Int) (hl : 0 ≤ l) : Ctr Tryz.prog 144 [.c (.sl (xs.map DRow.c)),.c (.v (.int .i64 l))] [.val (.c (.v (.int .i64 (szS szRow xs l))))]:=by
 refine Ctr.mk Tryz.call144 Tryz.func144 rfl mixed Tryz.ntmps144 Tryz.results144 (by kernel_rfl) rfl fun hw=>?_
 have hlen : xs.length ≤ 9223372036854775807:=by have:=hw.1.1; simpa [Go.maxLen] using this
 have hl2 : l ≤ 9223372036854775807:=i64_le hw.2.1
 simp only [go_sem,List.length_map,wrap_i64 (n:=l - xs.length) (by omega) (by omega)]
 refine cndC.mk (fun h=>?_) (fun h=>?_)
 ·have h' : l - xs.length < 0:=by simpa using h
  simp only [go_sem]
  simp [szS,sq,szI,h']
 ·have h' : ¬ l - xs.length < 0:=by simpa using h
  simp only [go_sem]
  refine LoopK.mk 0 [0,1,5] (A:=Nat × Int) (fun x=>⟨27,[(0,.c (.sl (xs.map DRow.c))),(1,.c (.v (.int .i64 x.2))),(5,.c (.v (.int .i64 x.1)))],[]⟩) (fun x=>x.1 ≤ xs.length ∧ 0 ≤ x.2 ∧ szL szRow (xs.drop x.1) x.2 = szS szRow xs l) (fun x=>xs.length - x.1)
   (0,l - xs.length) ⟨⟨rfl,rfl⟩,rfl,Nat.zero_le _,by simp only; omega,by simp [szS,sq,szI,h']⟩ ?_
  rintro ⟨k,m⟩ ⟨hk,hm0,hm⟩
  simp only at hk hm hm0
  simp only [go_sem,List.length_map]
  refine cndC.mk (fun h=>?_) (fun h=>?_)
  ·have hk' : k < xs.length:=by simpa using h
   simp only [go_sem,map_at _ hk']
   refine CallK.mk _ (by simpa only [go_sem] using hx xs[k] (List.getElem_mem hk') m hm0) fun _=>?_
   simp only [go_sem]
   rw [List.drop_eq_getElem_cons hk'] at hm
   simp only [szL] at hm
   refine cndC.mk (fun h=>?_) (fun h=>?_)
   ·have h' : szRow xs[k] m < 0:=by simpa using h
    simp only [go_sem]
    rw [sq_neg h'] at hm
    rw [hm]
   ·have h' : ¬ szRow xs[k] m < 0:=by simpa using h
    rw [sq_pos h'] at hm
    simp only [go_sem,wrap_i64 (n:=(k : Int) + 1) (by omega) (by omega)]
    exact ⟨(k + 1,szRow xs[k] m),⟨rfl,rfl⟩,rfl,⟨by simp only; omega,(by omega : (0 : Int) ≤ szRow xs[k] m),hm⟩,by simp only; omega⟩
  ·have hk' : k = xs.length:=by simp at h; omega
   subst hk'
   simp only [go_sem]
   simp [szL] at hm
   rw [hm]
theorem szRowS_spec (xs : List DRow) (l : Int) (hl : 0 ≤ l) : Ctr Tryz.prog 144 [.c (.sl (xs.map DRow.c)),.c (.v (.int .i64 l))] [.val (.c (.v (.int .i64 (szS szRow xs l))))]:=szRowS_of xs (fun x _ l hl=>szRow_spec x l hl) l hl
theorem szPredS_of (xs : List DPred) (hx : ∀ x ∈ xs,∀ l,0 ≤ l → Ctr Tryz.prog 87 [.agg x.c,.c (.v (.int .i64 l))] [.val (.c (.v (.int .i64 (szPred x l))))]) (l : Int) (hl : 0 ≤ l) : Ctr Tryz.prog 130 [.c (.sl (xs.map DPred.c)),.c (.v (.int .i64 l))] [.val (.c (.v (.int .i64 (szS szPred xs l))))]:=by
 refine Ctr.mk Tryz.call130 Tryz.func130 rfl mixed Tryz.ntmps130 Tryz.results130 (by kernel_rfl) rfl fun hw=>?_
 have hlen : xs.length ≤ 9223372036854775807:=by have:=hw.1.1; simpa [Go.maxLen] using this
 have hl2 : l ≤ 9223372036854775807:=i64_le hw.2.1
 simp only [go_sem,List.length_map,wrap_i64 (n:=l - xs.length) (by omega) (by omega)]
 refine cndC.mk (fun h=>?_) (fun h=>?_)
 ·have h' : l - xs.length < 0:=by simpa using h
  simp only [go_sem]
  simp [szS,sq,szI,h']
 ·have h' : ¬ l - xs.length < 0:=by simpa using h
  simp only [go_sem]
  refine LoopK.mk 0 [0,1,5] (A:=Nat × Int) (fun x=>⟨27,[(0,.c (.sl (xs.map DPred.c))),(1,.c (.v (.int .i64 x.2))),(5,.c (.v (.int .i64 x.1)))],[]⟩) (fun x=>x.1 ≤ xs.length ∧ 0 ≤ x.2 ∧ szL szPred (xs.drop x.1) x.2 = szS szPred xs l) (fun x=>xs.length - x.1)
   (0,l - xs.length) ⟨⟨rfl,rfl⟩,rfl,Nat.zero_le _,by simp only; omega,by simp [szS,sq,szI,h']⟩ ?_
  rintro ⟨k,m⟩ ⟨hk,hm0,hm⟩
  simp only at hk hm hm0
  simp only [go_sem,List.length_map]
  refine cndC.mk (fun h=>?_) (fun h=>?_)
  ·have hk' : k < xs.length:=by simpa using h
   simp only [go_sem,map_at _ hk']
   refine CallK.mk _ (by simpa only [go_sem] using hx xs[k] (List.getElem_mem hk') m hm0) fun _=>?_
   simp only [go_sem]
   rw [List.drop_eq_getElem_cons hk'] at hm
   simp only [szL] at hm
   refine cndC.mk (fun h=>?_) (fun h=>?_)
   ·have h' : szPred xs[k] m < 0:=by simpa using h
    simp only [go_sem]
    rw [sq_neg h'] at hm
    rw [hm]
   ·have h' : ¬ szPred xs[k] m < 0:=by simpa using h
    rw [sq_pos h'] at hm
    simp only [go_sem,wrap_i64 (n:=(k : Int) + 1) (by omega) (by omega)]
    exact ⟨(k + 1,szPred xs[k] m),⟨rfl,rfl⟩,rfl,⟨by simp only; omega,(by omega : (0 : Int) ≤ szPred xs[k] m),hm⟩,by simp only; omega⟩
  ·have hk' : k = xs.length:=by simp at h; omega
   subst hk'
   simp only [go_sem]
   simp [szL] at hm
   rw [hm]
theorem szPred_of (d : DPred) (hx : ∀ x ∈ d.l,∀ l,0 ≤ l → Ctr Tryz.prog 87 [.agg x.c,.c (.v (.int .i64 l))] [.val (.c (.v (.int .i64 (szPred x l))))]) (l : Int) (hl : 0 ≤ l) : Ctr Tryz.prog 87 [.agg d.c,.c (.v (.int .i64 l))] [.val (.c (.v (.int .i64 (szPred d l))))]:=by
 refine Ctr.mk Tryz.call87 Tryz.func87 rfl mixed Tryz.ntmps87 Tryz.results87 (by kernel_rfl) rfl fun hw=>?_
 rw [szPred_eq]
 simp only [go_sem]
 refine CallK.mk _ (by simpa only [go_sem] using szVal_spec d.v _ (by omega)) fun _=>?_
 simp only [go_sem]
 refine cndC.mk (fun h=>?_) (fun h=>?_)
 ·have h0 : szVal d.v (l) < 0:=by simpa using h
  simp only [go_sem]
  simp [sq,h0]
 ·have h0 : ¬ szVal d.v (l) < 0:=by simpa using h
  simp only [go_sem]
  refine CallK.mk _ (by simpa only [go_sem] using szPredS_of d.l hx _ (by omega)) fun _=>?_
  simp only [go_sem]
  refine cndC.mk (fun h=>?_) (fun h=>?_)
  ·have h1 : szS szPred d.l (szVal d.v (l)) < 0:=by simpa using h
   simp only [go_sem]
   simp [sq,h0,h1]
  ·have h1 : ¬ szS szPred d.l (szVal d.v (l)) < 0:=by simpa using h
   simp only [go_sem]
   simp [sq,h0,h1]
theorem szPred_fuel : ∀ (n : Nat) (d : DPred),SizeOf.sizeOf d ≤ n → ∀ l,0 ≤ l → Ctr Tryz.prog 87 [.agg d.c,.c (.v (.int .i64 l))] [.val (.c (.v (.int .i64 (szPred d l))))]
 | 0,d,h=>by cases d; simp at h
 | n + 1,d,h=>szPred_of d fun x hx=>szPred_fuel n x (by
  have h1 : SizeOf.sizeOf x < SizeOf.sizeOf d.l:=List.sizeOf_lt_of_mem hx
  have h2 : SizeOf.sizeOf d.l < SizeOf.sizeOf d:=by cases d; simp [DPred.l]; omega
  omega)
theorem szPred_spec (d : DPred) (l : Int) (hl : 0 ≤ l) : Ctr Tryz.prog 87 [.agg d.c,.c (.v (.int .i64 l))] [.val (.c (.v (.int .i64 (szPred d l))))]:=szPred_fuel _ d (Nat.le_refl _) l hl
theorem szQuery_spec (d : DQuery) (l : Int) (hl : 0 ≤ l) : Ctr Tryz.prog 27 [.agg d.c,.c (.v (.int .i64 l))] [.val (.c (.v (.int .i64 (szQuery d l))))]:=by
 refine Ctr.mk Tryz.call27 Tryz.func27 rfl mixed Tryz.ntmps27 Tryz.results27 (by kernel_rfl) rfl fun hw=>?_
 rw [szQuery_eq]
 simp only [go_sem]
 refine CallK.mk _ (by simpa only [go_sem] using szPred_spec d.p _ (by omega)) fun _=>?_
 simp only [go_sem]
 refine cndC.mk (fun h=>?_) (fun h=>?_)
 ·have h0 : szPred d.p (l) < 0:=by simpa using h
  simp only [go_sem]
  simp [sq,h0]
 ·have h0 : ¬ szPred d.p (l) < 0:=by simpa using h
  simp only [go_sem]
  refine CallK.mk _ (by simpa only [go_sem] using szIntS_spec d.out _ (by omega)) fun _=>?_
  simp only [go_sem]
  refine cndC.mk (fun h=>?_) (fun h=>?_)
  ·have h1 : szI d.out.length (szPred d.p (l)) < 0:=by simpa using h
   simp only [go_sem]
   simp [sq,h0,h1]
  ·have h1 : ¬ szI d.out.length (szPred d.p (l)) < 0:=by simpa using h
   simp only [go_sem]
   simp [sq,h0,h1]
theorem szResult_spec (d : DResult) (l : Int) (hl : 0 ≤ l) : Ctr Tryz.prog 145 [.agg d.c,.c (.v (.int .i64 l))] [.val (.c (.v (.int .i64 (szResult d l))))]:=by
 refine Ctr.mk Tryz.call145 Tryz.func145 rfl mixed Tryz.ntmps145 Tryz.results145 (by kernel_rfl) rfl fun hw=>?_
 rw [szResult_eq]
 simp only [go_sem]
 refine CallK.mk _ (by simpa only [go_sem] using szRowS_spec d.rows _ (by omega)) fun _=>?_
 simp only [go_sem]
 refine cndC.mk (fun h=>?_) (fun h=>?_)
 ·have h0 : szS szRow d.rows (l) < 0:=by simpa using h
  simp only [go_sem]
  simp [sq,h0]
 ·have h0 : ¬ szS szRow d.rows (l) < 0:=by simpa using h
  simp only [go_sem]
  refine CallK.mk _ (by simpa only [go_sem] using szVal_spec d.v _ (by omega)) fun _=>?_
  simp only [go_sem]
  refine cndC.mk (fun h=>?_) (fun h=>?_)
  ·have h1 : szVal d.v (szS szRow d.rows (l)) < 0:=by simpa using h
   simp only [go_sem]
   simp [sq,h0,h1]
  ·have h1 : ¬ szVal d.v (szS szRow d.rows (l)) < 0:=by simpa using h
   simp only [go_sem]
   simp [sq,h0,h1]
theorem szSlot_spec (d : DSlot) (l : Int) (hl : 0 ≤ l) : Ctr Tryz.prog 201 [.agg d.c,.c (.v (.int .i64 l))] [.val (.c (.v (.int .i64 (szSlot d l))))]:=by
 refine Ctr.mk Tryz.call201 Tryz.func201 rfl mixed Tryz.ntmps201 Tryz.results201 (by kernel_rfl) rfl fun hw=>?_
 rw [szSlot_eq]
 simp only [go_sem]
 refine CallK.mk _ (by simpa only [go_sem] using szValS_spec d.l _ (by omega)) fun _=>?_
 simp only [go_sem]
 refine cndC.mk (fun h=>?_) (fun h=>?_)
 ·have h0 : szS szVal d.l (l) < 0:=by simpa using h
  simp only [go_sem]
  simp [sq,h0]
 ·have h0 : ¬ szS szVal d.l (l) < 0:=by simpa using h
  simp only [go_sem]
  simp [sq,h0]
theorem szSlotS_of (xs : List DSlot) (hx : ∀ x ∈ xs,∀ l,0 ≤ l → Ctr Tryz.prog 201 [.agg x.c,.c (.v (.int .i64 l))] [.val (.c (.v (.int .i64 (szSlot x l))))]) (l : Int) (hl : 0 ≤ l) : Ctr Tryz.prog 173 [.c (.sl (xs.map DSlot.c)),.c (.v (.int .i64 l))] [.val (.c (.v (.int .i64 (szS szSlot xs l))))]:=by
 refine Ctr.mk Tryz.call173 Tryz.func173 rfl mixed Tryz.ntmps173 Tryz.results173 (by kernel_rfl) rfl fun hw=>?_
 have hlen : xs.length ≤ 9223372036854775807:=by have:=hw.1.1; simpa [Go.maxLen] using this
 have hl2 : l ≤ 9223372036854775807:=i64_le hw.2.1
 simp only [go_sem,List.length_map,wrap_i64 (n:=l - xs.length) (by omega) (by omega)]
 refine cndC.mk (fun h=>?_) (fun h=>?_)
 ·have h' : l - xs.length < 0:=by simpa using h
  simp only [go_sem]
  simp [szS,sq,szI,h']
 ·have h' : ¬ l - xs.length < 0:=by simpa using h
  simp only [go_sem]
  refine LoopK.mk 0 [0,1,5] (A:=Nat × Int) (fun x=>⟨27,[(0,.c (.sl (xs.map DSlot.c))),(1,.c (.v (.int .i64 x.2))),(5,.c (.v (.int .i64 x.1)))],[]⟩) (fun x=>x.1 ≤ xs.length ∧ 0 ≤ x.2 ∧ szL szSlot (xs.drop x.1) x.2 = szS szSlot xs l) (fun x=>xs.length - x.1)
   (0,l - xs.length) ⟨⟨rfl,rfl⟩,rfl,Nat.zero_le _,by simp only; omega,by simp [szS,sq,szI,h']⟩ ?_
  rintro ⟨k,m⟩ ⟨hk,hm0,hm⟩
  simp only at hk hm hm0
  simp only [go_sem,List.length_map]
  refine cndC.mk (fun h=>?_) (fun h=>?_)
  ·have hk' : k < xs.length:=by simpa using h
   simp only [go_sem,map_at _ hk']
   refine CallK.mk _ (by simpa only [go_sem] using hx xs[k] (List.getElem_mem hk') m hm0) fun _=>?_
   simp only [go_sem]
   rw [List.drop_eq_getElem_cons hk'] at hm
   simp only [szL] at hm
   refine cndC.mk (fun h=>?_) (fun h=>?_)
   ·have h' : szSlot xs[k] m < 0:=by simpa using h
    simp only [go_sem]
    rw [sq_neg h'] at hm
    rw [hm]
   ·have h' : ¬ szSlot xs[k] m < 0:=by simpa using h
    rw [sq_pos h'] at hm
    simp only [go_sem,wrap_i64 (n:=(k : Int) + 1) (by omega) (by omega)]
    exact ⟨(k + 1,szSlot xs[k] m),⟨rfl,rfl⟩,rfl,⟨by simp only; omega,(by omega : (0 : Int) ≤ szSlot xs[k] m),hm⟩,by simp only; omega⟩
  ·have hk' : k = xs.length:=by simp at h; omega
   subst hk'
   simp only [go_sem]
   simp [szL] at hm
   rw [hm]
theorem szSlotS_spec (xs : List DSlot) (l : Int) (hl : 0 ≤ l) : Ctr Tryz.prog 173 [.c (.sl (xs.map DSlot.c)),.c (.v (.int .i64 l))] [.val (.c (.v (.int .i64 (szS szSlot xs l))))]:=szSlotS_of xs (fun x _ l hl=>szSlot_spec x l hl) l hl
theorem szChunk_spec (d : DChunk) (l : Int) (hl : 0 ≤ l) : Ctr Tryz.prog 141 [.agg d.c,.c (.v (.int .i64 l))] [.val (.c (.v (.int .i64 (szChunk d l))))]:=by
 refine Ctr.mk Tryz.call141 Tryz.func141 rfl mixed Tryz.ntmps141 Tryz.results141 (by kernel_rfl) rfl fun hw=>?_
 rw [szChunk_eq]
 simp only [go_sem]
 refine CallK.mk _ (by simpa only [go_sem] using szSlotS_spec d.l _ (by omega)) fun _=>?_
 simp only [go_sem]
 refine cndC.mk (fun h=>?_) (fun h=>?_)
 ·have h0 : szS szSlot d.l (l) < 0:=by simpa using h
  simp only [go_sem]
  simp [sq,h0]
 ·have h0 : ¬ szS szSlot d.l (l) < 0:=by simpa using h
  simp only [go_sem]
  simp [sq,h0]
theorem szBuf_spec (d : DBuf) (l : Int) (hl : 0 ≤ l) : Ctr Tryz.prog 95 [.agg d.c,.c (.v (.int .i64 l))] [.val (.c (.v (.int .i64 (szBuf d l))))]:=by
 refine Ctr.mk Tryz.call95 Tryz.func95 rfl mixed Tryz.ntmps95 Tryz.results95 (by kernel_rfl) rfl fun hw=>?_
 rw [szBuf_eq]
 simp only [go_sem]
 refine CallK.mk _ (by simpa only [go_sem] using szChunk_spec d.c0 _ (by omega)) fun _=>?_
 simp only [go_sem]
 refine cndC.mk (fun h=>?_) (fun h=>?_)
 ·have h0 : szChunk d.c0 (l) < 0:=by simpa using h
  simp only [go_sem]
  simp [sq,h0]
 ·have h0 : ¬ szChunk d.c0 (l) < 0:=by simpa using h
  simp only [go_sem]
  refine CallK.mk _ (by simpa only [go_sem] using szByteS_spec d.g _ (by omega)) fun _=>?_
  simp only [go_sem]
  refine cndC.mk (fun h=>?_) (fun h=>?_)
  ·have h1 : szI d.g.length (szChunk d.c0 (l)) < 0:=by simpa using h
   simp only [go_sem]
   simp [sq,h0,h1]
  ·have h1 : ¬ szI d.g.length (szChunk d.c0 (l)) < 0:=by simpa using h
   simp only [go_sem]
   simp [sq,h0,h1]
theorem szBufS_of (xs : List DBuf) (hx : ∀ x ∈ xs,∀ l,0 ≤ l → Ctr Tryz.prog 95 [.agg x.c,.c (.v (.int .i64 l))] [.val (.c (.v (.int .i64 (szBuf x l))))]) (l : Int) (hl : 0 ≤ l) : Ctr Tryz.prog 38 [.c (.sl (xs.map DBuf.c)),.c (.v (.int .i64 l))] [.val (.c (.v (.int .i64 (szS szBuf xs l))))]:=by
 refine Ctr.mk Tryz.call38 Tryz.func38 rfl mixed Tryz.ntmps38 Tryz.results38 (by kernel_rfl) rfl fun hw=>?_
 have hlen : xs.length ≤ 9223372036854775807:=by have:=hw.1.1; simpa [Go.maxLen] using this
 have hl2 : l ≤ 9223372036854775807:=i64_le hw.2.1
 simp only [go_sem,List.length_map,wrap_i64 (n:=l - xs.length) (by omega) (by omega)]
 refine cndC.mk (fun h=>?_) (fun h=>?_)
 ·have h' : l - xs.length < 0:=by simpa using h
  simp only [go_sem]
  simp [szS,sq,szI,h']
 ·have h' : ¬ l - xs.length < 0:=by simpa using h
  simp only [go_sem]
  refine LoopK.mk 0 [0,1,5] (A:=Nat × Int) (fun x=>⟨27,[(0,.c (.sl (xs.map DBuf.c))),(1,.c (.v (.int .i64 x.2))),(5,.c (.v (.int .i64 x.1)))],[]⟩) (fun x=>x.1 ≤ xs.length ∧ 0 ≤ x.2 ∧ szL szBuf (xs.drop x.1) x.2 = szS szBuf xs l) (fun x=>xs.length - x.1)
   (0,l - xs.length) ⟨⟨rfl,rfl⟩,rfl,Nat.zero_le _,by simp only; omega,by simp [szS,sq,szI,h']⟩ ?_
  rintro ⟨k,m⟩ ⟨hk,hm0,hm⟩
  simp only at hk hm hm0
  simp only [go_sem,List.length_map]
  refine cndC.mk (fun h=>?_) (fun h=>?_)
  ·have hk' : k < xs.length:=by simpa using h
   simp only [go_sem,map_at _ hk']
   refine CallK.mk _ (by simpa only [go_sem] using hx xs[k] (List.getElem_mem hk') m hm0) fun _=>?_
   simp only [go_sem]
   rw [List.drop_eq_getElem_cons hk'] at hm
   simp only [szL] at hm
   refine cndC.mk (fun h=>?_) (fun h=>?_)
   ·have h' : szBuf xs[k] m < 0:=by simpa using h
    simp only [go_sem]
    rw [sq_neg h'] at hm
    rw [hm]
   ·have h' : ¬ szBuf xs[k] m < 0:=by simpa using h
    rw [sq_pos h'] at hm
    simp only [go_sem,wrap_i64 (n:=(k : Int) + 1) (by omega) (by omega)]
    exact ⟨(k + 1,szBuf xs[k] m),⟨rfl,rfl⟩,rfl,⟨by simp only; omega,(by omega : (0 : Int) ≤ szBuf xs[k] m),hm⟩,by simp only; omega⟩
  ·have hk' : k = xs.length:=by simp at h; omega
   subst hk'
   simp only [go_sem]
   simp [szL] at hm
   rw [hm]
theorem szBufS_spec (xs : List DBuf) (l : Int) (hl : 0 ≤ l) : Ctr Tryz.prog 38 [.c (.sl (xs.map DBuf.c)),.c (.v (.int .i64 l))] [.val (.c (.v (.int .i64 (szS szBuf xs l))))]:=szBufS_of xs (fun x _ l hl=>szBuf_spec x l hl) l hl
theorem szDeadS_spec (xs : List DDead) (l : Int) (hl : 0 ≤ l) : Ctr Tryz.prog 40 [.c (.sl (xs.map DDead.c)),.c (.v (.int .i64 l))] [.val (.c (.v (.int .i64 (szI xs.length l))))]:=by
 refine Ctr.mk Tryz.call40 Tryz.func40 rfl mixed Tryz.ntmps40 Tryz.results40 (by kernel_rfl) rfl fun hw=>?_
 have hlen : xs.length ≤ 9223372036854775807:=by have:=hw.1.1; simpa [Go.maxLen] using this
 have hl2 : l ≤ 9223372036854775807:=i64_le hw.2.1
 simp only [go_sem,List.length_map,wrap_i64 (n:=l - xs.length) (by omega) (by omega)]
 refine cndC.mk (fun h=>?_) (fun h=>?_)
 ·have h' : l - xs.length < 0:=by simpa using h
  simp only [go_sem]
  simp [szI,h']
 ·have h' : ¬ l - xs.length < 0:=by simpa using h
  simp only [go_sem]
  simp [szI,h']
theorem szRefS_spec (xs : List DRef) (l : Int) (hl : 0 ≤ l) : Ctr Tryz.prog 94 [.c (.sl (xs.map DRef.c)),.c (.v (.int .i64 l))] [.val (.c (.v (.int .i64 (szI xs.length l))))]:=by
 refine Ctr.mk Tryz.call94 Tryz.func94 rfl mixed Tryz.ntmps94 Tryz.results94 (by kernel_rfl) rfl fun hw=>?_
 have hlen : xs.length ≤ 9223372036854775807:=by have:=hw.1.1; simpa [Go.maxLen] using this
 have hl2 : l ≤ 9223372036854775807:=i64_le hw.2.1
 simp only [go_sem,List.length_map,wrap_i64 (n:=l - xs.length) (by omega) (by omega)]
 refine cndC.mk (fun h=>?_) (fun h=>?_)
 ·have h' : l - xs.length < 0:=by simpa using h
  simp only [go_sem]
  simp [szI,h']
 ·have h' : ¬ l - xs.length < 0:=by simpa using h
  simp only [go_sem]
  simp [szI,h']
theorem szDir_spec (d : DDir) (l : Int) (hl : 0 ≤ l) : Ctr Tryz.prog 37 [.agg d.c,.c (.v (.int .i64 l))] [.val (.c (.v (.int .i64 (szDir d l))))]:=by
 refine Ctr.mk Tryz.call37 Tryz.func37 rfl mixed Tryz.ntmps37 Tryz.results37 (by kernel_rfl) rfl fun hw=>?_
 rw [szDir_eq]
 simp only [go_sem]
 refine CallK.mk _ (by simpa only [go_sem] using szRefS_spec d.l _ (by omega)) fun _=>?_
 simp only [go_sem]
 refine cndC.mk (fun h=>?_) (fun h=>?_)
 ·have h0 : szI d.l.length (l) < 0:=by simpa using h
  simp only [go_sem]
  simp [sq,h0]
 ·have h0 : ¬ szI d.l.length (l) < 0:=by simpa using h
  simp only [go_sem]
  simp [sq,h0]
theorem szTask_spec (d : DTask) (l : Int) (hl : 0 ≤ l) : Ctr Tryz.prog 96 [.agg d.c,.c (.v (.int .i64 l))] [.val (.c (.v (.int .i64 (szTask d l))))]:=by
 refine Ctr.mk Tryz.call96 Tryz.func96 rfl mixed Tryz.ntmps96 Tryz.results96 (by kernel_rfl) rfl fun hw=>?_
 rw [szTask_eq]
 simp only [go_sem]
 refine CallK.mk _ (by simpa only [go_sem] using szValS_spec d.r _ (by omega)) fun _=>?_
 simp only [go_sem]
 refine cndC.mk (fun h=>?_) (fun h=>?_)
 ·have h0 : szS szVal d.r (l) < 0:=by simpa using h
  simp only [go_sem]
  simp [sq,h0]
 ·have h0 : ¬ szS szVal d.r (l) < 0:=by simpa using h
  simp only [go_sem]
  refine CallK.mk _ (by simpa only [go_sem] using szQuery_spec d.q _ (by omega)) fun _=>?_
  simp only [go_sem]
  refine cndC.mk (fun h=>?_) (fun h=>?_)
  ·have h1 : szQuery d.q (szS szVal d.r (l)) < 0:=by simpa using h
   simp only [go_sem]
   simp [sq,h0,h1]
  ·have h1 : ¬ szQuery d.q (szS szVal d.r (l)) < 0:=by simpa using h
   simp only [go_sem]
   refine CallK.mk _ (by simpa only [go_sem] using szRefS_spec d.l _ (by omega)) fun _=>?_
   simp only [go_sem]
   refine cndC.mk (fun h=>?_) (fun h=>?_)
   ·have h2 : szI d.l.length (szQuery d.q (szS szVal d.r (l))) < 0:=by simpa using h
    simp only [go_sem]
    simp [sq,h0,h1,h2]
   ·have h2 : ¬ szI d.l.length (szQuery d.q (szS szVal d.r (l))) < 0:=by simpa using h
    simp only [go_sem]
    refine CallK.mk _ (by simpa only [go_sem] using szRowS_spec d.got _ (by omega)) fun _=>?_
    simp only [go_sem]
    refine cndC.mk (fun h=>?_) (fun h=>?_)
    ·have h3 : szS szRow d.got (szI d.l.length (szQuery d.q (szS szVal d.r (l)))) < 0:=by simpa using h
     simp only [go_sem]
     simp [sq,h0,h1,h2,h3]
    ·have h3 : ¬ szS szRow d.got (szI d.l.length (szQuery d.q (szS szVal d.r (l)))) < 0:=by simpa using h
     simp only [go_sem]
     simp [sq,h0,h1,h2,h3]
theorem szTaskS_of (xs : List DTask) (hx : ∀ x ∈ xs,∀ l,0 ≤ l → Ctr Tryz.prog 96 [.agg x.c,.c (.v (.int .i64 l))] [.val (.c (.v (.int .i64 (szTask x l))))]) (l : Int) (hl : 0 ≤ l) : Ctr Tryz.prog 41 [.c (.sl (xs.map DTask.c)),.c (.v (.int .i64 l))] [.val (.c (.v (.int .i64 (szS szTask xs l))))]:=by
 refine Ctr.mk Tryz.call41 Tryz.func41 rfl mixed Tryz.ntmps41 Tryz.results41 (by kernel_rfl) rfl fun hw=>?_
 have hlen : xs.length ≤ 9223372036854775807:=by have:=hw.1.1; simpa [Go.maxLen] using this
 have hl2 : l ≤ 9223372036854775807:=i64_le hw.2.1
 simp only [go_sem,List.length_map,wrap_i64 (n:=l - xs.length) (by omega) (by omega)]
 refine cndC.mk (fun h=>?_) (fun h=>?_)
 ·have h' : l - xs.length < 0:=by simpa using h
  simp only [go_sem]
  simp [szS,sq,szI,h']
 ·have h' : ¬ l - xs.length < 0:=by simpa using h
  simp only [go_sem]
  refine LoopK.mk 0 [0,1,5] (A:=Nat × Int) (fun x=>⟨27,[(0,.c (.sl (xs.map DTask.c))),(1,.c (.v (.int .i64 x.2))),(5,.c (.v (.int .i64 x.1)))],[]⟩) (fun x=>x.1 ≤ xs.length ∧ 0 ≤ x.2 ∧ szL szTask (xs.drop x.1) x.2 = szS szTask xs l) (fun x=>xs.length - x.1)
   (0,l - xs.length) ⟨⟨rfl,rfl⟩,rfl,Nat.zero_le _,by simp only; omega,by simp [szS,sq,szI,h']⟩ ?_
  rintro ⟨k,m⟩ ⟨hk,hm0,hm⟩
  simp only at hk hm hm0
  simp only [go_sem,List.length_map]
  refine cndC.mk (fun h=>?_) (fun h=>?_)
  ·have hk' : k < xs.length:=by simpa using h
   simp only [go_sem,map_at _ hk']
   refine CallK.mk _ (by simpa only [go_sem] using hx xs[k] (List.getElem_mem hk') m hm0) fun _=>?_
   simp only [go_sem]
   rw [List.drop_eq_getElem_cons hk'] at hm
   simp only [szL] at hm
   refine cndC.mk (fun h=>?_) (fun h=>?_)
   ·have h' : szTask xs[k] m < 0:=by simpa using h
    simp only [go_sem]
    rw [sq_neg h'] at hm
    rw [hm]
   ·have h' : ¬ szTask xs[k] m < 0:=by simpa using h
    rw [sq_pos h'] at hm
    simp only [go_sem,wrap_i64 (n:=(k : Int) + 1) (by omega) (by omega)]
    exact ⟨(k + 1,szTask xs[k] m),⟨rfl,rfl⟩,rfl,⟨by simp only; omega,(by omega : (0 : Int) ≤ szTask xs[k] m),hm⟩,by simp only; omega⟩
  ·have hk' : k = xs.length:=by simp at h; omega
   subst hk'
   simp only [go_sem]
   simp [szL] at hm
   rw [hm]
theorem szTaskS_spec (xs : List DTask) (l : Int) (hl : 0 ≤ l) : Ctr Tryz.prog 41 [.c (.sl (xs.map DTask.c)),.c (.v (.int .i64 l))] [.val (.c (.v (.int .i64 (szS szTask xs l))))]:=szTaskS_of xs (fun x _ l hl=>szTask_spec x l hl) l hl
theorem szDeed_spec (d : DDeed) (l : Int) (hl : 0 ≤ l) : Ctr Tryz.prog 97 [.agg d.c,.c (.v (.int .i64 l))] [.val (.c (.v (.int .i64 (szDeed d l))))]:=by
 refine Ctr.mk Tryz.call97 Tryz.func97 rfl mixed Tryz.ntmps97 Tryz.results97 (by kernel_rfl) rfl fun hw=>?_
 rw [szDeed_eq]
 simp only [go_sem]
 refine CallK.mk _ (by simpa only [go_sem] using szValS_spec d.r _ (by omega)) fun _=>?_
 simp only [go_sem]
 refine cndC.mk (fun h=>?_) (fun h=>?_)
 ·have h0 : szS szVal d.r (l) < 0:=by simpa using h
  simp only [go_sem]
  simp [sq,h0]
 ·have h0 : ¬ szS szVal d.r (l) < 0:=by simpa using h
  simp only [go_sem]
  refine CallK.mk _ (by simpa only [go_sem] using szQuery_spec d.q _ (by omega)) fun _=>?_
  simp only [go_sem]
  refine cndC.mk (fun h=>?_) (fun h=>?_)
  ·have h1 : szQuery d.q (szS szVal d.r (l)) < 0:=by simpa using h
   simp only [go_sem]
   simp [sq,h0,h1]
  ·have h1 : ¬ szQuery d.q (szS szVal d.r (l)) < 0:=by simpa using h
   simp only [go_sem]
   refine CallK.mk _ (by simpa only [go_sem] using szResult_spec d.res _ (by omega)) fun _=>?_
   simp only [go_sem]
   refine cndC.mk (fun h=>?_) (fun h=>?_)
   ·have h2 : szResult d.res (szQuery d.q (szS szVal d.r (l))) < 0:=by simpa using h
    simp only [go_sem]
    simp [sq,h0,h1,h2]
   ·have h2 : ¬ szResult d.res (szQuery d.q (szS szVal d.r (l))) < 0:=by simpa using h
    simp only [go_sem]
    simp [sq,h0,h1,h2]
theorem szDeedS_of (xs : List DDeed) (hx : ∀ x ∈ xs,∀ l,0 ≤ l → Ctr Tryz.prog 97 [.agg x.c,.c (.v (.int .i64 l))] [.val (.c (.v (.int .i64 (szDeed x l))))]) (l : Int) (hl : 0 ≤ l) : Ctr Tryz.prog 42 [.c (.sl (xs.map DDeed.c)),.c (.v (.int .i64 l))] [.val (.c (.v (.int .i64 (szS szDeed xs l))))]:=by
 refine Ctr.mk Tryz.call42 Tryz.func42 rfl mixed Tryz.ntmps42 Tryz.results42 (by kernel_rfl) rfl fun hw=>?_
 have hlen : xs.length ≤ 9223372036854775807:=by have:=hw.1.1; simpa [Go.maxLen] using this
 have hl2 : l ≤ 9223372036854775807:=i64_le hw.2.1
 simp only [go_sem,List.length_map,wrap_i64 (n:=l - xs.length) (by omega) (by omega)]
 refine cndC.mk (fun h=>?_) (fun h=>?_)
 ·have h' : l - xs.length < 0:=by simpa using h
  simp only [go_sem]
  simp [szS,sq,szI,h']
 ·have h' : ¬ l - xs.length < 0:=by simpa using h
  simp only [go_sem]
  refine LoopK.mk 0 [0,1,5] (A:=Nat × Int) (fun x=>⟨27,[(0,.c (.sl (xs.map DDeed.c))),(1,.c (.v (.int .i64 x.2))),(5,.c (.v (.int .i64 x.1)))],[]⟩) (fun x=>x.1 ≤ xs.length ∧ 0 ≤ x.2 ∧ szL szDeed (xs.drop x.1) x.2 = szS szDeed xs l) (fun x=>xs.length - x.1)
   (0,l - xs.length) ⟨⟨rfl,rfl⟩,rfl,Nat.zero_le _,by simp only; omega,by simp [szS,sq,szI,h']⟩ ?_
  rintro ⟨k,m⟩ ⟨hk,hm0,hm⟩
  simp only at hk hm hm0
  simp only [go_sem,List.length_map]
  refine cndC.mk (fun h=>?_) (fun h=>?_)
  ·have hk' : k < xs.length:=by simpa using h
   simp only [go_sem,map_at _ hk']
   refine CallK.mk _ (by simpa only [go_sem] using hx xs[k] (List.getElem_mem hk') m hm0) fun _=>?_
   simp only [go_sem]
   rw [List.drop_eq_getElem_cons hk'] at hm
   simp only [szL] at hm
   refine cndC.mk (fun h=>?_) (fun h=>?_)
   ·have h' : szDeed xs[k] m < 0:=by simpa using h
    simp only [go_sem]
    rw [sq_neg h'] at hm
    rw [hm]
   ·have h' : ¬ szDeed xs[k] m < 0:=by simpa using h
    rw [sq_pos h'] at hm
    simp only [go_sem,wrap_i64 (n:=(k : Int) + 1) (by omega) (by omega)]
    exact ⟨(k + 1,szDeed xs[k] m),⟨rfl,rfl⟩,rfl,⟨by simp only; omega,(by omega : (0 : Int) ≤ szDeed xs[k] m),hm⟩,by simp only; omega⟩
  ·have hk' : k = xs.length:=by simp at h; omega
   subst hk'
   simp only [go_sem]
   simp [szL] at hm
   rw [hm]
theorem szDeedS_spec (xs : List DDeed) (l : Int) (hl : 0 ≤ l) : Ctr Tryz.prog 42 [.c (.sl (xs.map DDeed.c)),.c (.v (.int .i64 l))] [.val (.c (.v (.int .i64 (szS szDeed xs l))))]:=szDeedS_of xs (fun x _ l hl=>szDeed_spec x l hl) l hl
theorem szConf_spec (d : DConf) (l : Int) (hl : 0 ≤ l) : Ctr Tryz.prog 36 [.agg d.c,.c (.v (.int .i64 l))] [.val (.c (.v (.int .i64 (szConf d l))))]:=by
 refine Ctr.mk Tryz.call36 Tryz.func36 rfl mixed Tryz.ntmps36 Tryz.results36 (by kernel_rfl) rfl fun hw=>?_
 rw [szConf_eq]
 simp only [go_sem]
 refine CallK.mk _ (by simpa only [go_sem] using szIntS_spec d.cols _ (by omega)) fun _=>?_
 simp only [go_sem]
 refine cndC.mk (fun h=>?_) (fun h=>?_)
 ·have h0 : szI d.cols.length (l) < 0:=by simpa using h
  simp only [go_sem]
  simp [sq,h0]
 ·have h0 : ¬ szI d.cols.length (l) < 0:=by simpa using h
  simp only [go_sem]
  simp [sq,h0]
theorem szWorld_spec (d : DWorld) (l : Int) (hl : 0 ≤ l) : Ctr Tryz.prog 9 [.agg d.c,.c (.v (.int .i64 l))] [.val (.c (.v (.int .i64 (szWorld d l))))]:=by
 refine Ctr.mk Tryz.call9 Tryz.func9 rfl mixed Tryz.ntmps9 Tryz.results9 (by kernel_rfl) rfl fun hw=>?_
 rw [szWorld_eq]
 simp only [go_sem]
 refine CallK.mk _ (by simpa only [go_sem] using szConf_spec d.c0 _ (by omega)) fun _=>?_
 simp only [go_sem]
 refine cndC.mk (fun h=>?_) (fun h=>?_)
 ·have h0 : szConf d.c0 (l) < 0:=by simpa using h
  simp only [go_sem]
  simp [sq,h0]
 ·have h0 : ¬ szConf d.c0 (l) < 0:=by simpa using h
  simp only [go_sem]
  refine CallK.mk _ (by simpa only [go_sem] using szDir_spec d.d _ (by omega)) fun _=>?_
  simp only [go_sem]
  refine cndC.mk (fun h=>?_) (fun h=>?_)
  ·have h1 : szDir d.d (szConf d.c0 (l)) < 0:=by simpa using h
   simp only [go_sem]
   simp [sq,h0,h1]
  ·have h1 : ¬ szDir d.d (szConf d.c0 (l)) < 0:=by simpa using h
   simp only [go_sem]
   refine CallK.mk _ (by simpa only [go_sem] using szBufS_spec d.b _ (by omega)) fun _=>?_
   simp only [go_sem]
   refine cndC.mk (fun h=>?_) (fun h=>?_)
   ·have h2 : szS szBuf d.b (szDir d.d (szConf d.c0 (l))) < 0:=by simpa using h
    simp only [go_sem]
    simp [sq,h0,h1,h2]
   ·have h2 : ¬ szS szBuf d.b (szDir d.d (szConf d.c0 (l))) < 0:=by simpa using h
    simp only [go_sem]
    refine CallK.mk _ (by simpa only [go_sem] using szIntS_spec d.m _ (by omega)) fun _=>?_
    simp only [go_sem]
    refine cndC.mk (fun h=>?_) (fun h=>?_)
    ·have h3 : szI d.m.length (szS szBuf d.b (szDir d.d (szConf d.c0 (l)))) < 0:=by simpa using h
     simp only [go_sem]
     simp [sq,h0,h1,h2,h3]
    ·have h3 : ¬ szI d.m.length (szS szBuf d.b (szDir d.d (szConf d.c0 (l)))) < 0:=by simpa using h
     simp only [go_sem]
     refine CallK.mk _ (by simpa only [go_sem] using szDeadS_spec d.x _ (by omega)) fun _=>?_
     simp only [go_sem]
     refine cndC.mk (fun h=>?_) (fun h=>?_)
     ·have h4 : szI d.x.length (szI d.m.length (szS szBuf d.b (szDir d.d (szConf d.c0 (l))))) < 0:=by simpa using h
      simp only [go_sem]
      simp [sq,h0,h1,h2,h3,h4]
     ·have h4 : ¬ szI d.x.length (szI d.m.length (szS szBuf d.b (szDir d.d (szConf d.c0 (l))))) < 0:=by simpa using h
      simp only [go_sem]
      refine CallK.mk _ (by simpa only [go_sem] using szIntS_spec d.p _ (by omega)) fun _=>?_
      simp only [go_sem]
      refine cndC.mk (fun h=>?_) (fun h=>?_)
      ·have h5 : szI d.p.length (szI d.x.length (szI d.m.length (szS szBuf d.b (szDir d.d (szConf d.c0 (l)))))) < 0:=by simpa using h
       simp only [go_sem]
       simp [sq,h0,h1,h2,h3,h4,h5]
      ·have h5 : ¬ szI d.p.length (szI d.x.length (szI d.m.length (szS szBuf d.b (szDir d.d (szConf d.c0 (l)))))) < 0:=by simpa using h
       simp only [go_sem]
       refine CallK.mk _ (by simpa only [go_sem] using szTaskS_spec d.tasks _ (by omega)) fun _=>?_
       simp only [go_sem]
       refine cndC.mk (fun h=>?_) (fun h=>?_)
       ·have h6 : szS szTask d.tasks (szI d.p.length (szI d.x.length (szI d.m.length (szS szBuf d.b (szDir d.d (szConf d.c0 (l))))))) < 0:=by simpa using h
        simp only [go_sem]
        simp [sq,h0,h1,h2,h3,h4,h5,h6]
       ·have h6 : ¬ szS szTask d.tasks (szI d.p.length (szI d.x.length (szI d.m.length (szS szBuf d.b (szDir d.d (szConf d.c0 (l))))))) < 0:=by simpa using h
        simp only [go_sem]
        refine CallK.mk _ (by simpa only [go_sem] using szDeedS_spec d.deeds _ (by omega)) fun _=>?_
        simp only [go_sem]
        refine cndC.mk (fun h=>?_) (fun h=>?_)
        ·have h7 : szS szDeed d.deeds (szS szTask d.tasks (szI d.p.length (szI d.x.length (szI d.m.length (szS szBuf d.b (szDir d.d (szConf d.c0 (l)))))))) < 0:=by simpa using h
         simp only [go_sem]
         simp [sq,h0,h1,h2,h3,h4,h5,h6,h7]
        ·have h7 : ¬ szS szDeed d.deeds (szS szTask d.tasks (szI d.p.length (szI d.x.length (szI d.m.length (szS szBuf d.b (szDir d.d (szConf d.c0 (l)))))))) < 0:=by simpa using h
         simp only [go_sem]
         simp [sq,h0,h1,h2,h3,h4,h5,h6,h7]
theorem toIntS_own (xs : List Int) (hf : xs.length ≤ 1048576) : Ctr Tryz.prog 49 [.c (.sl (xs.map intC))] [.own 3 1 (xs.map intC) true]:=by
 refine Ctr.mk Tryz.call49 Tryz.func49 rfl mixed Tryz.ntmps49 Tryz.results49 (by kernel_rfl) rfl fun _=>?_
 have hc : (0 : Int) ≤ xs.length ∧ (xs.length : Int) ≤ xs.length ∧ (xs.length : Int) ≤ 2147483648:=by omega
 simp only [go_sem,List.length_map,hc,List.length_replicate]
 have hg:=fun k=>@trim1_grow _ intC intC.pure [.v (.int .i64 0)] rfl xs k 3 1 true true
 refine LoopK.mk 1 [0,3,4] (A:=Nat) (fun k=>⟨22,[(0,.c (.sl (xs.map intC))),(3,.c (.ref 0)),(4,.c (.v (.int .i64 k)))],[⟨3,1,grow (xs.map intC) [.v (.int .i64 0)] k,true,true⟩]⟩) (fun k=>k ≤ xs.length) (fun k=>xs.length - k) 0 ⟨⟨rfl,by have:=hg 0; simp only [grow_zero,List.length_map] at this; exact this⟩,by simp only [grow_zero,List.length_map]; rfl,Nat.zero_le _⟩ ?_
 intro k hk
 simp only [go_sem,List.length_map]
 refine cndC.mk (fun h=>?_) (fun h=>?_)
 ·have hk' : k < xs.length:=by simpa using h
  have hset:=@grow_setm _ intC xs [.v (.int .i64 0)] k hk'
  simp only [go_sem] at hset
  simp only [go_sem,map_at _ hk',grow_lenm hk,grow_atm hk',hk',hset,wrap_i64 (n:=(k : Int) + 1) (by omega) (by omega)]
  exact ⟨k + 1,⟨rfl,hg _⟩,rfl,by omega,by first | omega | (simp only; omega)⟩
 ·have hk' : k = xs.length:=by simp at h; omega
  subst hk'
  rw [grow_allm]
  simp only [go_sem]
  simp [nrE_of_pure (pureE_map intC.pure)]
theorem toByteS_own (xs : List Int) (hf : xs.length ≤ 1048576) : Ctr Tryz.prog 152 [.c (.sl (xs.map byteC))] [.own 5 1 (xs.map byteC) true]:=by
 refine Ctr.mk Tryz.call152 Tryz.func152 rfl mixed Tryz.ntmps152 Tryz.results152 (by kernel_rfl) rfl fun _=>?_
 have hc : (0 : Int) ≤ xs.length ∧ (xs.length : Int) ≤ xs.length ∧ (xs.length : Int) ≤ 2147483648:=by omega
 simp only [go_sem,List.length_map,hc,List.length_replicate]
 have hg:=fun k=>@trim1_grow _ byteC byteC.pure [.v (.int .u8 0)] rfl xs k 5 1 true true
 refine LoopK.mk 1 [0,3,4] (A:=Nat) (fun k=>⟨22,[(0,.c (.sl (xs.map byteC))),(3,.c (.ref 0)),(4,.c (.v (.int .i64 k)))],[⟨5,1,grow (xs.map byteC) [.v (.int .u8 0)] k,true,true⟩]⟩) (fun k=>k ≤ xs.length) (fun k=>xs.length - k) 0 ⟨⟨rfl,by have:=hg 0; simp only [grow_zero,List.length_map] at this; exact this⟩,by simp only [grow_zero,List.length_map]; rfl,Nat.zero_le _⟩ ?_
 intro k hk
 simp only [go_sem,List.length_map]
 refine cndC.mk (fun h=>?_) (fun h=>?_)
 ·have hk' : k < xs.length:=by simpa using h
  have hset:=@grow_setm _ byteC xs [.v (.int .u8 0)] k hk'
  simp only [go_sem] at hset
  simp only [go_sem,map_at _ hk',grow_lenm hk,grow_atm hk',hk',hset,wrap_i64 (n:=(k : Int) + 1) (by omega) (by omega)]
  exact ⟨k + 1,⟨rfl,hg _⟩,rfl,by omega,by first | omega | (simp only; omega)⟩
 ·have hk' : k = xs.length:=by simp at h; omega
  subst hk'
  rw [grow_allm]
  simp only [go_sem]
  simp [nrE_of_pure (pureE_map byteC.pure)]
theorem toIntS_spec (xs : List Int) (hf : xs.length ≤ 1048576) : Ctr Tryz.prog 49 [.c (.sl (xs.map intC))] [.val (.c (.sl (xs.map intC)))]:=(toIntS_own xs hf).val (pureE_map intC.pure)
theorem toByteS_spec (xs : List Int) (hf : xs.length ≤ 1048576) : Ctr Tryz.prog 152 [.c (.sl (xs.map byteC))] [.val (.c (.sl (xs.map byteC)))]:=(toByteS_own xs hf).val (pureE_map byteC.pure)
theorem toVal_spec (d : DVal) (hf : fitVal d) : Ctr Tryz.prog 135 [.agg d.c] [.val (.agg d.c)]:=by
 rw [fitVal_eq] at hf
 have f0:=hf
 refine Ctr.mk Tryz.call135 Tryz.func135 rfl mixed Tryz.ntmps135 Tryz.results135 (by kernel_rfl) rfl fun _=>?_
 simp only [go_sem]
theorem toValS_own (xs : List DVal) (hf : xs.length ≤ 1048576) (hx : ∀ x ∈ xs,Ctr Tryz.prog 135 [.agg x.c] [.val (.agg x.c)]) : Ctr Tryz.prog 153 [.c (.sl (xs.map DVal.c))] [.own 72 3 (xs.map DVal.c) true]:=by
 refine Ctr.mk Tryz.call153 Tryz.func153 rfl mixed Tryz.ntmps153 Tryz.results153 (by kernel_rfl) rfl fun _=>?_
 have hc : (0 : Int) ≤ xs.length ∧ (xs.length : Int) ≤ xs.length ∧ (xs.length : Int) ≤ 2147483648:=by omega
 simp only [go_sem,List.length_map,hc,List.length_replicate]
 have hg:=fun k=>@trim1_grow _ DVal.c DVal.pure [.v (.int .i64 0),.v (.int .i64 0),.v (.string ByteArray.empty)] rfl xs k 72 3 true true
 refine LoopK.mk 1 [0,3,4] (A:=Nat) (fun k=>⟨23,[(0,.c (.sl (xs.map DVal.c))),(3,.c (.ref 0)),(4,.c (.v (.int .i64 k)))],[⟨72,3,grow (xs.map DVal.c) [.v (.int .i64 0),.v (.int .i64 0),.v (.string ByteArray.empty)] k,true,true⟩]⟩) (fun k=>k ≤ xs.length) (fun k=>xs.length - k) 0 ⟨⟨rfl,by have:=hg 0; simp only [grow_zero,List.length_map] at this; exact this⟩,by simp only [grow_zero,List.length_map]; rfl,Nat.zero_le _⟩ ?_
 intro k hk
 simp only [go_sem,List.length_map]
 refine cndC.mk (fun h=>?_) (fun h=>?_)
 ·have hk' : k < xs.length:=by simpa using h
  have hset:=@grow_setm _ DVal.c xs [.v (.int .i64 0),.v (.int .i64 0),.v (.string ByteArray.empty)] k hk'
  simp only [go_sem] at hset
  simp only [go_sem,map_at _ hk',grow_lenm hk,grow_atm hk',hk',hset,wrap_i64 (n:=(k : Int) + 1) (by omega) (by omega)]
  refine CallK.mk _ (by simpa only [go_sem] using hx xs[k] (List.getElem_mem hk')) fun _=>?_
  simp only [go_sem,map_at _ hk',grow_lenm hk,grow_atm hk',hk',hset,wrap_i64 (n:=(k : Int) + 1) (by omega) (by omega)]
  exact ⟨k + 1,⟨rfl,hg _⟩,rfl,by omega,by first | omega | (simp only; omega)⟩
 ·have hk' : k = xs.length:=by simp at h; omega
  subst hk'
  rw [grow_allm]
  simp only [go_sem]
  simp [nrE_of_pure (pureE_map DVal.pure)]
theorem toValS_spec (xs : List DVal) (hf : fitS fitVal xs) : Ctr Tryz.prog 153 [.c (.sl (xs.map DVal.c))] [.val (.c (.sl (xs.map DVal.c)))]:=(toValS_own xs hf.1 fun x hx=>toVal_spec x (hf.2 x hx)).val (pureE_map DVal.pure)
theorem toRow_spec (d : DRow) (hf : fitRow d) : Ctr Tryz.prog 185 [.agg d.c] [.val (.agg d.c)]:=by
 rw [fitRow_eq] at hf
 have f0:=hf
 refine Ctr.mk Tryz.call185 Tryz.func185 rfl mixed Tryz.ntmps185 Tryz.results185 (by kernel_rfl) rfl fun _=>?_
 simp only [go_sem]
 refine CallK.mk _ (by simpa only [go_sem] using toValS_spec d.l f0) fun _=>?_
 simp only [go_sem]
theorem toRowS_own (xs : List DRow) (hf : xs.length ≤ 1048576) (hx : ∀ x ∈ xs,Ctr Tryz.prog 185 [.agg x.c] [.val (.agg x.c)]) : Ctr Tryz.prog 154 [.c (.sl (xs.map DRow.c))] [.own 121 2 (xs.map DRow.c) true]:=by
 refine Ctr.mk Tryz.call154 Tryz.func154 rfl mixed Tryz.ntmps154 Tryz.results154 (by kernel_rfl) rfl fun _=>?_
 have hc : (0 : Int) ≤ xs.length ∧ (xs.length : Int) ≤ xs.length ∧ (xs.length : Int) ≤ 2147483648:=by omega
 simp only [go_sem,List.length_map,hc,List.length_replicate]
 have hg:=fun k=>@trim1_grow _ DRow.c DRow.pure [.v (.int .i64 0),.v (.slice none 0 0)] rfl xs k 121 2 true true
 refine LoopK.mk 1 [0,3,4] (A:=Nat) (fun k=>⟨23,[(0,.c (.sl (xs.map DRow.c))),(3,.c (.ref 0)),(4,.c (.v (.int .i64 k)))],[⟨121,2,grow (xs.map DRow.c) [.v (.int .i64 0),.v (.slice none 0 0)] k,true,true⟩]⟩) (fun k=>k ≤ xs.length) (fun k=>xs.length - k) 0 ⟨⟨rfl,by have:=hg 0; simp only [grow_zero,List.length_map] at this; exact this⟩,by simp only [grow_zero,List.length_map]; rfl,Nat.zero_le _⟩ ?_
 intro k hk
 simp only [go_sem,List.length_map]
 refine cndC.mk (fun h=>?_) (fun h=>?_)
 ·have hk' : k < xs.length:=by simpa using h
  have hset:=@grow_setm _ DRow.c xs [.v (.int .i64 0),.v (.slice none 0 0)] k hk'
  simp only [go_sem] at hset
  simp only [go_sem,map_at _ hk',grow_lenm hk,grow_atm hk',hk',hset,wrap_i64 (n:=(k : Int) + 1) (by omega) (by omega)]
  refine CallK.mk _ (by simpa only [go_sem] using hx xs[k] (List.getElem_mem hk')) fun _=>?_
  simp only [go_sem,map_at _ hk',grow_lenm hk,grow_atm hk',hk',hset,wrap_i64 (n:=(k : Int) + 1) (by omega) (by omega)]
  exact ⟨k + 1,⟨rfl,hg _⟩,rfl,by omega,by first | omega | (simp only; omega)⟩
 ·have hk' : k = xs.length:=by simp at h; omega
  subst hk'
  rw [grow_allm]
  simp only [go_sem]
  simp [nrE_of_pure (pureE_map DRow.pure)]
theorem toRowS_spec (xs : List DRow) (hf : fitS fitRow xs) : Ctr Tryz.prog 154 [.c (.sl (xs.map DRow.c))] [.val (.c (.sl (xs.map DRow.c)))]:=(toRowS_own xs hf.1 fun x hx=>toRow_spec x (hf.2 x hx)).val (pureE_map DRow.pure)
theorem toPredS_own (xs : List DPred) (hf : xs.length ≤ 1048576) (hx : ∀ x ∈ xs,Ctr Tryz.prog 89 [.agg x.c] [.val (.agg x.c)]) : Ctr Tryz.prog 136 [.c (.sl (xs.map DPred.c))] [.own 78 7 (xs.map DPred.c) true]:=by
 refine Ctr.mk Tryz.call136 Tryz.func136 rfl mixed Tryz.ntmps136 Tryz.results136 (by kernel_rfl) rfl fun _=>?_
 have hc : (0 : Int) ≤ xs.length ∧ (xs.length : Int) ≤ xs.length ∧ (xs.length : Int) ≤ 2147483648:=by omega
 simp only [go_sem,List.length_map,hc,List.length_replicate]
 have hg:=fun k=>@trim1_grow _ DPred.c DPred.pure [.v (.int .i64 0),.v (.int .i64 0),.v (.int .i64 0),.v (.int .i64 0),.v (.int .i64 0),.v (.string ByteArray.empty),.v (.slice none 0 0)] rfl xs k 78 7 true true
 refine LoopK.mk 1 [0,3,4] (A:=Nat) (fun k=>⟨23,[(0,.c (.sl (xs.map DPred.c))),(3,.c (.ref 0)),(4,.c (.v (.int .i64 k)))],[⟨78,7,grow (xs.map DPred.c) [.v (.int .i64 0),.v (.int .i64 0),.v (.int .i64 0),.v (.int .i64 0),.v (.int .i64 0),.v (.string ByteArray.empty),.v (.slice none 0 0)] k,true,true⟩]⟩) (fun k=>k ≤ xs.length) (fun k=>xs.length - k) 0 ⟨⟨rfl,by have:=hg 0; simp only [grow_zero,List.length_map] at this; exact this⟩,by simp only [grow_zero,List.length_map]; rfl,Nat.zero_le _⟩ ?_
 intro k hk
 simp only [go_sem,List.length_map]
 refine cndC.mk (fun h=>?_) (fun h=>?_)
 ·have hk' : k < xs.length:=by simpa using h
  have hset:=@grow_setm _ DPred.c xs [.v (.int .i64 0),.v (.int .i64 0),.v (.int .i64 0),.v (.int .i64 0),.v (.int .i64 0),.v (.string ByteArray.empty),.v (.slice none 0 0)] k hk'
  simp only [go_sem] at hset
  simp only [go_sem,map_at _ hk',grow_lenm hk,grow_atm hk',hk',hset,wrap_i64 (n:=(k : Int) + 1) (by omega) (by omega)]
  refine CallK.mk _ (by simpa only [go_sem] using hx xs[k] (List.getElem_mem hk')) fun _=>?_
  simp only [go_sem,map_at _ hk',grow_lenm hk,grow_atm hk',hk',hset,wrap_i64 (n:=(k : Int) + 1) (by omega) (by omega)]
  exact ⟨k + 1,⟨rfl,hg _⟩,rfl,by omega,by first | omega | (simp only; omega)⟩
 ·have hk' : k = xs.length:=by simp at h; omega
  subst hk'
  rw [grow_allm]
  simp only [go_sem]
  simp [nrE_of_pure (pureE_map DPred.pure)]
theorem toPred_of (d : DPred) (hf : fitPred d) (hx : ∀ x ∈ d.l,Ctr Tryz.prog 89 [.agg x.c] [.val (.agg x.c)]) : Ctr Tryz.prog 89 [.agg d.c] [.val (.agg d.c)]:=by
 rw [fitPred_eq] at hf
 obtain ⟨f0,f1⟩:=hf
 refine Ctr.mk Tryz.call89 Tryz.func89 rfl mixed Tryz.ntmps89 Tryz.results89 (by kernel_rfl) rfl fun _=>?_
 simp only [go_sem]
 refine CallK.mk _ (by simpa only [go_sem] using toVal_spec d.v f0) fun _=>?_
 simp only [go_sem]
 refine CallK.mk _ (by simpa only [go_sem] using (toPredS_own d.l f1.1 hx).val (pureE_map DPred.pure)) fun _=>?_
 simp only [go_sem]
theorem toPred_fuel : ∀ (n : Nat) (d : DPred),SizeOf.sizeOf d ≤ n → fitPred d → Ctr Tryz.prog 89 [.agg d.c] [.val (.agg d.c)]
 | 0,d,h,_=>by cases d; simp at h
 | n + 1,d,h,hf=>toPred_of d hf fun x hx=>toPred_fuel n x (by
  have h1 : SizeOf.sizeOf x < SizeOf.sizeOf d.l:=List.sizeOf_lt_of_mem hx
  have h2 : SizeOf.sizeOf d.l < SizeOf.sizeOf d:=by cases d; simp [DPred.l]; omega
  omega) (by rw [fitPred_eq] at hf; exact (hf.2).2 x hx)
theorem toPred_spec (d : DPred) (hf : fitPred d) : Ctr Tryz.prog 89 [.agg d.c] [.val (.agg d.c)]:=toPred_fuel _ d (Nat.le_refl _) hf
theorem toQuery_spec (d : DQuery) (hf : fitQuery d) : Ctr Tryz.prog 29 [.agg d.c] [.val (.agg d.c)]:=by
 rw [fitQuery_eq] at hf
 obtain ⟨f0,f1⟩:=hf
 refine Ctr.mk Tryz.call29 Tryz.func29 rfl mixed Tryz.ntmps29 Tryz.results29 (by kernel_rfl) rfl fun _=>?_
 simp only [go_sem]
 refine CallK.mk _ (by simpa only [go_sem] using toPred_spec d.p f0) fun _=>?_
 simp only [go_sem]
 refine CallK.mk _ (by simpa only [go_sem] using toIntS_spec d.out f1) fun _=>?_
 simp only [go_sem]
theorem toResult_spec (d : DResult) (hf : fitResult d) : Ctr Tryz.prog 155 [.agg d.c] [.val (.agg d.c)]:=by
 rw [fitResult_eq] at hf
 obtain ⟨f0,f1⟩:=hf
 refine Ctr.mk Tryz.call155 Tryz.func155 rfl mixed Tryz.ntmps155 Tryz.results155 (by kernel_rfl) rfl fun _=>?_
 simp only [go_sem]
 refine CallK.mk _ (by simpa only [go_sem] using toRowS_spec d.rows f0) fun _=>?_
 simp only [go_sem]
 refine CallK.mk _ (by simpa only [go_sem] using toVal_spec d.v f1) fun _=>?_
 simp only [go_sem]
theorem toSlot_spec (d : DSlot) (hf : fitSlot d) : Ctr Tryz.prog 215 [.agg d.c] [.val (.agg d.c)]:=by
 rw [fitSlot_eq] at hf
 have f0:=hf
 refine Ctr.mk Tryz.call215 Tryz.func215 rfl mixed Tryz.ntmps215 Tryz.results215 (by kernel_rfl) rfl fun _=>?_
 simp only [go_sem]
 refine CallK.mk _ (by simpa only [go_sem] using toValS_spec d.l f0) fun _=>?_
 simp only [go_sem]
theorem toSlotS_own (xs : List DSlot) (hf : xs.length ≤ 1048576) (hx : ∀ x ∈ xs,Ctr Tryz.prog 215 [.agg x.c] [.val (.agg x.c)]) : Ctr Tryz.prog 184 [.c (.sl (xs.map DSlot.c))] [.own 162 2 (xs.map DSlot.c) true]:=by
 refine Ctr.mk Tryz.call184 Tryz.func184 rfl mixed Tryz.ntmps184 Tryz.results184 (by kernel_rfl) rfl fun _=>?_
 have hc : (0 : Int) ≤ xs.length ∧ (xs.length : Int) ≤ xs.length ∧ (xs.length : Int) ≤ 2147483648:=by omega
 simp only [go_sem,List.length_map,hc,List.length_replicate]
 have hg:=fun k=>@trim1_grow _ DSlot.c DSlot.pure [.v (.int .i64 0),.v (.slice none 0 0)] rfl xs k 162 2 true true
 refine LoopK.mk 1 [0,3,4] (A:=Nat) (fun k=>⟨23,[(0,.c (.sl (xs.map DSlot.c))),(3,.c (.ref 0)),(4,.c (.v (.int .i64 k)))],[⟨162,2,grow (xs.map DSlot.c) [.v (.int .i64 0),.v (.slice none 0 0)] k,true,true⟩]⟩) (fun k=>k ≤ xs.length) (fun k=>xs.length - k) 0 ⟨⟨rfl,by have:=hg 0; simp only [grow_zero,List.length_map] at this; exact this⟩,by simp only [grow_zero,List.length_map]; rfl,Nat.zero_le _⟩ ?_
 intro k hk
 simp only [go_sem,List.length_map]
 refine cndC.mk (fun h=>?_) (fun h=>?_)
 ·have hk' : k < xs.length:=by simpa using h
  have hset:=@grow_setm _ DSlot.c xs [.v (.int .i64 0),.v (.slice none 0 0)] k hk'
  simp only [go_sem] at hset
  simp only [go_sem,map_at _ hk',grow_lenm hk,grow_atm hk',hk',hset,wrap_i64 (n:=(k : Int) + 1) (by omega) (by omega)]
  refine CallK.mk _ (by simpa only [go_sem] using hx xs[k] (List.getElem_mem hk')) fun _=>?_
  simp only [go_sem,map_at _ hk',grow_lenm hk,grow_atm hk',hk',hset,wrap_i64 (n:=(k : Int) + 1) (by omega) (by omega)]
  exact ⟨k + 1,⟨rfl,hg _⟩,rfl,by omega,by first | omega | (simp only; omega)⟩
 ·have hk' : k = xs.length:=by simp at h; omega
  subst hk'
  rw [grow_allm]
  simp only [go_sem]
  simp [nrE_of_pure (pureE_map DSlot.pure)]
theorem toSlotS_spec (xs : List DSlot) (hf : fitS fitSlot xs) : Ctr Tryz.prog 184 [.c (.sl (xs.map DSlot.c))] [.val (.c (.sl (xs.map DSlot.c)))]:=(toSlotS_own xs hf.1 fun x hx=>toSlot_spec x (hf.2 x hx)).val (pureE_map DSlot.pure)
theorem toChunk_spec (d : DChunk) (hf : fitChunk d) : Ctr Tryz.prog 151 [.agg d.c] [.val (.agg d.c)]:=by
 rw [fitChunk_eq] at hf
 have f0:=hf
 refine Ctr.mk Tryz.call151 Tryz.func151 rfl mixed Tryz.ntmps151 Tryz.results151 (by kernel_rfl) rfl fun _=>?_
 simp only [go_sem]
 refine CallK.mk _ (by simpa only [go_sem] using toSlotS_spec d.l f0) fun _=>?_
 simp only [go_sem]
theorem toBuf_spec (d : DBuf) (hf : fitBuf d) : Ctr Tryz.prog 102 [.agg d.c] [.val (.agg d.c)]:=by
 rw [fitBuf_eq] at hf
 obtain ⟨f0,f1⟩:=hf
 refine Ctr.mk Tryz.call102 Tryz.func102 rfl mixed Tryz.ntmps102 Tryz.results102 (by kernel_rfl) rfl fun _=>?_
 simp only [go_sem]
 refine CallK.mk _ (by simpa only [go_sem] using toChunk_spec d.c0 f0) fun _=>?_
 simp only [go_sem]
 refine CallK.mk _ (by simpa only [go_sem] using toByteS_spec d.g f1) fun _=>?_
 simp only [go_sem]
theorem toBufS_own (xs : List DBuf) (hf : xs.length ≤ 1048576) (hx : ∀ x ∈ xs,Ctr Tryz.prog 102 [.agg x.c] [.val (.agg x.c)]) : Ctr Tryz.prog 48 [.c (.sl (xs.map DBuf.c))] [.own 101 5 (xs.map DBuf.c) true]:=by
 refine Ctr.mk Tryz.call48 Tryz.func48 rfl mixed Tryz.ntmps48 Tryz.results48 (by kernel_rfl) rfl fun _=>?_
 have hc : (0 : Int) ≤ xs.length ∧ (xs.length : Int) ≤ xs.length ∧ (xs.length : Int) ≤ 2147483648:=by omega
 simp only [go_sem,List.length_map,hc,List.length_replicate]
 have hg:=fun k=>@trim1_grow _ DBuf.c DBuf.pure [.v (.int .i64 0),.v (.int .i64 0),.v (.int .i64 0),.v (.slice none 0 0),.v (.slice none 0 0)] rfl xs k 101 5 true true
 refine LoopK.mk 1 [0,3,4] (A:=Nat) (fun k=>⟨23,[(0,.c (.sl (xs.map DBuf.c))),(3,.c (.ref 0)),(4,.c (.v (.int .i64 k)))],[⟨101,5,grow (xs.map DBuf.c) [.v (.int .i64 0),.v (.int .i64 0),.v (.int .i64 0),.v (.slice none 0 0),.v (.slice none 0 0)] k,true,true⟩]⟩) (fun k=>k ≤ xs.length) (fun k=>xs.length - k) 0 ⟨⟨rfl,by have:=hg 0; simp only [grow_zero,List.length_map] at this; exact this⟩,by simp only [grow_zero,List.length_map]; rfl,Nat.zero_le _⟩ ?_
 intro k hk
 simp only [go_sem,List.length_map]
 refine cndC.mk (fun h=>?_) (fun h=>?_)
 ·have hk' : k < xs.length:=by simpa using h
  have hset:=@grow_setm _ DBuf.c xs [.v (.int .i64 0),.v (.int .i64 0),.v (.int .i64 0),.v (.slice none 0 0),.v (.slice none 0 0)] k hk'
  simp only [go_sem] at hset
  simp only [go_sem,map_at _ hk',grow_lenm hk,grow_atm hk',hk',hset,wrap_i64 (n:=(k : Int) + 1) (by omega) (by omega)]
  refine CallK.mk _ (by simpa only [go_sem] using hx xs[k] (List.getElem_mem hk')) fun _=>?_
  simp only [go_sem,map_at _ hk',grow_lenm hk,grow_atm hk',hk',hset,wrap_i64 (n:=(k : Int) + 1) (by omega) (by omega)]
  exact ⟨k + 1,⟨rfl,hg _⟩,rfl,by omega,by first | omega | (simp only; omega)⟩
 ·have hk' : k = xs.length:=by simp at h; omega
  subst hk'
  rw [grow_allm]
  simp only [go_sem]
  simp [nrE_of_pure (pureE_map DBuf.pure)]
theorem toBufS_spec (xs : List DBuf) (hf : fitS fitBuf xs) : Ctr Tryz.prog 48 [.c (.sl (xs.map DBuf.c))] [.val (.c (.sl (xs.map DBuf.c)))]:=(toBufS_own xs hf.1 fun x hx=>toBuf_spec x (hf.2 x hx)).val (pureE_map DBuf.pure)
theorem toDead_spec (d : DDead) : Ctr Tryz.prog 103 [.agg d.c] [.val (.agg d.c)]:=by
 refine Ctr.mk Tryz.call103 Tryz.func103 rfl mixed Tryz.ntmps103 Tryz.results103 (by kernel_rfl) rfl fun _=>?_
 simp only [go_sem]
theorem toDeadS_own (xs : List DDead) (hf : xs.length ≤ 1048576) (hx : ∀ x ∈ xs,Ctr Tryz.prog 103 [.agg x.c] [.val (.agg x.c)]) : Ctr Tryz.prog 50 [.c (.sl (xs.map DDead.c))] [.own 168 3 (xs.map DDead.c) true]:=by
 refine Ctr.mk Tryz.call50 Tryz.func50 rfl mixed Tryz.ntmps50 Tryz.results50 (by kernel_rfl) rfl fun _=>?_
 have hc : (0 : Int) ≤ xs.length ∧ (xs.length : Int) ≤ xs.length ∧ (xs.length : Int) ≤ 2147483648:=by omega
 simp only [go_sem,List.length_map,hc,List.length_replicate]
 have hg:=fun k=>@trim1_grow _ DDead.c DDead.pure [.v (.int .i64 0),.v (.int .i64 0),.v (.int .i64 0)] rfl xs k 168 3 true true
 refine LoopK.mk 1 [0,3,4] (A:=Nat) (fun k=>⟨23,[(0,.c (.sl (xs.map DDead.c))),(3,.c (.ref 0)),(4,.c (.v (.int .i64 k)))],[⟨168,3,grow (xs.map DDead.c) [.v (.int .i64 0),.v (.int .i64 0),.v (.int .i64 0)] k,true,true⟩]⟩) (fun k=>k ≤ xs.length) (fun k=>xs.length - k) 0 ⟨⟨rfl,by have:=hg 0; simp only [grow_zero,List.length_map] at this; exact this⟩,by simp only [grow_zero,List.length_map]; rfl,Nat.zero_le _⟩ ?_
 intro k hk
 simp only [go_sem,List.length_map]
 refine cndC.mk (fun h=>?_) (fun h=>?_)
 ·have hk' : k < xs.length:=by simpa using h
  have hset:=@grow_setm _ DDead.c xs [.v (.int .i64 0),.v (.int .i64 0),.v (.int .i64 0)] k hk'
  simp only [go_sem] at hset
  simp only [go_sem,map_at _ hk',grow_lenm hk,grow_atm hk',hk',hset,wrap_i64 (n:=(k : Int) + 1) (by omega) (by omega)]
  refine CallK.mk _ (by simpa only [go_sem] using hx xs[k] (List.getElem_mem hk')) fun _=>?_
  simp only [go_sem,map_at _ hk',grow_lenm hk,grow_atm hk',hk',hset,wrap_i64 (n:=(k : Int) + 1) (by omega) (by omega)]
  exact ⟨k + 1,⟨rfl,hg _⟩,rfl,by omega,by first | omega | (simp only; omega)⟩
 ·have hk' : k = xs.length:=by simp at h; omega
  subst hk'
  rw [grow_allm]
  simp only [go_sem]
  simp [nrE_of_pure (pureE_map DDead.pure)]
theorem toDeadS_spec (xs : List DDead) (hf : xs.length ≤ 1048576) : Ctr Tryz.prog 50 [.c (.sl (xs.map DDead.c))] [.val (.c (.sl (xs.map DDead.c)))]:=(toDeadS_own xs hf fun x _=>toDead_spec x).val (pureE_map DDead.pure)
theorem toRef_spec (d : DRef) : Ctr Tryz.prog 19 [.agg d.c] [.val (.agg d.c)]:=by
 refine Ctr.mk Tryz.call19 Tryz.func19 rfl mixed Tryz.ntmps19 Tryz.results19 (by kernel_rfl) rfl fun _=>?_
 simp only [go_sem]
theorem toRefS_own (xs : List DRef) (hf : xs.length ≤ 1048576) (hx : ∀ x ∈ xs,Ctr Tryz.prog 19 [.agg x.c] [.val (.agg x.c)]) : Ctr Tryz.prog 101 [.c (.sl (xs.map DRef.c))] [.own 56 5 (xs.map DRef.c) true]:=by
 refine Ctr.mk Tryz.call101 Tryz.func101 rfl mixed Tryz.ntmps101 Tryz.results101 (by kernel_rfl) rfl fun _=>?_
 have hc : (0 : Int) ≤ xs.length ∧ (xs.length : Int) ≤ xs.length ∧ (xs.length : Int) ≤ 2147483648:=by omega
 simp only [go_sem,List.length_map,hc,List.length_replicate]
 have hg:=fun k=>@trim1_grow _ DRef.c DRef.pure [.v (.int .i64 0),.v (.int .i64 0),.v (.int .i64 0),.v (.int .i64 0),.v (.int .i64 0)] rfl xs k 56 5 true true
 refine LoopK.mk 1 [0,3,4] (A:=Nat) (fun k=>⟨23,[(0,.c (.sl (xs.map DRef.c))),(3,.c (.ref 0)),(4,.c (.v (.int .i64 k)))],[⟨56,5,grow (xs.map DRef.c) [.v (.int .i64 0),.v (.int .i64 0),.v (.int .i64 0),.v (.int .i64 0),.v (.int .i64 0)] k,true,true⟩]⟩) (fun k=>k ≤ xs.length) (fun k=>xs.length - k) 0 ⟨⟨rfl,by have:=hg 0; simp only [grow_zero,List.length_map] at this; exact this⟩,by simp only [grow_zero,List.length_map]; rfl,Nat.zero_le _⟩ ?_
 intro k hk
 simp only [go_sem,List.length_map]
 refine cndC.mk (fun h=>?_) (fun h=>?_)
 ·have hk' : k < xs.length:=by simpa using h
  have hset:=@grow_setm _ DRef.c xs [.v (.int .i64 0),.v (.int .i64 0),.v (.int .i64 0),.v (.int .i64 0),.v (.int .i64 0)] k hk'
  simp only [go_sem] at hset
  simp only [go_sem,map_at _ hk',grow_lenm hk,grow_atm hk',hk',hset,wrap_i64 (n:=(k : Int) + 1) (by omega) (by omega)]
  refine CallK.mk _ (by simpa only [go_sem] using hx xs[k] (List.getElem_mem hk')) fun _=>?_
  simp only [go_sem,map_at _ hk',grow_lenm hk,grow_atm hk',hk',hset,wrap_i64 (n:=(k : Int) + 1) (by omega) (by omega)]
  exact ⟨k + 1,⟨rfl,hg _⟩,rfl,by omega,by first | omega | (simp only; omega)⟩
 ·have hk' : k = xs.length:=by simp at h; omega
  subst hk'
  rw [grow_allm]
  simp only [go_sem]
  simp [nrE_of_pure (pureE_map DRef.pure)]
theorem toRefS_spec (xs : List DRef) (hf : xs.length ≤ 1048576) : Ctr Tryz.prog 101 [.c (.sl (xs.map DRef.c))] [.val (.c (.sl (xs.map DRef.c)))]:=(toRefS_own xs hf fun x _=>toRef_spec x).val (pureE_map DRef.pure)
theorem toDir_spec (d : DDir) (hf : fitDir d) : Ctr Tryz.prog 47 [.agg d.c] [.val (.agg d.c)]:=by
 rw [fitDir_eq] at hf
 have f0:=hf
 refine Ctr.mk Tryz.call47 Tryz.func47 rfl mixed Tryz.ntmps47 Tryz.results47 (by kernel_rfl) rfl fun _=>?_
 simp only [go_sem]
 refine CallK.mk _ (by simpa only [go_sem] using toRefS_spec d.l f0) fun _=>?_
 simp only [go_sem]
theorem toTask_spec (d : DTask) (hf : fitTask d) : Ctr Tryz.prog 104 [.agg d.c] [.val (.agg d.c)]:=by
 rw [fitTask_eq] at hf
 obtain ⟨f0,f1,f2,f3⟩:=hf
 refine Ctr.mk Tryz.call104 Tryz.func104 rfl mixed Tryz.ntmps104 Tryz.results104 (by kernel_rfl) rfl fun _=>?_
 simp only [go_sem]
 refine CallK.mk _ (by simpa only [go_sem] using toValS_spec d.r f0) fun _=>?_
 simp only [go_sem]
 refine CallK.mk _ (by simpa only [go_sem] using toQuery_spec d.q f1) fun _=>?_
 simp only [go_sem]
 refine CallK.mk _ (by simpa only [go_sem] using toRefS_spec d.l f2) fun _=>?_
 simp only [go_sem]
 refine CallK.mk _ (by simpa only [go_sem] using toRowS_spec d.got f3) fun _=>?_
 simp only [go_sem]
theorem toTaskS_own (xs : List DTask) (hf : xs.length ≤ 1048576) (hx : ∀ x ∈ xs,Ctr Tryz.prog 104 [.agg x.c] [.val (.agg x.c)]) : Ctr Tryz.prog 51 [.c (.sl (xs.map DTask.c))] [.own 172 25 (xs.map DTask.c) true]:=by
 refine Ctr.mk Tryz.call51 Tryz.func51 rfl mixed Tryz.ntmps51 Tryz.results51 (by kernel_rfl) rfl fun _=>?_
 have hc : (0 : Int) ≤ xs.length ∧ (xs.length : Int) ≤ xs.length ∧ (xs.length : Int) ≤ 2147483648:=by omega
 simp only [go_sem,List.length_map,hc,List.length_replicate]
 have hg:=fun k=>@trim1_grow _ DTask.c DTask.pure [.v (.int .i64 0),.v (.int .i64 0),.v (.int .i64 0),.v (.slice none 0 0),.v (.int .i64 0),.v (.int .i64 0),.v (.int .i64 0),.v (.int .i64 0),.v (.int .i64 0),.v (.int .i64 0),.v (.int .i64 0),.v (.string ByteArray.empty),.v (.slice none 0 0),.v (.int .i64 0),.v (.slice none 0 0),.v (.int .i64 0),.v (.int .i64 0),.v (.slice none 0 0),.v (.int .i64 0),.v (.int .i64 0),.v (.int .i64 0),.v (.int .i64 0),.v (.int .i64 0),.v (.bool false),.v (.slice none 0 0)] rfl xs k 172 25 true true
 refine LoopK.mk 1 [0,3,4] (A:=Nat) (fun k=>⟨23,[(0,.c (.sl (xs.map DTask.c))),(3,.c (.ref 0)),(4,.c (.v (.int .i64 k)))],[⟨172,25,grow (xs.map DTask.c) [.v (.int .i64 0),.v (.int .i64 0),.v (.int .i64 0),.v (.slice none 0 0),.v (.int .i64 0),.v (.int .i64 0),.v (.int .i64 0),.v (.int .i64 0),.v (.int .i64 0),.v (.int .i64 0),.v (.int .i64 0),.v (.string ByteArray.empty),.v (.slice none 0 0),.v (.int .i64 0),.v (.slice none 0 0),.v (.int .i64 0),.v (.int .i64 0),.v (.slice none 0 0),.v (.int .i64 0),.v (.int .i64 0),.v (.int .i64 0),.v (.int .i64 0),.v (.int .i64 0),.v (.bool false),.v (.slice none 0 0)] k,true,true⟩]⟩) (fun k=>k ≤ xs.length) (fun k=>xs.length - k) 0 ⟨⟨rfl,by have:=hg 0; simp only [grow_zero,List.length_map] at this; exact this⟩,by simp only [grow_zero,List.length_map]; rfl,Nat.zero_le _⟩ ?_
 intro k hk
 simp only [go_sem,List.length_map]
 refine cndC.mk (fun h=>?_) (fun h=>?_)
 ·have hk' : k < xs.length:=by simpa using h
  have hset:=@grow_setm _ DTask.c xs [.v (.int .i64 0),.v (.int .i64 0),.v (.int .i64 0),.v (.slice none 0 0),.v (.int .i64 0),.v (.int .i64 0),.v (.int .i64 0),.v (.int .i64 0),.v (.int .i64 0),.v (.int .i64 0),.v (.int .i64 0),.v (.string ByteArray.empty),.v (.slice none 0 0),.v (.int .i64 0),.v (.slice none 0 0),.v (.int .i64 0),.v (.int .i64 0),.v (.slice none 0 0),.v (.int .i64 0),.v (.int .i64 0),.v (.int .i64 0),.v (.int .i64 0),.v (.int .i64 0),.v (.bool false),.v (.slice none 0 0)] k hk'
  simp only [go_sem] at hset
  simp only [go_sem,map_at _ hk',grow_lenm hk,grow_atm hk',hk',hset,wrap_i64 (n:=(k : Int) + 1) (by omega) (by omega)]
  refine CallK.mk _ (by simpa only [go_sem] using hx xs[k] (List.getElem_mem hk')) fun _=>?_
  simp only [go_sem,map_at _ hk',grow_lenm hk,grow_atm hk',hk',hset,wrap_i64 (n:=(k : Int) + 1) (by omega) (by omega)]
  exact ⟨k + 1,⟨rfl,hg _⟩,rfl,by omega,by first | omega | (simp only; omega)⟩
 ·have hk' : k = xs.length:=by simp at h; omega
  subst hk'
  rw [grow_allm]
  simp only [go_sem]
  simp [nrE_of_pure (pureE_map DTask.pure)]
theorem toTaskS_spec (xs : List DTask) (hf : fitS fitTask xs) : Ctr Tryz.prog 51 [.c (.sl (xs.map DTask.c))] [.val (.c (.sl (xs.map DTask.c)))]:=(toTaskS_own xs hf.1 fun x hx=>toTask_spec x (hf.2 x hx)).val (pureE_map DTask.pure)
theorem toDeed_spec (d : DDeed) (hf : fitDeed d) : Ctr Tryz.prog 105 [.agg d.c] [.val (.agg d.c)]:=by
 rw [fitDeed_eq] at hf
 obtain ⟨f0,f1,f2⟩:=hf
 refine Ctr.mk Tryz.call105 Tryz.func105 rfl mixed Tryz.ntmps105 Tryz.results105 (by kernel_rfl) rfl fun _=>?_
 simp only [go_sem]
 refine CallK.mk _ (by simpa only [go_sem] using toValS_spec d.r f0) fun _=>?_
 simp only [go_sem]
 refine CallK.mk _ (by simpa only [go_sem] using toQuery_spec d.q f1) fun _=>?_
 simp only [go_sem]
 refine CallK.mk _ (by simpa only [go_sem] using toResult_spec d.res f2) fun _=>?_
 simp only [go_sem]
theorem toDeedS_own (xs : List DDeed) (hf : xs.length ≤ 1048576) (hx : ∀ x ∈ xs,Ctr Tryz.prog 105 [.agg x.c] [.val (.agg x.c)]) : Ctr Tryz.prog 52 [.c (.sl (xs.map DDeed.c))] [.own 175 25 (xs.map DDeed.c) true]:=by
 refine Ctr.mk Tryz.call52 Tryz.func52 rfl mixed Tryz.ntmps52 Tryz.results52 (by kernel_rfl) rfl fun _=>?_
 have hc : (0 : Int) ≤ xs.length ∧ (xs.length : Int) ≤ xs.length ∧ (xs.length : Int) ≤ 2147483648:=by omega
 simp only [go_sem,List.length_map,hc,List.length_replicate]
 have hg:=fun k=>@trim1_grow _ DDeed.c DDeed.pure [.v (.int .i64 0),.v (.int .i64 0),.v (.slice none 0 0),.v (.int .i64 0),.v (.int .i64 0),.v (.int .i64 0),.v (.int .i64 0),.v (.int .i64 0),.v (.int .i64 0),.v (.int .i64 0),.v (.string ByteArray.empty),.v (.slice none 0 0),.v (.int .i64 0),.v (.slice none 0 0),.v (.slice none 0 0),.v (.int .i64 0),.v (.bool false),.v (.int .i64 0),.v (.int .i64 0),.v (.string ByteArray.empty),.v (.int .i64 0),.v (.int .i64 0),.v (.int .i64 0),.v (.int .i64 0),.v (.int .i64 0)] rfl xs k 175 25 true true
 refine LoopK.mk 1 [0,3,4] (A:=Nat) (fun k=>⟨23,[(0,.c (.sl (xs.map DDeed.c))),(3,.c (.ref 0)),(4,.c (.v (.int .i64 k)))],[⟨175,25,grow (xs.map DDeed.c) [.v (.int .i64 0),.v (.int .i64 0),.v (.slice none 0 0),.v (.int .i64 0),.v (.int .i64 0),.v (.int .i64 0),.v (.int .i64 0),.v (.int .i64 0),.v (.int .i64 0),.v (.int .i64 0),.v (.string ByteArray.empty),.v (.slice none 0 0),.v (.int .i64 0),.v (.slice none 0 0),.v (.slice none 0 0),.v (.int .i64 0),.v (.bool false),.v (.int .i64 0),.v (.int .i64 0),.v (.string ByteArray.empty),.v (.int .i64 0),.v (.int .i64 0),.v (.int .i64 0),.v (.int .i64 0),.v (.int .i64 0)] k,true,true⟩]⟩) (fun k=>k ≤ xs.length) (fun k=>xs.length - k) 0 ⟨⟨rfl,by have:=hg 0; simp only [grow_zero,List.length_map] at this; exact this⟩,by simp only [grow_zero,List.length_map]; rfl,Nat.zero_le _⟩ ?_
 intro k hk
 simp only [go_sem,List.length_map]
 refine cndC.mk (fun h=>?_) (fun h=>?_)
 ·have hk' : k < xs.length:=by simpa using h
  have hset:=@grow_setm _ DDeed.c xs [.v (.int .i64 0),.v (.int .i64 0),.v (.slice none 0 0),.v (.int .i64 0),.v (.int .i64 0),.v (.int .i64 0),.v (.int .i64 0),.v (.int .i64 0),.v (.int .i64 0),.v (.int .i64 0),.v (.string ByteArray.empty),.v (.slice none 0 0),.v (.int .i64 0),.v (.slice none 0 0),.v (.slice none 0 0),.v (.int .i64 0),.v (.bool false),.v (.int .i64 0),.v (.int .i64 0),.v (.string ByteArray.empty),.v (.int .i64 0),.v (.int .i64 0),.v (.int .i64 0),.v (.int .i64 0),.v (.int .i64 0)] k hk'
  simp only [go_sem] at hset
  simp only [go_sem,map_at _ hk',grow_lenm hk,grow_atm hk',hk',hset,wrap_i64 (n:=(k : Int) + 1) (by omega) (by omega)]
  refine CallK.mk _ (by simpa only [go_sem] using hx xs[k] (List.getElem_mem hk')) fun _=>?_
  simp only [go_sem,map_at _ hk',grow_lenm hk,grow_atm hk',hk',hset,wrap_i64 (n:=(k : Int) + 1) (by omega) (by omega)]
  exact ⟨k + 1,⟨rfl,hg _⟩,rfl,by omega,by first | omega | (simp only; omega)⟩
 ·have hk' : k = xs.length:=by simp at h; omega
  subst hk'
  rw [grow_allm]
  simp only [go_sem]
  simp [nrE_of_pure (pureE_map DDeed.pure)]
theorem toDeedS_spec (xs : List DDeed) (hf : fitS fitDeed xs) : Ctr Tryz.prog 52 [.c (.sl (xs.map DDeed.c))] [.val (.c (.sl (xs.map DDeed.c)))]:=(toDeedS_own xs hf.1 fun x hx=>toDeed_spec x (hf.2 x hx)).val (pureE_map DDeed.pure)
theorem toConf_spec (d : DConf) (hf : fitConf d) : Ctr Tryz.prog 46 [.agg d.c] [.val (.agg d.c)]:=by
 rw [fitConf_eq] at hf
 have f0:=hf
 refine Ctr.mk Tryz.call46 Tryz.func46 rfl mixed Tryz.ntmps46 Tryz.results46 (by kernel_rfl) rfl fun _=>?_
 simp only [go_sem]
 refine CallK.mk _ (by simpa only [go_sem] using toIntS_spec d.cols f0) fun _=>?_
 simp only [go_sem]
theorem toWorld_spec (d : DWorld) (hf : fitWorld d) : Ctr Tryz.prog 11 [.agg d.c] [.val (.agg d.c)]:=by
 rw [fitWorld_eq] at hf
 obtain ⟨f0,f1,f2,f3,f4,f5,f6,f7⟩:=hf
 refine Ctr.mk Tryz.call11 Tryz.func11 rfl mixed Tryz.ntmps11 Tryz.results11 (by kernel_rfl) rfl fun _=>?_
 simp only [go_sem]
 refine CallK.mk _ (by simpa only [go_sem] using toConf_spec d.c0 f0) fun _=>?_
 simp only [go_sem]
 refine CallK.mk _ (by simpa only [go_sem] using toDir_spec d.d f1) fun _=>?_
 simp only [go_sem]
 refine CallK.mk _ (by simpa only [go_sem] using toBufS_spec d.b f2) fun _=>?_
 simp only [go_sem]
 refine CallK.mk _ (by simpa only [go_sem] using toIntS_spec d.m f3) fun _=>?_
 simp only [go_sem]
 refine CallK.mk _ (by simpa only [go_sem] using toDeadS_spec d.x f4) fun _=>?_
 simp only [go_sem]
 refine CallK.mk _ (by simpa only [go_sem] using toIntS_spec d.p f5) fun _=>?_
 simp only [go_sem]
 refine CallK.mk _ (by simpa only [go_sem] using toTaskS_spec d.tasks f6) fun _=>?_
 simp only [go_sem]
 refine CallK.mk _ (by simpa only [go_sem] using toDeedS_spec d.deeds f7) fun _=>?_
 simp only [go_sem]
theorem eqIntS_spec (xs : List Int) : Ctr Tryz.prog 60 [.c (.sl (xs.map intC)),.c (.sl (xs.map intC))] [.val (.c (.v (.bool true)))]:=by
 refine Ctr.mk Tryz.call60 Tryz.func60 rfl mixed Tryz.ntmps60 Tryz.results60 (by kernel_rfl) rfl fun hw=>?_
 have hlen : xs.length ≤ 9223372036854775807:=by have:=hw.1.1; simpa [Go.maxLen] using this
 simp only [go_sem,List.length_map,bne_self_eq_false,beq_self_eq_true]
 refine LoopK.mk 0 [0,1,5] (A:=Nat) (fun k=>⟨26,[(0,.c (.sl (xs.map intC))),(1,.c (.sl (xs.map intC))),(5,.c (.v (.int .i64 k)))],[]⟩) (fun k=>k ≤ xs.length) (fun k=>xs.length - k) 0 ⟨⟨rfl,rfl⟩,rfl,Nat.zero_le _⟩ ?_
 intro k hk
 simp only [go_sem,List.length_map]
 refine cndC.mk (fun h=>?_) (fun h=>?_)
 ·have hk' : k < xs.length:=by simpa using h
  simp only [go_sem]
  refine DrawK.mk ?_
  simp only [go_sem,List.length_map,bne_self_eq_false,beq_self_eq_true,map_at _ hk',hk',wrap_i64 (n:=(k : Int) + 1) (by omega) (by omega)]
  exact ⟨k + 1,⟨rfl,rfl⟩,rfl,by omega,by first | omega | (simp only; omega)⟩
 ·simp only [go_sem]
theorem eqByteS_spec (xs : List Int) : Ctr Tryz.prog 166 [.c (.sl (xs.map byteC)),.c (.sl (xs.map byteC))] [.val (.c (.v (.bool true)))]:=by
 refine Ctr.mk Tryz.call166 Tryz.func166 rfl mixed Tryz.ntmps166 Tryz.results166 (by kernel_rfl) rfl fun hw=>?_
 have hlen : xs.length ≤ 9223372036854775807:=by have:=hw.1.1; simpa [Go.maxLen] using this
 simp only [go_sem,List.length_map,bne_self_eq_false,beq_self_eq_true]
 refine LoopK.mk 0 [0,1,5] (A:=Nat) (fun k=>⟨26,[(0,.c (.sl (xs.map byteC))),(1,.c (.sl (xs.map byteC))),(5,.c (.v (.int .i64 k)))],[]⟩) (fun k=>k ≤ xs.length) (fun k=>xs.length - k) 0 ⟨⟨rfl,rfl⟩,rfl,Nat.zero_le _⟩ ?_
 intro k hk
 simp only [go_sem,List.length_map]
 refine cndC.mk (fun h=>?_) (fun h=>?_)
 ·have hk' : k < xs.length:=by simpa using h
  simp only [go_sem]
  refine DrawK.mk ?_
  simp only [go_sem,List.length_map,bne_self_eq_false,beq_self_eq_true,map_at _ hk',hk',wrap_i64 (n:=(k : Int) + 1) (by omega) (by omega)]
  exact ⟨k + 1,⟨rfl,rfl⟩,rfl,by omega,by first | omega | (simp only; omega)⟩
 ·simp only [go_sem]
theorem eqVal_spec (d : DVal) : Ctr Tryz.prog 91 [.agg d.c,.agg d.c] [.val (.c (.v (.bool true)))]:=by
 refine Ctr.mk Tryz.call91 Tryz.func91 rfl mixed Tryz.ntmps91 Tryz.results91 (by kernel_rfl) rfl fun _=>?_
 simp only [go_sem,bne_self_eq_false,beq_self_eq_true]
theorem eqValS_of (xs : List DVal) (hx : ∀ x ∈ xs,Ctr Tryz.prog 91 [.agg x.c,.agg x.c] [.val (.c (.v (.bool true)))]) : Ctr Tryz.prog 121 [.c (.sl (xs.map DVal.c)),.c (.sl (xs.map DVal.c))] [.val (.c (.v (.bool true)))]:=by
 refine Ctr.mk Tryz.call121 Tryz.func121 rfl mixed Tryz.ntmps121 Tryz.results121 (by kernel_rfl) rfl fun hw=>?_
 have hlen : xs.length ≤ 9223372036854775807:=by have:=hw.1.1; simpa [Go.maxLen] using this
 simp only [go_sem,List.length_map,bne_self_eq_false,beq_self_eq_true]
 refine LoopK.mk 0 [0,1,5] (A:=Nat) (fun k=>⟨27,[(0,.c (.sl (xs.map DVal.c))),(1,.c (.sl (xs.map DVal.c))),(5,.c (.v (.int .i64 k)))],[]⟩) (fun k=>k ≤ xs.length) (fun k=>xs.length - k) 0 ⟨⟨rfl,rfl⟩,rfl,Nat.zero_le _⟩ ?_
 intro k hk
 simp only [go_sem,List.length_map]
 refine cndC.mk (fun h=>?_) (fun h=>?_)
 ·have hk' : k < xs.length:=by simpa using h
  simp only [go_sem]
  refine DrawK.mk ?_
  simp only [go_sem,List.length_map,bne_self_eq_false,beq_self_eq_true,map_at _ hk',hk',wrap_i64 (n:=(k : Int) + 1) (by omega) (by omega)]
  refine CallF.mk _ (by simpa only [go_sem] using hx xs[k] (List.getElem_mem hk')) ?_
  simp only [go_sem,map_at _ hk',wrap_i64 (n:=(k : Int) + 1) (by omega) (by omega)]
  exact ⟨k + 1,⟨rfl,rfl⟩,rfl,by omega,by first | omega | (simp only; omega)⟩
 ·simp only [go_sem]
theorem eqValS_spec (xs : List DVal) : Ctr Tryz.prog 121 [.c (.sl (xs.map DVal.c)),.c (.sl (xs.map DVal.c))] [.val (.c (.v (.bool true)))]:=eqValS_of xs fun x _=>eqVal_spec x
theorem eqRow_spec (d : DRow) : Ctr Tryz.prog 75 [.agg d.c,.agg d.c] [.val (.c (.v (.bool true)))]:=by
 refine Ctr.mk Tryz.call75 Tryz.func75 rfl mixed Tryz.ntmps75 Tryz.results75 (by kernel_rfl) rfl fun _=>?_
 simp only [go_sem,bne_self_eq_false,beq_self_eq_true]
 refine CallK.mk _ (by simpa only [go_sem] using eqValS_spec d.l) fun _=>?_
 simp only [go_sem,bne_self_eq_false,beq_self_eq_true]
theorem eqRowS_of (xs : List DRow) (hx : ∀ x ∈ xs,Ctr Tryz.prog 75 [.agg x.c,.agg x.c] [.val (.c (.v (.bool true)))]) : Ctr Tryz.prog 21 [.c (.sl (xs.map DRow.c)),.c (.sl (xs.map DRow.c))] [.val (.c (.v (.bool true)))]:=by
 refine Ctr.mk Tryz.call21 Tryz.func21 rfl mixed Tryz.ntmps21 Tryz.results21 (by kernel_rfl) rfl fun hw=>?_
 have hlen : xs.length ≤ 9223372036854775807:=by have:=hw.1.1; simpa [Go.maxLen] using this
 simp only [go_sem,List.length_map,bne_self_eq_false,beq_self_eq_true]
 refine LoopK.mk 0 [0,1,5] (A:=Nat) (fun k=>⟨27,[(0,.c (.sl (xs.map DRow.c))),(1,.c (.sl (xs.map DRow.c))),(5,.c (.v (.int .i64 k)))],[]⟩) (fun k=>k ≤ xs.length) (fun k=>xs.length - k) 0 ⟨⟨rfl,rfl⟩,rfl,Nat.zero_le _⟩ ?_
 intro k hk
 simp only [go_sem,List.length_map]
 refine cndC.mk (fun h=>?_) (fun h=>?_)
 ·have hk' : k < xs.length:=by simpa using h
  simp only [go_sem]
  refine DrawK.mk ?_
  simp only [go_sem,List.length_map,bne_self_eq_false,beq_self_eq_true,map_at _ hk',hk',wrap_i64 (n:=(k : Int) + 1) (by omega) (by omega)]
  refine CallF.mk _ (by simpa only [go_sem] using hx xs[k] (List.getElem_mem hk')) ?_
  simp only [go_sem,map_at _ hk',wrap_i64 (n:=(k : Int) + 1) (by omega) (by omega)]
  exact ⟨k + 1,⟨rfl,rfl⟩,rfl,by omega,by first | omega | (simp only; omega)⟩
 ·simp only [go_sem]
theorem eqRowS_spec (xs : List DRow) : Ctr Tryz.prog 21 [.c (.sl (xs.map DRow.c)),.c (.sl (xs.map DRow.c))] [.val (.c (.v (.bool true)))]:=eqRowS_of xs fun x _=>eqRow_spec x
theorem eqPredS_of (xs : List DPred) (hx : ∀ x ∈ xs,Ctr Tryz.prog 92 [.agg x.c,.agg x.c] [.val (.c (.v (.bool true)))]) : Ctr Tryz.prog 140 [.c (.sl (xs.map DPred.c)),.c (.sl (xs.map DPred.c))] [.val (.c (.v (.bool true)))]:=by
 refine Ctr.mk Tryz.call140 Tryz.func140 rfl mixed Tryz.ntmps140 Tryz.results140 (by kernel_rfl) rfl fun hw=>?_
 have hlen : xs.length ≤ 9223372036854775807:=by have:=hw.1.1; simpa [Go.maxLen] using this
 simp only [go_sem,List.length_map,bne_self_eq_false,beq_self_eq_true]
 refine LoopK.mk 0 [0,1,5] (A:=Nat) (fun k=>⟨27,[(0,.c (.sl (xs.map DPred.c))),(1,.c (.sl (xs.map DPred.c))),(5,.c (.v (.int .i64 k)))],[]⟩) (fun k=>k ≤ xs.length) (fun k=>xs.length - k) 0 ⟨⟨rfl,rfl⟩,rfl,Nat.zero_le _⟩ ?_
 intro k hk
 simp only [go_sem,List.length_map]
 refine cndC.mk (fun h=>?_) (fun h=>?_)
 ·have hk' : k < xs.length:=by simpa using h
  simp only [go_sem]
  refine DrawK.mk ?_
  simp only [go_sem,List.length_map,bne_self_eq_false,beq_self_eq_true,map_at _ hk',hk',wrap_i64 (n:=(k : Int) + 1) (by omega) (by omega)]
  refine CallF.mk _ (by simpa only [go_sem] using hx xs[k] (List.getElem_mem hk')) ?_
  simp only [go_sem,map_at _ hk',wrap_i64 (n:=(k : Int) + 1) (by omega) (by omega)]
  exact ⟨k + 1,⟨rfl,rfl⟩,rfl,by omega,by first | omega | (simp only; omega)⟩
 ·simp only [go_sem]
theorem eqPred_of (d : DPred) (hx : ∀ x ∈ d.l,Ctr Tryz.prog 92 [.agg x.c,.agg x.c] [.val (.c (.v (.bool true)))]) : Ctr Tryz.prog 92 [.agg d.c,.agg d.c] [.val (.c (.v (.bool true)))]:=by
 refine Ctr.mk Tryz.call92 Tryz.func92 rfl mixed Tryz.ntmps92 Tryz.results92 (by kernel_rfl) rfl fun _=>?_
 simp only [go_sem,bne_self_eq_false,beq_self_eq_true]
 refine CallK.mk _ (by simpa only [go_sem] using eqVal_spec d.v) fun _=>?_
 simp only [go_sem,bne_self_eq_false,beq_self_eq_true]
 refine CallK.mk _ (by simpa only [go_sem] using eqPredS_of d.l hx) fun _=>?_
 simp only [go_sem,bne_self_eq_false,beq_self_eq_true]
theorem eqPred_fuel : ∀ (n : Nat) (d : DPred),SizeOf.sizeOf d ≤ n → Ctr Tryz.prog 92 [.agg d.c,.agg d.c] [.val (.c (.v (.bool true)))]
 | 0,d,h=>by cases d; simp at h
 | n + 1,d,h=>eqPred_of d fun x hx=>eqPred_fuel n x (by
  have h1 : SizeOf.sizeOf x < SizeOf.sizeOf d.l:=List.sizeOf_lt_of_mem hx
  have h2 : SizeOf.sizeOf d.l < SizeOf.sizeOf d:=by cases d; simp [DPred.l]; omega
  omega)
theorem eqPred_spec (d : DPred) : Ctr Tryz.prog 92 [.agg d.c,.agg d.c] [.val (.c (.v (.bool true)))]:=eqPred_fuel _ d (Nat.le_refl _)
theorem eqQuery_spec (d : DQuery) : Ctr Tryz.prog 32 [.agg d.c,.agg d.c] [.val (.c (.v (.bool true)))]:=by
 refine Ctr.mk Tryz.call32 Tryz.func32 rfl mixed Tryz.ntmps32 Tryz.results32 (by kernel_rfl) rfl fun _=>?_
 simp only [go_sem,bne_self_eq_false,beq_self_eq_true]
 refine CallK.mk _ (by simpa only [go_sem] using eqPred_spec d.p) fun _=>?_
 simp only [go_sem,bne_self_eq_false,beq_self_eq_true]
 refine CallK.mk _ (by simpa only [go_sem] using eqIntS_spec d.out) fun _=>?_
 simp only [go_sem,bne_self_eq_false,beq_self_eq_true]
theorem eqResult_spec (d : DResult) : Ctr Tryz.prog 31 [.agg d.c,.agg d.c] [.val (.c (.v (.bool true)))]:=by
 refine Ctr.mk Tryz.call31 Tryz.func31 rfl mixed Tryz.ntmps31 Tryz.results31 (by kernel_rfl) rfl fun _=>?_
 simp only [go_sem,bne_self_eq_false,beq_self_eq_true]
 refine CallK.mk _ (by simpa only [go_sem] using eqRowS_spec d.rows) fun _=>?_
 simp only [go_sem,bne_self_eq_false,beq_self_eq_true]
 refine CallK.mk _ (by simpa only [go_sem] using eqVal_spec d.v) fun _=>?_
 simp only [go_sem,bne_self_eq_false,beq_self_eq_true]
theorem eqSlot_spec (d : DSlot) : Ctr Tryz.prog 234 [.agg d.c,.agg d.c] [.val (.c (.v (.bool true)))]:=by
 refine Ctr.mk Tryz.call234 Tryz.func234 rfl mixed Tryz.ntmps234 Tryz.results234 (by kernel_rfl) rfl fun _=>?_
 simp only [go_sem,bne_self_eq_false,beq_self_eq_true]
 refine CallK.mk _ (by simpa only [go_sem] using eqValS_spec d.l) fun _=>?_
 simp only [go_sem,bne_self_eq_false,beq_self_eq_true]
theorem eqSlotS_of (xs : List DSlot) (hx : ∀ x ∈ xs,Ctr Tryz.prog 234 [.agg x.c,.agg x.c] [.val (.c (.v (.bool true)))]) : Ctr Tryz.prog 197 [.c (.sl (xs.map DSlot.c)),.c (.sl (xs.map DSlot.c))] [.val (.c (.v (.bool true)))]:=by
 refine Ctr.mk Tryz.call197 Tryz.func197 rfl mixed Tryz.ntmps197 Tryz.results197 (by kernel_rfl) rfl fun hw=>?_
 have hlen : xs.length ≤ 9223372036854775807:=by have:=hw.1.1; simpa [Go.maxLen] using this
 simp only [go_sem,List.length_map,bne_self_eq_false,beq_self_eq_true]
 refine LoopK.mk 0 [0,1,5] (A:=Nat) (fun k=>⟨27,[(0,.c (.sl (xs.map DSlot.c))),(1,.c (.sl (xs.map DSlot.c))),(5,.c (.v (.int .i64 k)))],[]⟩) (fun k=>k ≤ xs.length) (fun k=>xs.length - k) 0 ⟨⟨rfl,rfl⟩,rfl,Nat.zero_le _⟩ ?_
 intro k hk
 simp only [go_sem,List.length_map]
 refine cndC.mk (fun h=>?_) (fun h=>?_)
 ·have hk' : k < xs.length:=by simpa using h
  simp only [go_sem]
  refine DrawK.mk ?_
  simp only [go_sem,List.length_map,bne_self_eq_false,beq_self_eq_true,map_at _ hk',hk',wrap_i64 (n:=(k : Int) + 1) (by omega) (by omega)]
  refine CallF.mk _ (by simpa only [go_sem] using hx xs[k] (List.getElem_mem hk')) ?_
  simp only [go_sem,map_at _ hk',wrap_i64 (n:=(k : Int) + 1) (by omega) (by omega)]
  exact ⟨k + 1,⟨rfl,rfl⟩,rfl,by omega,by first | omega | (simp only; omega)⟩
 ·simp only [go_sem]
theorem eqSlotS_spec (xs : List DSlot) : Ctr Tryz.prog 197 [.c (.sl (xs.map DSlot.c)),.c (.sl (xs.map DSlot.c))] [.val (.c (.v (.bool true)))]:=eqSlotS_of xs fun x _=>eqSlot_spec x
theorem eqChunk_spec (d : DChunk) : Ctr Tryz.prog 165 [.agg d.c,.agg d.c] [.val (.c (.v (.bool true)))]:=by
 refine Ctr.mk Tryz.call165 Tryz.func165 rfl mixed Tryz.ntmps165 Tryz.results165 (by kernel_rfl) rfl fun _=>?_
 simp only [go_sem,bne_self_eq_false,beq_self_eq_true]
 refine CallK.mk _ (by simpa only [go_sem] using eqSlotS_spec d.l) fun _=>?_
 simp only [go_sem,bne_self_eq_false,beq_self_eq_true]
theorem eqBuf_spec (d : DBuf) : Ctr Tryz.prog 109 [.agg d.c,.agg d.c] [.val (.c (.v (.bool true)))]:=by
 refine Ctr.mk Tryz.call109 Tryz.func109 rfl mixed Tryz.ntmps109 Tryz.results109 (by kernel_rfl) rfl fun _=>?_
 simp only [go_sem,bne_self_eq_false,beq_self_eq_true]
 refine CallK.mk _ (by simpa only [go_sem] using eqChunk_spec d.c0) fun _=>?_
 simp only [go_sem,bne_self_eq_false,beq_self_eq_true]
 refine CallK.mk _ (by simpa only [go_sem] using eqByteS_spec d.g) fun _=>?_
 simp only [go_sem,bne_self_eq_false,beq_self_eq_true]
theorem eqBufS_of (xs : List DBuf) (hx : ∀ x ∈ xs,Ctr Tryz.prog 109 [.agg x.c,.agg x.c] [.val (.c (.v (.bool true)))]) : Ctr Tryz.prog 59 [.c (.sl (xs.map DBuf.c)),.c (.sl (xs.map DBuf.c))] [.val (.c (.v (.bool true)))]:=by
 refine Ctr.mk Tryz.call59 Tryz.func59 rfl mixed Tryz.ntmps59 Tryz.results59 (by kernel_rfl) rfl fun hw=>?_
 have hlen : xs.length ≤ 9223372036854775807:=by have:=hw.1.1; simpa [Go.maxLen] using this
 simp only [go_sem,List.length_map,bne_self_eq_false,beq_self_eq_true]
 refine LoopK.mk 0 [0,1,5] (A:=Nat) (fun k=>⟨27,[(0,.c (.sl (xs.map DBuf.c))),(1,.c (.sl (xs.map DBuf.c))),(5,.c (.v (.int .i64 k)))],[]⟩) (fun k=>k ≤ xs.length) (fun k=>xs.length - k) 0 ⟨⟨rfl,rfl⟩,rfl,Nat.zero_le _⟩ ?_
 intro k hk
 simp only [go_sem,List.length_map]
 refine cndC.mk (fun h=>?_) (fun h=>?_)
 ·have hk' : k < xs.length:=by simpa using h
  simp only [go_sem]
  refine DrawK.mk ?_
  simp only [go_sem,List.length_map,bne_self_eq_false,beq_self_eq_true,map_at _ hk',hk',wrap_i64 (n:=(k : Int) + 1) (by omega) (by omega)]
  refine CallF.mk _ (by simpa only [go_sem] using hx xs[k] (List.getElem_mem hk')) ?_
  simp only [go_sem,map_at _ hk',wrap_i64 (n:=(k : Int) + 1) (by omega) (by omega)]
  exact ⟨k + 1,⟨rfl,rfl⟩,rfl,by omega,by first | omega | (simp only; omega)⟩
 ·simp only [go_sem]
theorem eqBufS_spec (xs : List DBuf) : Ctr Tryz.prog 59 [.c (.sl (xs.map DBuf.c)),.c (.sl (xs.map DBuf.c))] [.val (.c (.v (.bool true)))]:=eqBufS_of xs fun x _=>eqBuf_spec x
theorem eqDead_spec (d : DDead) : Ctr Tryz.prog 110 [.agg d.c,.agg d.c] [.val (.c (.v (.bool true)))]:=by
 refine Ctr.mk Tryz.call110 Tryz.func110 rfl mixed Tryz.ntmps110 Tryz.results110 (by kernel_rfl) rfl fun _=>?_
 simp only [go_sem,bne_self_eq_false,beq_self_eq_true]
theorem eqDeadS_of (xs : List DDead) (hx : ∀ x ∈ xs,Ctr Tryz.prog 110 [.agg x.c,.agg x.c] [.val (.c (.v (.bool true)))]) : Ctr Tryz.prog 61 [.c (.sl (xs.map DDead.c)),.c (.sl (xs.map DDead.c))] [.val (.c (.v (.bool true)))]:=by
 refine Ctr.mk Tryz.call61 Tryz.func61 rfl mixed Tryz.ntmps61 Tryz.results61 (by kernel_rfl) rfl fun hw=>?_
 have hlen : xs.length ≤ 9223372036854775807:=by have:=hw.1.1; simpa [Go.maxLen] using this
 simp only [go_sem,List.length_map,bne_self_eq_false,beq_self_eq_true]
 refine LoopK.mk 0 [0,1,5] (A:=Nat) (fun k=>⟨27,[(0,.c (.sl (xs.map DDead.c))),(1,.c (.sl (xs.map DDead.c))),(5,.c (.v (.int .i64 k)))],[]⟩) (fun k=>k ≤ xs.length) (fun k=>xs.length - k) 0 ⟨⟨rfl,rfl⟩,rfl,Nat.zero_le _⟩ ?_
 intro k hk
 simp only [go_sem,List.length_map]
 refine cndC.mk (fun h=>?_) (fun h=>?_)
 ·have hk' : k < xs.length:=by simpa using h
  simp only [go_sem]
  refine DrawK.mk ?_
  simp only [go_sem,List.length_map,bne_self_eq_false,beq_self_eq_true,map_at _ hk',hk',wrap_i64 (n:=(k : Int) + 1) (by omega) (by omega)]
  refine CallF.mk _ (by simpa only [go_sem] using hx xs[k] (List.getElem_mem hk')) ?_
  simp only [go_sem,map_at _ hk',wrap_i64 (n:=(k : Int) + 1) (by omega) (by omega)]
  exact ⟨k + 1,⟨rfl,rfl⟩,rfl,by omega,by first | omega | (simp only; omega)⟩
 ·simp only [go_sem]
theorem eqDeadS_spec (xs : List DDead) : Ctr Tryz.prog 61 [.c (.sl (xs.map DDead.c)),.c (.sl (xs.map DDead.c))] [.val (.c (.v (.bool true)))]:=eqDeadS_of xs fun x _=>eqDead_spec x
theorem eqRef_spec (d : DRef) : Ctr Tryz.prog 164 [.agg d.c,.agg d.c] [.val (.c (.v (.bool true)))]:=by
 refine Ctr.mk Tryz.call164 Tryz.func164 rfl mixed Tryz.ntmps164 Tryz.results164 (by kernel_rfl) rfl fun _=>?_
 simp only [go_sem,bne_self_eq_false,beq_self_eq_true]
theorem eqRefS_of (xs : List DRef) (hx : ∀ x ∈ xs,Ctr Tryz.prog 164 [.agg x.c,.agg x.c] [.val (.c (.v (.bool true)))]) : Ctr Tryz.prog 108 [.c (.sl (xs.map DRef.c)),.c (.sl (xs.map DRef.c))] [.val (.c (.v (.bool true)))]:=by
 refine Ctr.mk Tryz.call108 Tryz.func108 rfl mixed Tryz.ntmps108 Tryz.results108 (by kernel_rfl) rfl fun hw=>?_
 have hlen : xs.length ≤ 9223372036854775807:=by have:=hw.1.1; simpa [Go.maxLen] using this
 simp only [go_sem,List.length_map,bne_self_eq_false,beq_self_eq_true]
 refine LoopK.mk 0 [0,1,5] (A:=Nat) (fun k=>⟨27,[(0,.c (.sl (xs.map DRef.c))),(1,.c (.sl (xs.map DRef.c))),(5,.c (.v (.int .i64 k)))],[]⟩) (fun k=>k ≤ xs.length) (fun k=>xs.length - k) 0 ⟨⟨rfl,rfl⟩,rfl,Nat.zero_le _⟩ ?_
 intro k hk
 simp only [go_sem,List.length_map]
 refine cndC.mk (fun h=>?_) (fun h=>?_)
 ·have hk' : k < xs.length:=by simpa using h
  simp only [go_sem]
  refine DrawK.mk ?_
  simp only [go_sem,List.length_map,bne_self_eq_false,beq_self_eq_true,map_at _ hk',hk',wrap_i64 (n:=(k : Int) + 1) (by omega) (by omega)]
  refine CallF.mk _ (by simpa only [go_sem] using hx xs[k] (List.getElem_mem hk')) ?_
  simp only [go_sem,map_at _ hk',wrap_i64 (n:=(k : Int) + 1) (by omega) (by omega)]
  exact ⟨k + 1,⟨rfl,rfl⟩,rfl,by omega,by first | omega | (simp only; omega)⟩
 ·simp only [go_sem]
theorem eqRefS_spec (xs : List DRef) : Ctr Tryz.prog 108 [.c (.sl (xs.map DRef.c)),.c (.sl (xs.map DRef.c))] [.val (.c (.v (.bool true)))]:=eqRefS_of xs fun x _=>eqRef_spec x
theorem eqDir_spec (d : DDir) : Ctr Tryz.prog 58 [.agg d.c,.agg d.c] [.val (.c (.v (.bool true)))]:=by
 refine Ctr.mk Tryz.call58 Tryz.func58 rfl mixed Tryz.ntmps58 Tryz.results58 (by kernel_rfl) rfl fun _=>?_
 simp only [go_sem,bne_self_eq_false,beq_self_eq_true]
 refine CallK.mk _ (by simpa only [go_sem] using eqRefS_spec d.l) fun _=>?_
 simp only [go_sem,bne_self_eq_false,beq_self_eq_true]
theorem eqTask_spec (d : DTask) : Ctr Tryz.prog 111 [.agg d.c,.agg d.c] [.val (.c (.v (.bool true)))]:=by
 refine Ctr.mk Tryz.call111 Tryz.func111 rfl mixed Tryz.ntmps111 Tryz.results111 (by kernel_rfl) rfl fun _=>?_
 simp only [go_sem,bne_self_eq_false,beq_self_eq_true]
 refine CallK.mk _ (by simpa only [go_sem] using eqValS_spec d.r) fun _=>?_
 simp only [go_sem,bne_self_eq_false,beq_self_eq_true]
 refine CallK.mk _ (by simpa only [go_sem] using eqQuery_spec d.q) fun _=>?_
 simp only [go_sem,bne_self_eq_false,beq_self_eq_true]
 refine CallK.mk _ (by simpa only [go_sem] using eqRefS_spec d.l) fun _=>?_
 simp only [go_sem,bne_self_eq_false,beq_self_eq_true]
 refine CallK.mk _ (by simpa only [go_sem] using eqRowS_spec d.got) fun _=>?_
 simp only [go_sem,bne_self_eq_false,beq_self_eq_true]
theorem eqTaskS_of (xs : List DTask) (hx : ∀ x ∈ xs,Ctr Tryz.prog 111 [.agg x.c,.agg x.c] [.val (.c (.v (.bool true)))]) : Ctr Tryz.prog 62 [.c (.sl (xs.map DTask.c)),.c (.sl (xs.map DTask.c))] [.val (.c (.v (.bool true)))]:=by
 refine Ctr.mk Tryz.call62 Tryz.func62 rfl mixed Tryz.ntmps62 Tryz.results62 (by kernel_rfl) rfl fun hw=>?_
 have hlen : xs.length ≤ 9223372036854775807:=by have:=hw.1.1; simpa [Go.maxLen] using this
 simp only [go_sem,List.length_map,bne_self_eq_false,beq_self_eq_true]
 refine LoopK.mk 0 [0,1,5] (A:=Nat) (fun k=>⟨27,[(0,.c (.sl (xs.map DTask.c))),(1,.c (.sl (xs.map DTask.c))),(5,.c (.v (.int .i64 k)))],[]⟩) (fun k=>k ≤ xs.length) (fun k=>xs.length - k) 0 ⟨⟨rfl,rfl⟩,rfl,Nat.zero_le _⟩ ?_
 intro k hk
 simp only [go_sem,List.length_map]
 refine cndC.mk (fun h=>?_) (fun h=>?_)
 ·have hk' : k < xs.length:=by simpa using h
  simp only [go_sem]
  refine DrawK.mk ?_
  simp only [go_sem,List.length_map,bne_self_eq_false,beq_self_eq_true,map_at _ hk',hk',wrap_i64 (n:=(k : Int) + 1) (by omega) (by omega)]
  refine CallF.mk _ (by simpa only [go_sem] using hx xs[k] (List.getElem_mem hk')) ?_
  simp only [go_sem,map_at _ hk',wrap_i64 (n:=(k : Int) + 1) (by omega) (by omega)]
  exact ⟨k + 1,⟨rfl,rfl⟩,rfl,by omega,by first | omega | (simp only; omega)⟩
 ·simp only [go_sem]
theorem eqTaskS_spec (xs : List DTask) : Ctr Tryz.prog 62 [.c (.sl (xs.map DTask.c)),.c (.sl (xs.map DTask.c))] [.val (.c (.v (.bool true)))]:=eqTaskS_of xs fun x _=>eqTask_spec x
theorem eqDeed_spec (d : DDeed) : Ctr Tryz.prog 112 [.agg d.c,.agg d.c] [.val (.c (.v (.bool true)))]:=by
 refine Ctr.mk Tryz.call112 Tryz.func112 rfl mixed Tryz.ntmps112 Tryz.results112 (by kernel_rfl) rfl fun _=>?_
 simp only [go_sem,bne_self_eq_false,beq_self_eq_true]
 refine CallK.mk _ (by simpa only [go_sem] using eqValS_spec d.r) fun _=>?_
 simp only [go_sem,bne_self_eq_false,beq_self_eq_true]
 refine CallK.mk _ (by simpa only [go_sem] using eqQuery_spec d.q) fun _=>?_
 simp only [go_sem,bne_self_eq_false,beq_self_eq_true]
 refine CallK.mk _ (by simpa only [go_sem] using eqResult_spec d.res) fun _=>?_
 simp only [go_sem,bne_self_eq_false,beq_self_eq_true]
theorem eqDeedS_of (xs : List DDeed) (hx : ∀ x ∈ xs,Ctr Tryz.prog 112 [.agg x.c,.agg x.c] [.val (.c (.v (.bool true)))]) : Ctr Tryz.prog 63 [.c (.sl (xs.map DDeed.c)),.c (.sl (xs.map DDeed.c))] [.val (.c (.v (.bool true)))]:=by
 refine Ctr.mk Tryz.call63 Tryz.func63 rfl mixed Tryz.ntmps63 Tryz.results63 (by kernel_rfl) rfl fun hw=>?_
 have hlen : xs.length ≤ 9223372036854775807:=by have:=hw.1.1; simpa [Go.maxLen] using this
 simp only [go_sem,List.length_map,bne_self_eq_false,beq_self_eq_true]
 refine LoopK.mk 0 [0,1,5] (A:=Nat) (fun k=>⟨27,[(0,.c (.sl (xs.map DDeed.c))),(1,.c (.sl (xs.map DDeed.c))),(5,.c (.v (.int .i64 k)))],[]⟩) (fun k=>k ≤ xs.length) (fun k=>xs.length - k) 0 ⟨⟨rfl,rfl⟩,rfl,Nat.zero_le _⟩ ?_
 intro k hk
 simp only [go_sem,List.length_map]
 refine cndC.mk (fun h=>?_) (fun h=>?_)
 ·have hk' : k < xs.length:=by simpa using h
  simp only [go_sem]
  refine DrawK.mk ?_
  simp only [go_sem,List.length_map,bne_self_eq_false,beq_self_eq_true,map_at _ hk',hk',wrap_i64 (n:=(k : Int) + 1) (by omega) (by omega)]
  refine CallF.mk _ (by simpa only [go_sem] using hx xs[k] (List.getElem_mem hk')) ?_
  simp only [go_sem,map_at _ hk',wrap_i64 (n:=(k : Int) + 1) (by omega) (by omega)]
  exact ⟨k + 1,⟨rfl,rfl⟩,rfl,by omega,by first | omega | (simp only; omega)⟩
 ·simp only [go_sem]
theorem eqDeedS_spec (xs : List DDeed) : Ctr Tryz.prog 63 [.c (.sl (xs.map DDeed.c)),.c (.sl (xs.map DDeed.c))] [.val (.c (.v (.bool true)))]:=eqDeedS_of xs fun x _=>eqDeed_spec x
theorem eqConf_spec (d : DConf) : Ctr Tryz.prog 57 [.agg d.c,.agg d.c] [.val (.c (.v (.bool true)))]:=by
 refine Ctr.mk Tryz.call57 Tryz.func57 rfl mixed Tryz.ntmps57 Tryz.results57 (by kernel_rfl) rfl fun _=>?_
 simp only [go_sem,bne_self_eq_false,beq_self_eq_true]
 refine CallK.mk _ (by simpa only [go_sem] using eqIntS_spec d.cols) fun _=>?_
 simp only [go_sem,bne_self_eq_false,beq_self_eq_true]
theorem eqWorld_spec (d : DWorld) : Ctr Tryz.prog 13 [.agg d.c,.agg d.c] [.val (.c (.v (.bool true)))]:=by
 refine Ctr.mk Tryz.call13 Tryz.func13 rfl mixed Tryz.ntmps13 Tryz.results13 (by kernel_rfl) rfl fun _=>?_
 simp only [go_sem,bne_self_eq_false,beq_self_eq_true]
 refine CallK.mk _ (by simpa only [go_sem] using eqConf_spec d.c0) fun _=>?_
 simp only [go_sem,bne_self_eq_false,beq_self_eq_true]
 refine CallK.mk _ (by simpa only [go_sem] using eqDir_spec d.d) fun _=>?_
 simp only [go_sem,bne_self_eq_false,beq_self_eq_true]
 refine CallK.mk _ (by simpa only [go_sem] using eqBufS_spec d.b) fun _=>?_
 simp only [go_sem,bne_self_eq_false,beq_self_eq_true]
 refine CallK.mk _ (by simpa only [go_sem] using eqIntS_spec d.m) fun _=>?_
 simp only [go_sem,bne_self_eq_false,beq_self_eq_true]
 refine CallK.mk _ (by simpa only [go_sem] using eqDeadS_spec d.x) fun _=>?_
 simp only [go_sem,bne_self_eq_false,beq_self_eq_true]
 refine CallK.mk _ (by simpa only [go_sem] using eqIntS_spec d.p) fun _=>?_
 simp only [go_sem,bne_self_eq_false,beq_self_eq_true]
 refine CallK.mk _ (by simpa only [go_sem] using eqTaskS_spec d.tasks) fun _=>?_
 simp only [go_sem,bne_self_eq_false,beq_self_eq_true]
 refine CallK.mk _ (by simpa only [go_sem] using eqDeedS_spec d.deeds) fun _=>?_
 simp only [go_sem,bne_self_eq_false,beq_self_eq_true]
end Go.Proofs.YthoeeoddgkjkkaaGreat
