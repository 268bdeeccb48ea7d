/- Walks: comparing values, zones of values, comparing rows and results. -/
import Derived.Test.YthoeeoddgkjkkaaGreatIa
import Derived.Test.YthoeeoddgkjkkaaGreatVmXa
namespace Go.Proofs.YthoeeoddgkjkkaaGreat
set_option linter.unusedSimpArgs false
set_option linter.unusedVariables false
open Go.Vm
set_option maxHeartbeats 2000000
set_option maxRecDepth 10000
def lessV (a b : DVal) : Bool:=if (a.ty != b.ty) = true then decide (a.ty < b.ty) else if (a.n != b.n) = true then decide (a.n < b.n) else Op.bytesLess a.s.toList b.s.toList
def eqV (a b : DVal) : Bool:=(a.ty == b.ty) && ((a.n == b.n) && (a.s.toList == b.s.toList))
theorem sLessVal_spec (a b : DVal) : Ctr Tryz.prog 170 [.agg a.c,.agg b.c] [.val (.c (.v (.bool (lessV a b))))]:=by
 refine Ctr.mk Tryz.call170 Tryz.func170 rfl mixed Tryz.ntmps170 Tryz.results170 (by kernel_rfl) rfl fun hw=>?_
 rcases h1 : a.ty != b.ty with _ | _ <;> rcases h2 : a.n != b.n with _ | _ <;> simp only [go_sem,h1,h2,lessV]
def sameV : List DVal → List DVal → Bool
 | [],[]=>true
 | a :: l,b :: m=>eqV a b && sameV l m
 | _,_=>false
theorem sameV_len : ∀ (a b : List DVal),a.length ≠ b.length → sameV a b = false
 | [],[],h=>by simp at h
 | [],_ :: _,_=>rfl
 | _ :: _,[],_=>rfl
 | a :: l,b :: m,h=>by simp only [sameV]; rw [sameV_len l m (by simpa using h)]; simp
theorem sameV_drop (a b : List DVal) {k : Nat} (h1 : k < a.length) (h2 : k < b.length) : sameV (a.drop k) (b.drop k) = (eqV a[k] b[k] && sameV (a.drop (k + 1)) (b.drop (k + 1))):=by
 rw [List.drop_eq_getElem_cons h1,List.drop_eq_getElem_cons h2]; rfl
theorem sSameVals_spec (a b : List DVal) (ha : a.length ≤ 1048576) (hb : b.length ≤ 1048576) : Ctr Tryz.prog 167 [.c (.sl (a.map DVal.c)),.c (.sl (b.map DVal.c))] [.val (.c (.v (.bool (sameV a b))))]:=by
 refine Ctr.mk Tryz.call167 Tryz.func167 rfl mixed Tryz.ntmps167 Tryz.results167 (by kernel_rfl) rfl fun hw=>?_
 simp only [go_sem,List.length_map]
 refine cndC.mk (fun h=>?_) (fun h=>?_)
 ·simp only [go_sem]
  rw [sameV_len a b (by simp at h; omega)]
 ·have he : a.length = b.length:=by simp at h; omega
  simp only [go_sem,List.length_map]
  refine LoopU.mk 0 (A:=Nat) (fun k=>[(5,.c (.v (.int .i64 (k))))]) (fun _=>[]) (fun k=>k ≤ a.length ∧ sameV (a.drop k) (b.drop k) = sameV a b) (fun k=>a.length - k) 0 ⟨⟨rfl,rfl⟩,rfl,Nat.zero_le _,rfl⟩ ?_
  rintro k ⟨hk,hf⟩
  simp only [go_sem,List.length_map]
  refine cndC.mk (fun h=>?_) (fun h=>?_)
  ·have hk' : k < a.length:=by simpa using h
   have hk2 : k < b.length:=by omega
   rw [sameV_drop a b hk' hk2] at hf
   simp only [go_sem,List.length_map,map_at _ hk',map_at _ hk2,hk',hk2]
   try refine DrawK.mk ?_
   try simp only [go_sem,List.length_map,map_at _ hk',map_at _ hk2,hk',hk2]
   have e1 : (a[k].ty == b[k].ty && (a[k].n == b[k].n && a[k].s.toList == b[k].s.toList)) = eqV a[k] b[k]:=rfl
   try simp only [eqBy,eq1,e1,Bool.and_true]
   rcases hv : eqV a[k] b[k] with _ | _
   ·simp only [go_sem,hv,e1,Bool.not_false,Bool.and_true]
    rw [hv,Bool.false_and] at hf
    rw [hf]
   ·simp only [go_sem,hv,e1,Bool.not_true,wrap_i64 (n:=(k : Int) + 1) (by omega) (by omega)]
    rw [hv,Bool.true_and] at hf
    exact ⟨k + 1,⟨rfl,rfl⟩,rfl,⟨by omega,hf⟩,by omega⟩
  ·have hk' : k = a.length:=by simp at h; omega
   subst hk'
   simp only [go_sem]
   rw [← hf,List.drop_length,he,List.drop_length]; rfl
theorem eqVals_spec (a b : List DVal) (ha : a.length ≤ 1048576) (hb : b.length ≤ 1048576) : Ctr Tryz.prog 198 [.c (.sl (a.map DVal.c)),.c (.sl (b.map DVal.c))] [.val (.c (.v (.bool (sameV a b))))]:=by
 refine Ctr.mk Tryz.call198 Tryz.func198 rfl mixed Tryz.ntmps198 Tryz.results198 (by kernel_rfl) rfl fun hw=>?_
 simp only [go_sem,List.length_map]
 refine cndC.mk (fun h=>?_) (fun h=>?_)
 ·simp only [go_sem]
  rw [sameV_len a b (by simp at h; omega)]
 ·have he : a.length = b.length:=by simp at h; omega
  simp only [go_sem,List.length_map]
  refine LoopU.mk 0 (A:=Nat) (fun k=>[(13,.c (.v (.int .i64 (k))))]) (fun _=>[]) (fun k=>k ≤ a.length ∧ sameV (a.drop k) (b.drop k) = sameV a b) (fun k=>a.length - k) 0 ⟨⟨rfl,rfl⟩,rfl,Nat.zero_le _,rfl⟩ ?_
  rintro k ⟨hk,hf⟩
  simp only [go_sem,List.length_map]
  refine cndC.mk (fun h=>?_) (fun h=>?_)
  ·have hk' : k < a.length:=by simpa using h
   have hk2 : k < b.length:=by omega
   rw [sameV_drop a b hk' hk2] at hf
   simp only [go_sem,List.length_map,map_at _ hk',map_at _ hk2,hk',hk2]
   try refine DrawK.mk ?_
   try simp only [go_sem,List.length_map,map_at _ hk',map_at _ hk2,hk',hk2]
   have e1 : (a[k].ty == b[k].ty && (a[k].n == b[k].n && a[k].s.toList == b[k].s.toList)) = eqV a[k] b[k]:=rfl
   try simp only [eqBy,eq1,e1,Bool.and_true]
   rcases hv : eqV a[k] b[k] with _ | _
   ·simp only [go_sem,hv,e1,Bool.not_false,Bool.and_true]
    rw [hv,Bool.false_and] at hf
    rw [hf]
   ·simp only [go_sem,hv,e1,Bool.not_true,wrap_i64 (n:=(k : Int) + 1) (by omega) (by omega)]
    rw [hv,Bool.true_and] at hf
    exact ⟨k + 1,⟨rfl,rfl⟩,rfl,⟨by omega,hf⟩,by omega⟩
  ·have hk' : k = a.length:=by simp at h; omega
   subst hk'
   simp only [go_sem]
   rw [← hf,List.drop_length,he,List.drop_length]; rfl
theorem iSameVals_spec (a b : List DVal) (ha : a.length ≤ 1048576) (hb : b.length ≤ 1048576) : Ctr Tryz.prog 168 [.c (.sl (a.map DVal.c)),.c (.sl (b.map DVal.c))] [.val (.c (.v (.bool (sameV a b))))]:=by
 refine Ctr.mk Tryz.call168 Tryz.func168 rfl mixed Tryz.ntmps168 Tryz.results168 (by kernel_rfl) rfl fun hw=>?_
 simp only [go_sem,List.length_map]
 refine CallK.mk _ (eqVals_spec a b ha hb) fun _=>?_
 simp only [go_sem]
def sameRow (a b : DRow) : Bool:=(a.id == b.id) && sameV a.l b.l
theorem sSameRow_spec (a b : DRow) (ha : a.l.length ≤ 1048576) (hb : b.l.length ≤ 1048576) : Ctr Tryz.prog 117 [.agg a.c,.agg b.c] [.val (.c (.v (.bool (sameRow a b))))]:=by
 refine Ctr.mk Tryz.call117 Tryz.func117 rfl mixed Tryz.ntmps117 Tryz.results117 (by kernel_rfl) rfl fun hw=>?_
 rcases h1 : a.id == b.id with _ | _
 ·simp only [go_sem,h1]
  simp only [sameRow,h1,Bool.false_and]
 ·simp only [go_sem,h1]
  refine CallK.mk _ (sSameVals_spec a.l b.l ha hb) fun _=>?_
  simp only [go_sem,h1]
  simp only [sameRow,h1,Bool.true_and]
theorem iSameRow_spec (a b : DRow) (ha : a.l.length ≤ 1048576) (hb : b.l.length ≤ 1048576) : Ctr Tryz.prog 119 [.agg a.c,.agg b.c] [.val (.c (.v (.bool (sameRow a b))))]:=by
 refine Ctr.mk Tryz.call119 Tryz.func119 rfl mixed Tryz.ntmps119 Tryz.results119 (by kernel_rfl) rfl fun hw=>?_
 rcases h1 : a.id == b.id with _ | _
 ·simp only [go_sem,h1]
  simp only [sameRow,h1,Bool.false_and]
 ·simp only [go_sem,h1]
  refine CallK.mk _ (iSameVals_spec a.l b.l ha hb) fun _=>?_
  simp only [go_sem,h1]
  simp only [sameRow,h1,Bool.true_and]
def sameRows : List DRow → List DRow → Bool
 | [],[]=>true
 | a :: l,b :: m=>sameRow a b && sameRows l m
 | _,_=>false
theorem sameRows_len : ∀ (a b : List DRow),a.length ≠ b.length → sameRows a b = false
 | [],[],h=>by simp at h
 | [],_ :: _,_=>rfl
 | _ :: _,[],_=>rfl
 | a :: l,b :: m,h=>by simp only [sameRows]; rw [sameRows_len l m (by simpa using h)]; simp
theorem sameRows_drop (a b : List DRow) {k : Nat} (h1 : k < a.length) (h2 : k < b.length) : sameRows (a.drop k) (b.drop k) = (sameRow a[k] b[k] && sameRows (a.drop (k + 1)) (b.drop (k + 1))):=by
 rw [List.drop_eq_getElem_cons h1,List.drop_eq_getElem_cons h2]; rfl
end Go.Proofs.YthoeeoddgkjkkaaGreat
