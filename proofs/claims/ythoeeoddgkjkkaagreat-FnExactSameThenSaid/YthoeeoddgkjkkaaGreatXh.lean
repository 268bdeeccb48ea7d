/- Walks: the same at all moments; hidden rows. -/
import Derived.Test.YthoeeoddgkjkkaaGreatXg
import Derived.Test.YthoeeoddgkjkkaaGreatXe
namespace Go.Proofs.YthoeeoddgkjkkaaGreat
set_option linter.unusedSimpArgs false
set_option linter.unusedVariables false
open Go.Vm
set_option maxHeartbeats 2000000
set_option maxRecDepth 10000
def refAt (w : DWorld) (i : Nat) : DRef := (w.d.l[i]?).getD ⟨0, 0, 0, 0, 0⟩
theorem refAt_eq {w : DWorld} {i : Nat} (h : i < w.d.l.length) : refAt w i = w.d.l[i] := by simp [refAt, h]
theorem moments_len (w : DWorld) : (moments w).length ≤ 40:=by
 unfold moments momK
 rw [List.length_reverse,desc_len]
 omega
noncomputable def sameThen (a b : DWorld) : Bool:=(moments a).all fun ts=>sameRows (tableAt a ts) (tableAt b ts)
theorem all_from {α : Type} (p : α → Bool) {l : List α} {k : Nat} (h : k < l.length) : (l.drop k).all p = (p l[k] && (l.drop (k + 1)).all p):=by
 rw [List.drop_eq_getElem_cons h,List.all_cons]
theorem iSameThen_spec (a b : DWorld) (ha : fitWorld a) (hb : fitWorld b) : Ctr Tryz.prog 17 [.agg a.c,.agg b.c] [.val (.c (.v (.bool (sameThen a b))))]:=by
 refine Ctr.mk Tryz.call17 Tryz.func17 rfl mixed Tryz.ntmps17 Tryz.results17 (by kernel_rfl) rfl fun hw=>?_
 have hml:=moments_len a
 simp only [go_sem]
 refine CallK.mk _ (by simpa only [go_sem] using (iMoments_spec a ha).val (pe_int _)) fun _=>?_
 simp only [go_sem]
 refine LoopU.mk 2 (A:=Nat) (fun x=>[(10,.c (.v (.int .i64 (x))))]) (fun _=>[⟨46,14,[a.c],true,true⟩,⟨46,14,[b.c],true,true⟩]) (fun x=>x ≤ (moments a).length ∧ ((moments a).drop x).all (fun ts=>sameRows (tableAt a ts) (tableAt b ts)) = sameThen a b) (fun x=>(moments a).length - x) 0 ⟨⟨rfl,rfl⟩,rfl,Nat.zero_le _,rfl⟩ ?_
 rintro k ⟨hk,hb2⟩
 simp only [go_sem]
 refine cndC.mk (fun h=>?_) (fun h=>?_)
 ·have hk' : k < (moments a).length:=by simpa using h
  rw [all_from _ hk'] at hb2
  have e1:=map_at intC hk'
  generalize (moments a)[k] = ts at hb2 e1
  simp only [go_sem,e1]
  try refine DrawK.mk ?_
  try simp only [go_sem,e1]
  refine CallF.mk _ (by simpa only [go_sem] using (iTableAt_spec a ts ha).valO (erE_Row _)) ?_
  simp only [go_sem,e1]
  refine CallF.mk _ (by simpa only [go_sem] using (iTableAt_spec b ts hb).valO (erE_Row _)) ?_
  simp only [go_sem,e1]
  refine CallF.mk _ (iSameRows_spec _ _ (tableAt_fit a ts ha) (tableAt_fit b ts hb)) ?_
  rcases hc : sameRows (tableAt a ts) (tableAt b ts) with _ | _
  ·rw [hc,Bool.false_and] at hb2
   rw [← hb2]
   simp only [go_sem,hc]
  ·rw [hc,Bool.true_and] at hb2
   simp only [go_sem,hc,wrap_i64 (n:=(k : Int) + 1) (by omega) (by omega)]
   exact ⟨k + 1,⟨rfl,rfl⟩,rfl,⟨hk',hb2⟩,by omega⟩
 ·have hk' : k = (moments a).length:=by simp at h; omega
  subst hk'
  rw [List.drop_length] at hb2
  rw [← hb2]
  simp only [go_sem]
  try rfl
theorem sSameThen_spec (a b : DWorld) (ha : fitWorld a) (hb : fitWorld b) : Ctr Tryz.prog 16 [.agg a.c,.agg b.c] [.val (.c (.v (.bool (sameThen a b))))]:=by
 refine Ctr.mk Tryz.call16 Tryz.func16 rfl mixed Tryz.ntmps16 Tryz.results16 (by kernel_rfl) rfl fun hw=>?_
 have hml:=moments_len a
 simp only [go_sem]
 refine CallK.mk _ (by simpa only [go_sem] using (sMoments_spec a ha).val (pe_int _)) fun _=>?_
 simp only [go_sem]
 refine LoopU.mk 2 (A:=Nat) (fun x=>[(6,.c (.v (.int .i64 (x))))]) (fun _=>[⟨46,14,[a.c],true,true⟩,⟨46,14,[b.c],true,true⟩]) (fun x=>x ≤ (moments a).length ∧ ((moments a).drop x).all (fun ts=>sameRows (tableAt a ts) (tableAt b ts)) = sameThen a b) (fun x=>(moments a).length - x) 0 ⟨⟨rfl,rfl⟩,rfl,Nat.zero_le _,rfl⟩ ?_
 rintro k ⟨hk,hb2⟩
 simp only [go_sem]
 refine cndC.mk (fun h=>?_) (fun h=>?_)
 ·have hk' : k < (moments a).length:=by simpa using h
  rw [all_from _ hk'] at hb2
  have e1:=map_at intC hk'
  generalize (moments a)[k] = ts at hb2 e1
  simp only [go_sem,e1]
  try refine DrawK.mk ?_
  try simp only [go_sem,e1]
  refine CallF.mk _ (by simpa only [go_sem] using (sTableAt_spec a ts ha).valO (erE_Row _)) ?_
  simp only [go_sem,e1]
  refine CallF.mk _ (by simpa only [go_sem] using (sTableAt_spec b ts hb).valO (erE_Row _)) ?_
  simp only [go_sem,e1]
  refine CallF.mk _ (sSameRows_spec _ _ (tableAt_fit a ts ha) (tableAt_fit b ts hb)) ?_
  rcases hc : sameRows (tableAt a ts) (tableAt b ts) with _ | _
  ·rw [hc,Bool.false_and] at hb2
   rw [← hb2]
   simp only [go_sem,hc]
  ·rw [hc,Bool.true_and] at hb2
   simp only [go_sem,hc,wrap_i64 (n:=(k : Int) + 1) (by omega) (by omega)]
   exact ⟨k + 1,⟨rfl,rfl⟩,rfl,⟨hk',hb2⟩,by omega⟩
 ·have hk' : k = (moments a).length:=by simp at h; omega
  subst hk'
  rw [List.drop_length] at hb2
  rw [← hb2]
  simp only [go_sem]
  try rfl
noncomputable def hid1 (w : DWorld) (r : DRow) : Bool:=!(findR (tableAt w (horizon w)) r.id).isSome && !(findR (tableAt w w.t) r.id).isSome
noncomputable def hidC (w : DWorld) (r : DRef) : Nat:=(rowsIn w r w.t).countP (hid1 w)
noncomputable def hidUp (w : DWorld) : Nat → Nat
 | 0=>0
 | k + 1=>hidUp w k + hidC w (refAt w k)
noncomputable def hidJ (w : DWorld) (k : Nat) (rows : List DRow) (j : Nat) : Nat:=hidUp w k + (rows.take j).countP (hid1 w)
theorem hidC_le (w : DWorld) (r : DRef) (hf : fitWorld w) : hidC w r ≤ 1048576:=Nat.le_trans List.countP_le_length (rowsIn_fit w r w.t hf).1
theorem hidUp_le (w : DWorld) (hf : fitWorld w) : ∀ k,hidUp w k ≤ k * 1048576
 | 0=>Nat.le_refl _
 | k + 1=>by
  have h1:=hidUp_le w hf k
  have h2:=hidC_le w (refAt w k) hf
  simp only [hidUp]; omega
theorem countP_take {α : Type} (p : α → Bool) {l : List α} {k : Nat} (h : k < l.length) : (l.take (k + 1)).countP p = (l.take k).countP p + (if p l[k] = true then 1 else 0):=by
 rw [List.take_add_one,List.getElem?_eq_getElem h,List.countP_append]
 simp [List.countP_cons]
def fwI : Option DRow → Int
 | none=>0
 | some r=>r.id
def fwL : Option DRow → List DVal
 | none=>[]
 | some r=>r.l
theorem foundW_frz (o : Option DRow) (b : Bool) : [foundQ o,.val (.c (.v (.bool (b))))].map frz1 = [.val (.agg [.v (.int .i64 (fwI o)),.sl ((fwL o).map DVal.c)]),.val (.c (.v (.bool (b))))]:=by
 cases o with
 | none=>rfl
 | some r=>simp only [foundQ,fwI,fwL,List.map_cons,List.map_nil,frz1,DRow.o_er]; rfl
theorem iFindW_spec (l : List DRow) (n : Int) (ha : fitB fitRow l) : Ctr Tryz.prog 67 [.c (.sl (l.map DRow.c)),.c (.v (.int .i64 (n)))] [.val (.agg [.v (.int .i64 (fwI (findR l n))),.sl ((fwL (findR l n)).map DVal.c)]),.val (.c (.v (.bool ((findR l n).isSome))))]:=by
 rw [← foundW_frz]; exact (iFind_spec l n ha).frz
theorem sFindW_spec (l : List DRow) (n : Int) (ha : fitB fitRow l) : Ctr Tryz.prog 65 [.c (.sl (l.map DRow.c)),.c (.v (.int .i64 (n)))] [.val (.agg [.v (.int .i64 (fwI (findR l n))),.sl ((fwL (findR l n)).map DVal.c)]),.val (.c (.v (.bool ((findR l n).isSome))))]:=by
 rw [← foundW_frz]; exact (sFind_spec l n ha).frz
theorem iHidden_spec (w : DWorld) (hf : fitWorld w) : Ctr Tryz.prog 15 [.agg w.c] [.val (.c (.v (.int .i64 (hidUp w w.d.l.length))))]:=by
 refine Ctr.mk Tryz.call15 Tryz.func15 rfl mixed Tryz.ntmps15 Tryz.results15 (by kernel_rfl) rfl fun hw=>?_
 have hrl:=fitRefs hf
 have fe:=tableAt_fit w (horizon w) hf
 have fl:=tableAt_fit w w.t hf
 have hh : ∀ r,hid1 w r = (!(findR (tableAt w (horizon w)) r.id).isSome && !(findR (tableAt w w.t) r.id).isSome):=fun _=>rfl
 simp only [go_sem]
 refine DrawK.mk ?_
 simp only [go_sem]
 refine CallF.mk _ (by simpa only [go_sem] using iHorizon_spec w hf) ?_
 simp only [go_sem]
 refine CallF.mk _ (by simpa only [go_sem] using (iTableAt_spec w (horizon w) hf).valO (erE_Row _)) ?_
 simp only [go_sem]
 refine CallF.mk _ (by simpa only [go_sem] using (iTableAt_spec w w.t hf).valO (erE_Row _)) ?_
 generalize tableAt w (horizon w) = early at fe hh ⊢
 generalize tableAt w w.t = late at fl hh ⊢
 simp only [go_sem]
 refine LoopU.mk 1 (A:=Nat) (fun x=>[(26,.c (.v (.int .i64 (x)))),(3,.c (.v (.int .i64 (hidUp w x))))]) (fun _=>[⟨46,14,[w.c],true,true⟩]) (fun x=>x ≤ w.d.l.length) (fun x=>w.d.l.length - x) 0 ⟨⟨rfl,rfl⟩,rfl,Nat.zero_le _⟩ ?_
 intro k hk
 simp only [go_sem]
 refine cndC.mk (fun h=>?_) (fun h=>?_)
 ·have hk' : k < w.d.l.length:=by simpa using h
  have hup : hidUp w (k + 1) = hidUp w k + (rowsIn w w.d.l[k] w.t).countP (hid1 w):=by rw [hidUp,refAt_eq hk']; rfl
  have hb1:=hidUp_le w hf k
  have hb3 : k * 1048576 ≤ 1048576 * 1048576:=Nat.mul_le_mul_right _ (by omega)
  have hlr:=(rowsIn_fit w w.d.l[k] w.t hf).1
  have sr:=(iRowsIn_spec w w.d.l[k] w.t hf).valO (erE_Row _)
  have e1:=map_at DRef.c hk'
  have hwk : IntKind.i64.wrap ((k : Int) + 1) = (k : Int) + 1:=wrap_i64 (by omega) (by omega)
  generalize rowsIn w w.d.l[k] w.t = rows at hup hlr sr
  generalize w.d.l[k] = rf at sr e1
  simp only [go_sem,e1]
  try refine DrawK.mk ?_
  try simp only [go_sem,e1]
  first | refine CallF.mk _ (by simpa only [go_sem] using sr) ?_ | refine CallK.mk _ (by simpa only [go_sem] using sr) fun _=>?_
  simp only [go_sem]
  refine LoopU.mk 2 (A:=Nat) (fun x=>[(36,.c (.v (.int .i64 (x)))),(3,.c (.v (.int .i64 (hidJ w k rows x))))]) (fun _=>[⟨46,14,[w.c],true,true⟩,⟨56,5,[rf.c],true,true⟩]) (fun x=>x ≤ rows.length) (fun x=>rows.length - x) 0 ⟨⟨rfl,rfl⟩,rfl,Nat.zero_le _⟩ ?_
  intro j hj
  have hct : (rows.take j).countP (hid1 w) ≤ j:=Nat.le_trans List.countP_le_length (by simp; omega)
  simp only [go_sem]
  refine cndC.mk (fun h=>?_) (fun h=>?_)
  ·have hj' : j < rows.length:=by simpa using h
   have e2:=map_at DRow.c hj'
   have hh1:=hh rows[j]
   have hwj : IntKind.i64.wrap ((j : Int) + 1) = (j : Int) + 1:=wrap_i64 (by omega) (by omega)
   have hwn : IntKind.i64.wrap ((hidJ w k rows j : Int) + 1) = (hidJ w k rows j : Int) + 1:=wrap_i64 (by omega) (by unfold hidJ; omega)
   have hjs : hidJ w k rows (j + 1) = hidJ w k rows j + (if hid1 w rows[j] = true then 1 else 0):=by unfold hidJ; rw [countP_take (hid1 w) hj']; omega
   generalize rows[j] = row at e2 hjs hh1
   simp only [go_sem,e2]
   first | refine CallK.mk _ (by simpa only [go_sem] using iFindW_spec early row.id fe) fun _=>?_ | (refine DrawK.mk ?_; simp only [go_sem,e2]; refine CallF.mk _ (by simpa only [go_sem] using iFindW_spec early row.id fe) ?_)
   simp only [go_sem,e2]
   first | refine CallK.mk _ (by simpa only [go_sem] using iFindW_spec late row.id fl) fun _=>?_ | (refine DrawK.mk ?_; simp only [go_sem,e2]; refine CallF.mk _ (by simpa only [go_sem] using iFindW_spec late row.id fl) ?_)
   simp only [go_sem,e2]
   generalize (findR early row.id).isSome = ie at hh1 ⊢
   generalize (findR late row.id).isSome = il at hh1 ⊢
   rcases ie with _ | _
   rotate_left
   ·have hj2 : hidJ w k rows (j + 1) = hidJ w k rows j:=by rw [hjs,hh1]; simp
    simp only [go_sem,hwj]
    exact ⟨j + 1,⟨rfl,rfl⟩,by rw [hj2]; rfl,hj',by omega⟩
   rcases il with _ | _
   rotate_left
   ·have hj2 : hidJ w k rows (j + 1) = hidJ w k rows j:=by rw [hjs,hh1]; simp
    simp only [go_sem,hwj]
    exact ⟨j + 1,⟨rfl,rfl⟩,by rw [hj2]; rfl,hj',by omega⟩
   have hj2 : hidJ w k rows (j + 1) = hidJ w k rows j + 1:=by rw [hjs,hh1]; simp
   simp only [go_sem,hwj,hwn]
   exact ⟨j + 1,⟨rfl,rfl⟩,by rw [hj2]; rfl,hj',by omega⟩
  ·have hj' : j = rows.length:=by simp at h; omega
   subst hj'
   have hjf : hidJ w k rows rows.length = hidUp w (k + 1):=by unfold hidJ; rw [List.take_length,hup]
   simp only [go_sem,hwk,hjf]
   exact ⟨k + 1,⟨rfl,rfl⟩,rfl,hk',by omega⟩
 ·have hk' : k = w.d.l.length:=by simp at h; omega
  subst hk'
  simp only [go_sem]
  try rfl
theorem sHidden_spec (w : DWorld) (hf : fitWorld w) : Ctr Tryz.prog 14 [.agg w.c] [.val (.c (.v (.int .i64 (hidUp w w.d.l.length))))]:=by
 refine Ctr.mk Tryz.call14 Tryz.func14 rfl mixed Tryz.ntmps14 Tryz.results14 (by kernel_rfl) rfl fun hw=>?_
 have hrl:=fitRefs hf
 have fe:=tableAt_fit w (horizon w) hf
 have fl:=tableAt_fit w w.t hf
 have hh : ∀ r,hid1 w r = (!(findR (tableAt w (horizon w)) r.id).isSome && !(findR (tableAt w w.t) r.id).isSome):=fun _=>rfl
 simp only [go_sem]
 refine DrawK.mk ?_
 simp only [go_sem]
 refine CallF.mk _ (by simpa only [go_sem] using sHorizon_spec w hf) ?_
 simp only [go_sem]
 refine CallF.mk _ (by simpa only [go_sem] using (sTableAt_spec w (horizon w) hf).valO (erE_Row _)) ?_
 generalize tableAt w (horizon w) = early at fe hh ⊢
 simp only [go_sem]
 try refine DrawK.mk ?_
 try simp only [go_sem]
 first | refine CallF.mk _ (by simpa only [go_sem] using (sTableAt_spec w w.t hf).valO (erE_Row _)) ?_ | refine CallK.mk _ (by simpa only [go_sem] using (sTableAt_spec w w.t hf).valO (erE_Row _)) fun _=>?_
 generalize tableAt w w.t = late at fl hh ⊢
 simp only [go_sem]
 refine LoopU.mk 1 (A:=Nat) (fun x=>[(6,.c (.v (.int .i64 (x)))),(3,.c (.v (.int .i64 (hidUp w x))))]) (fun _=>[⟨46,14,[w.c],true,true⟩]) (fun x=>x ≤ w.d.l.length) (fun x=>w.d.l.length - x) 0 ⟨⟨rfl,rfl⟩,rfl,Nat.zero_le _⟩ ?_
 intro k hk
 simp only [go_sem]
 refine cndC.mk (fun h=>?_) (fun h=>?_)
 ·have hk' : k < w.d.l.length:=by simpa using h
  have hup : hidUp w (k + 1) = hidUp w k + (rowsIn w w.d.l[k] w.t).countP (hid1 w):=by rw [hidUp,refAt_eq hk']; rfl
  have hb1:=hidUp_le w hf k
  have hb3 : k * 1048576 ≤ 1048576 * 1048576:=Nat.mul_le_mul_right _ (by omega)
  have hlr:=(rowsIn_fit w w.d.l[k] w.t hf).1
  have sr:=(sRowsIn_spec w w.d.l[k] w.t hf).valO (erE_Row _)
  have e1:=map_at DRef.c hk'
  have hwk : IntKind.i64.wrap ((k : Int) + 1) = (k : Int) + 1:=wrap_i64 (by omega) (by omega)
  generalize rowsIn w w.d.l[k] w.t = rows at hup hlr sr
  generalize w.d.l[k] = rf at sr e1
  simp only [go_sem,e1]
  try refine DrawK.mk ?_
  try simp only [go_sem,e1]
  first | refine CallF.mk _ (by simpa only [go_sem] using sr) ?_ | refine CallK.mk _ (by simpa only [go_sem] using sr) fun _=>?_
  simp only [go_sem]
  refine LoopU.mk 1 (A:=Nat) (fun x=>[(8,.c (.v (.int .i64 (x)))),(3,.c (.v (.int .i64 (hidJ w k rows x))))]) (fun _=>[⟨46,14,[w.c],true,true⟩]) (fun x=>x ≤ rows.length) (fun x=>rows.length - x) 0 ⟨⟨rfl,rfl⟩,rfl,Nat.zero_le _⟩ ?_
  intro j hj
  have hct : (rows.take j).countP (hid1 w) ≤ j:=Nat.le_trans List.countP_le_length (by simp; omega)
  simp only [go_sem]
  refine cndC.mk (fun h=>?_) (fun h=>?_)
  ·have hj' : j < rows.length:=by simpa using h
   have e2:=map_at DRow.c hj'
   have hh1:=hh rows[j]
   have hwj : IntKind.i64.wrap ((j : Int) + 1) = (j : Int) + 1:=wrap_i64 (by omega) (by omega)
   have hwn : IntKind.i64.wrap ((hidJ w k rows j : Int) + 1) = (hidJ w k rows j : Int) + 1:=wrap_i64 (by omega) (by unfold hidJ; omega)
   have hjs : hidJ w k rows (j + 1) = hidJ w k rows j + (if hid1 w rows[j] = true then 1 else 0):=by unfold hidJ; rw [countP_take (hid1 w) hj']; omega
   generalize rows[j] = row at e2 hjs hh1
   simp only [go_sem,e2]
   first | refine CallK.mk _ (by simpa only [go_sem] using sFindW_spec early row.id fe) fun _=>?_ | (refine DrawK.mk ?_; simp only [go_sem,e2]; refine CallF.mk _ (by simpa only [go_sem] using sFindW_spec early row.id fe) ?_)
   simp only [go_sem,e2]
   first | refine CallK.mk _ (by simpa only [go_sem] using sFindW_spec late row.id fl) fun _=>?_ | (refine DrawK.mk ?_; simp only [go_sem,e2]; refine CallF.mk _ (by simpa only [go_sem] using sFindW_spec late row.id fl) ?_)
   simp only [go_sem,e2]
   generalize (findR early row.id).isSome = ie at hh1 ⊢
   generalize (findR late row.id).isSome = il at hh1 ⊢
   rcases ie with _ | _
   rotate_left
   ·have hj2 : hidJ w k rows (j + 1) = hidJ w k rows j:=by rw [hjs,hh1]; simp
    simp only [go_sem,hwj]
    exact ⟨j + 1,⟨rfl,rfl⟩,by rw [hj2]; rfl,hj',by omega⟩
   rcases il with _ | _
   rotate_left
   ·have hj2 : hidJ w k rows (j + 1) = hidJ w k rows j:=by rw [hjs,hh1]; simp
    simp only [go_sem,hwj]
    exact ⟨j + 1,⟨rfl,rfl⟩,by rw [hj2]; rfl,hj',by omega⟩
   have hj2 : hidJ w k rows (j + 1) = hidJ w k rows j + 1:=by rw [hjs,hh1]; simp
   simp only [go_sem,hwj,hwn]
   exact ⟨j + 1,⟨rfl,rfl⟩,by rw [hj2]; rfl,hj',by omega⟩
  ·have hj' : j = rows.length:=by simp at h; omega
   subst hj'
   have hjf : hidJ w k rows rows.length = hidUp w (k + 1):=by unfold hidJ; rw [List.take_length,hup]
   simp only [go_sem,hwk,hjf]
   exact ⟨k + 1,⟨rfl,rfl⟩,rfl,hk',by omega⟩
 ·have hk' : k = w.d.l.length:=by simp at h; omega
  subst hk'
  simp only [go_sem]
  try rfl
end Go.Proofs.YthoeeoddgkjkkaaGreat
