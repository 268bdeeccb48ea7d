/- Walks: groups. -/
import Derived.Test.YthoeeoddgkjkkaaGreatYp
import Derived.Test.YthoeeoddgkjkkaaGreatIa
namespace Go.Proofs.YthoeeoddgkjkkaaGreat
set_option linter.unusedSimpArgs false
set_option linter.unusedVariables false
open Go.Vm
set_option maxHeartbeats 2000000
set_option maxRecDepth 10000
def rowGt (cs : List Int) (l : List DRow) (i : Nat) : Prop:=∀ h : i < l.length,(rowOk cs l[i] = true ∧ (0 < i → l[i - 1].id < l[i].id)) ∧ l[i].id ≤ 1000000000
theorem grpOk_no {cs : List Int} {l : List DRow} {i : Nat} (h : ¬ rowGt cs l i) : grpOk cs l = false:=by
 rw [Bool.eq_false_iff]
 intro hg
 simp only [grpOk,Bool.and_eq_true,decide_eq_true_eq] at hg
 refine h fun hi=>⟨?_,hg.2.2 _ (List.getElem_mem hi)⟩
 by_cases hr : rowAt cs l i
 ·exact hr hi
 ·rw [rowsOk_no hr] at hg
  cases hg.2.1
theorem grpOk_yes {cs : List Int} {l : List DRow} (h : ∀ i,i < l.length → rowGt cs l i) : grpOk cs l = (colsOk cs && decide (l.length ≤ 12)):=by
 have h1 : rowsOk cs l = true:=rowsOk_yes fun i hi _=>(h i hi hi).1
 have h2 : decide (∀ r ∈ l,r.id ≤ 1000000000) = true:=decide_eq_true fun r hr=>by
  obtain ⟨i,hi,rfl⟩:=List.getElem_of_mem hr
  exact (h i hi hi).2
 simp only [grpOk,h1,h2,Bool.and_true]
theorem iRowsOk_spec (cs : List Int) (l : List DRow) (hl : l.length ≤ 1048576) : Ctr Tryz.prog 161 [.c (.sl (cs.map intC)),.c (.sl (l.map DRow.c))] [.val (.c (.v (.bool (grpOk cs l))))]:=by
 refine Ctr.mk Tryz.call161 Tryz.func161 rfl mixed Tryz.ntmps161 Tryz.results161 (by kernel_rfl) rfl fun hw=>?_
 simp only [go_sem]
 refine CallK.mk _ (iCols_spec _) fun _=>?_
 rcases hc : colsOk cs with _ | _
 ·have e : grpOk cs l = false:=by simp only [grpOk,hc,Bool.false_and]
  simp only [go_sem,hc,e]
 rcases h12 : decide ((l.length : Int) > 12) with _ | _
 rotate_left
 ·have e : grpOk cs l = false:=by
   have : decide (l.length ≤ 12) = false:=by simp at h12 ⊢; omega
   simp only [grpOk,this,Bool.and_false,Bool.false_and]
  simp only [go_sem,hc,h12,e]
 have h12' : decide (l.length ≤ 12) = true:=by simp at h12 ⊢; omega
 simp only [go_sem,hc,h12]
 refine LoopU.mk 0 (A:=Nat) (fun x=>[(17,.c (.v (.int .i64 (x))))]) (fun _=>[]) (fun k=>k ≤ l.length ∧ ∀ i,i < k → rowGt cs l i) (fun k=>l.length - k) 0 ⟨⟨rfl,rfl⟩,rfl,Nat.zero_le _,fun i h=>by omega⟩ ?_
 rintro k ⟨hk,hf⟩
 simp only [go_sem]
 refine cndC.mk (fun h=>?_) (fun h=>?_)
 ·have hk' : k < l.length:=by simpa using h
  have hnext : rowGt cs l k → ∀ i,i < k + 1 → rowGt cs l i:=by
   intro hg i hi
   by_cases e : i = k
   ·subst e; exact hg
   ·exact hf i (by omega)
  simp only [go_sem,map_at _ hk']
  refine DrawK.mk ?_
  simp only [go_sem,map_at _ hk',hk']
  refine CallF.mk _ (by simpa only [go_sem] using iRowOk_spec cs l[k]) ?_
  rcases hv : rowOk cs l[k] with _ | _
  ·have hno : ¬ rowGt cs l k:=by intro hg; have:=(hg hk').1.1; rw [hv] at this; cases this
   simp only [go_sem,hv,grpOk_no hno]
  rcases hid : decide (l[k].id > 1000000000) with _ | _
  rotate_left
  ·have hno : ¬ rowGt cs l k:=by intro hg; have:=(hg hk').2; simp at hid; omega
   simp only [go_sem,hv,hid,map_at _ hk',hk',grpOk_no hno]
  have hid' : l[k].id ≤ 1000000000:=by simp at hid; omega
  rcases Nat.eq_zero_or_pos k with hz | hz
  ·have hp : decide ((k : Int) > 0) = false:=by simp; omega
   simp only [go_sem,hv,hid,hp,map_at _ hk',hk',wrap_i64 (n:=(k : Int) + 1) (by omega) (by omega)]
   exact ⟨k + 1,⟨rfl,rfl⟩,rfl,⟨by omega,hnext fun _=>⟨⟨hv,fun h0=>by omega⟩,hid'⟩⟩,by omega⟩
  ·have hp : decide ((k : Int) > 0) = true:=by simp; omega
   have hk1 : k - 1 < l.length:=by omega
   have hw1 : IntKind.i64.wrap ((k : Int) - 1) = ((k - 1 : Nat) : Int):=by rw [wrap_i64 (by omega) (by omega)]; omega
   rcases hq : decide (l[k - 1].id ≥ l[k].id) with _ | _
   ·simp only [go_sem,hv,hid,hp,hw1,map_at _ hk',map_at _ hk1,hk',hk1,hq,wrap_i64 (n:=(k : Int) + 1) (by omega) (by omega)]
    exact ⟨k + 1,⟨rfl,rfl⟩,rfl,⟨by omega,hnext fun _=>⟨⟨hv,fun _=>by simp at hq; omega⟩,hid'⟩⟩,by omega⟩
   ·have hno : ¬ rowGt cs l k:=by intro hg; have:=(hg hk').1.2 hz; simp at hq; omega
    simp only [go_sem,hv,hid,hp,hw1,map_at _ hk',map_at _ hk1,hk',hk1,hq,grpOk_no hno]
 ·have hk' : k = l.length:=by simp at h; omega
  subst hk'
  simp only [go_sem,grpOk_yes hf,hc,h12',Bool.and_true]
theorem sRowsOk_spec (cs : List Int) (l : List DRow) (hl : l.length ≤ 1048576) : Ctr Tryz.prog 150 [.c (.sl (cs.map intC)),.c (.sl (l.map DRow.c))] [.val (.c (.v (.bool (grpOk cs l))))]:=by
 refine Ctr.mk Tryz.call150 Tryz.func150 rfl mixed Tryz.ntmps150 Tryz.results150 (by kernel_rfl) rfl fun hw=>?_
 simp only [go_sem]
 refine LoopU.mk 0 (A:=Nat) (fun x=>[(5,.c (.v (.int .i64 (x))))]) (fun _=>[]) (fun k=>k ≤ l.length ∧ ∀ i,i < k → rowGt cs l i) (fun k=>l.length - k) 0 ⟨⟨rfl,rfl⟩,rfl,Nat.zero_le _,fun i h=>by omega⟩ ?_
 rintro k ⟨hk,hf⟩
 simp only [go_sem]
 refine cndC.mk (fun h=>?_) (fun h=>?_)
 ·have hk' : k < l.length:=by simpa using h
  have hnext : rowGt cs l k → ∀ i,i < k + 1 → rowGt cs l i:=by
   intro hg i hi
   by_cases e : i = k
   ·subst e; exact hg
   ·exact hf i (by omega)
  simp only [go_sem,map_at _ hk']
  refine DrawK.mk ?_
  simp only [go_sem,map_at _ hk',hk']
  refine CallF.mk _ (by simpa only [go_sem] using sRowOk_spec cs l[k]) ?_
  rcases hv : rowOk cs l[k] with _ | _
  ·have hno : ¬ rowGt cs l k:=by intro hg; have:=(hg hk').1.1; rw [hv] at this; cases this
   simp only [go_sem,hv,grpOk_no hno]
  rcases hid : decide (l[k].id > 1000000000) with _ | _
  rotate_left
  ·have hno : ¬ rowGt cs l k:=by intro hg; have:=(hg hk').2; simp at hid; omega
   simp only [go_sem,hv,hid,map_at _ hk',hk',grpOk_no hno]
  have hid' : l[k].id ≤ 1000000000:=by simp at hid; omega
  rcases Nat.eq_zero_or_pos k with hz | hz
  ·have hp : decide ((k : Int) > 0) = false:=by simp; omega
   simp only [go_sem,hv,hid,hp,map_at _ hk',hk',wrap_i64 (n:=(k : Int) + 1) (by omega) (by omega)]
   exact ⟨k + 1,⟨rfl,rfl⟩,rfl,⟨by omega,hnext fun _=>⟨⟨hv,fun h0=>by omega⟩,hid'⟩⟩,by omega⟩
  ·have hp : decide ((k : Int) > 0) = true:=by simp; omega
   have hk1 : k - 1 < l.length:=by omega
   have hw1 : IntKind.i64.wrap ((k : Int) - 1) = ((k - 1 : Nat) : Int):=by rw [wrap_i64 (by omega) (by omega)]; omega
   rcases hq : decide (l[k - 1].id ≥ l[k].id) with _ | _
   ·simp only [go_sem,hv,hid,hp,hw1,map_at _ hk',map_at _ hk1,hk',hk1,hq,wrap_i64 (n:=(k : Int) + 1) (by omega) (by omega)]
    exact ⟨k + 1,⟨rfl,rfl⟩,rfl,⟨by omega,hnext fun _=>⟨⟨hv,fun _=>by simp at hq; omega⟩,hid'⟩⟩,by omega⟩
   ·have hno : ¬ rowGt cs l k:=by intro hg; have:=(hg hk').1.2 hz; simp at hq; omega
    simp only [go_sem,hv,hid,hp,hw1,map_at _ hk',map_at _ hk1,hk',hk1,hq,grpOk_no hno]
 ·have hk' : k = l.length:=by simp at h; omega
  subst hk'
  simp only [go_sem]
  refine CallK.mk _ (sCols_spec _) fun _=>?_
  have h12 : decide ((l.length : Int) ≤ 12) = decide (l.length ≤ 12):=by rw [decide_eq_decide]; omega
  rcases hc : colsOk cs with _ | _ <;> simp only [go_sem,grpOk_yes hf,hc,h12,Bool.false_and,Bool.true_and]
theorem grp_facts {cs : List Int} {l : List DRow} (h : grpOk cs l = true) : (cs.length ≤ 3 ∧ 1 ≤ cs.length) ∧ l.length ≤ 12 ∧ ∀ r ∈ l,0 ≤ r.id ∧ r.id ≤ 1000000000 ∧ fits cs r.l = true:=by
 simp only [grpOk,Bool.and_eq_true,decide_eq_true_eq] at h
 obtain ⟨⟨h1,h2⟩,h3,h4⟩:=h
 simp only [colsOk,Bool.and_eq_true] at h1
 refine ⟨by have:=h1.2; simp [inR] at this; omega,h2,fun r hr=>?_⟩
 obtain ⟨i,hi,rfl⟩:=List.getElem_of_mem hr
 simp only [rowsOk,decide_eq_true_eq] at h3
 have:=(h3 i hi).1
 simp only [rowOk,Bool.and_eq_true,decide_eq_true_eq] at this
 exact ⟨this.1,h4 _ hr,this.2⟩
theorem colB_len (l : List DVal) : (colB l).length ≤ 1006:=by
 have h1:=numB_len ((encCol l).length : Int)
 have h2:=encCol_len l
 simp only [colB,List.length_append]; omega
theorem putGroup_eq {cs : List Int} {l : List DRow} (h : grpOk cs l = true) : putGroup cs l = numsB (l.map DRow.id) ++ (if l = [] then [] else ((List.range cs.length).map fun (k : Nat)=>colB (colm l (k : Int))).flatten):=if_pos h
noncomputable def colsG (l : List DRow) (k : Nat) : List Int:=if l = [] then [] else ((List.range k).map fun (k : Nat)=>colB (colm l (k : Int))).flatten
theorem colsG_zero (l : List DRow) : colsG l 0 = []:=by unfold colsG; split <;> rfl
theorem iPutGroup_spec (cs : List Int) (l : List DRow) (hl : fitS fitRow l) : Ctr Tryz.prog 163 [.c (.sl (cs.map intC)),.c (.sl (l.map DRow.c))] [.own 5 1 ((putGroup cs l).map byteC) true]:=by
 refine Ctr.mk Tryz.call163 Tryz.func163 rfl mixed Tryz.ntmps163 Tryz.results163 (by kernel_rfl) rfl fun hw=>?_
 simp only [go_sem]
 refine CallK.mk _ (iRowsOk_spec cs l hl.1) fun _=>?_
 rcases h1 : grpOk cs l with _ | _
 ·have e : putGroup cs l = []:=if_neg (by rw [h1]; simp)
  rw [e]
  simp only [go_sem,h1]
  try simp [OwnL,pureC,nrE]
 obtain ⟨f1,f2,f3⟩:=grp_facts h1
 rw [putGroup_eq h1]
 simp only [go_sem,h1]
 refine LoopH.mk [15] (A:=Nat) (fun x=>[(18,.c (.v (.int .i64 (x)))),(5,.c (.ref 0))]) (fun x=>[⟨3,1,((l.take x).map DRow.id).map intC,true,true⟩]) (fun x=>x ≤ l.length) (fun x=>l.length - x) 0 (Head.sel [(0,false)] ⟨rfl,rfl,rfl,trivial⟩ rfl) (Nat.zero_le _) ?_
 rintro i hi
 simp only [go_sem]
 refine cndC.mk (fun h=>?_) (fun h=>?_)
 ·have hi' : i < l.length:=by simp at h; omega
  have hl2 : i + 1 ≤ 2147483648:=by omega
  simp only [go_sem,map_at _ hi',hl2,List.length_take,Nat.min_eq_left hi,wrap_i64 (n:=(i : Int) + 1) (by omega) (by omega)]
  exact ⟨i + 1,Head.sel [(3,false)] ⟨rfl,rfl,by rw [← int_snoc]; exact pe_int _,trivial⟩ (by rw [snoc_take _ hi',int_snoc]; rfl),hi',by omega⟩
 ·have hi' : i = l.length:=by simp at h; omega
  subst hi'
  simp only [go_sem,List.take_length]
  refine CallK.mk _ (iPutNums_spec [] (l.map DRow.id) (by simp; omega) (by simp) fun n hn=>by
   obtain ⟨r,hr,rfl⟩:=List.mem_map.1 hn
   exact (isNumB_iff _).2 ⟨by have:=(f3 r hr).1; omega,(f3 r hr).2.1⟩) fun _=>?_
  rw [List.nil_append]
  simp only [go_sem]
  have hnl:=numsL_len (l.map DRow.id)
  have hnb:=numB_len ((l.map DRow.id).length : Int)
  have hnl2 : (numsB (l.map DRow.id)).length ≤ 65:=by
   simp only [numsB,List.length_append]
   rw [List.length_map] at hnl
   omega
  have hG : ∀ k,(colsG l k).length ≤ 1006 * k:=fun k=>by
   unfold colsG
   split
   ·simp
   ·have:=flat_len (fun (k : Nat)=>colB (colm l (k : Int))) 1006 (List.range k) fun x _=>colB_len _
    rw [List.length_range] at this
    exact this
  have hfin : numsB (l.map DRow.id) ++ (if l = [] then [] else ((List.range cs.length).map fun (k : Nat)=>colB (colm l (k : Int))).flatten) = numsB (l.map DRow.id) ++ colsG l cs.length:=rfl
  rw [hfin]
  refine LoopH.mk [29,28,5] (A:=Nat) (fun x=>[(32,.c (.v (.int .i64 (x)))),(8,.c (.ref 0))]) (fun x=>[⟨5,1,(numsB (l.map DRow.id) ++ colsG l x).map byteC,true,true⟩]) (fun x=>x ≤ cs.length) (fun x=>cs.length - x) 0 (Head.sel [(1,false)] ⟨rfl,rfl,pe_byte _,trivial⟩ (by rw [colsG_zero,List.append_nil]; rfl)) (Nat.zero_le _) ?_
  rintro k hk
  simp only [go_sem]
  refine cndC.mk (fun h=>?_) (fun h=>?_)
  ·have hk' : k < cs.length:=by simp at h; omega
   have hGk:=hG k
   rcases h2 : decide ((l.length : Int) > 0) with _ | _
   ·have h2' : l = []:=by
     apply List.eq_nil_of_length_eq_zero
     simp at h2; simp [h2]
    have hs : colsG l (k + 1) = colsG l k:=by unfold colsG; rw [if_pos h2',if_pos h2']
    simp only [go_sem,h2,wrap_i64 (n:=(k : Int) + 1) (by omega) (by omega)]
    exact ⟨k + 1,Head.sel [(0,false)] ⟨rfl,rfl,pe_byte _,trivial⟩ (by rw [hs]; rfl),hk',by omega⟩
   ·have h2' : l ≠ []:=by rintro rfl; simp at h2
    have hcl : (colm l (k : Int)).length ≤ l.length:=List.length_filterMap_le _ _
    have hel:=encCol_len (colm l (k : Int))
    have hs : colsG l (k + 1) = colsG l k ++ (numB (encCol (colm l (k : Int))).length ++ encCol (colm l (k : Int))):=by
     unfold colsG
     rw [if_neg h2',if_neg h2',List.range_succ]
     simp only [List.map_append,List.flatten_append,List.map_cons,List.map_nil,List.flatten_cons,List.flatten_nil,List.append_nil,colB]
    simp only [go_sem,h2]
    refine CallK.mk _ (iColumn_spec l (k : Int) hl.big) fun _=>?_
    simp only [go_sem]
    refine CallK.mk _ (iEncCol_spec (colm l (k : Int)) (by omega)) fun _=>?_
    simp only [go_sem]
    refine CallK.mk _ (iPutNum_spec _ _ (by simp only [List.length_append]; omega)) fun _=>?_
    rw [putN_ok ((isNumB_iff _).2 ⟨by omega,by omega⟩)]
    have hnb2:=numB_len ((encCol (colm l (k : Int))).length : Int)
    have hl3 : (numsB (l.map DRow.id)).length + (colsG l k).length + (numB (encCol (colm l (k : Int))).length).length + (encCol (colm l (k : Int))).length ≤ 2147483648:=by omega
    simp only [go_sem,hl3,byte_rows,append_byte,wrap_i64 (n:=(k : Int) + 1) (by omega) (by omega)]
    exact ⟨k + 1,Head.sel [(4,false)] ⟨rfl,rfl,pe_byte _,trivial⟩ (by rw [hs]; simp only [List.append_assoc]; rfl),hk',by omega⟩
  ·have hk' : k = cs.length:=by simp at h; omega
   subst hk'
   simp only [go_sem]
   try simp [OwnL,pureC]
end Go.Proofs.YthoeeoddgkjkkaaGreat
