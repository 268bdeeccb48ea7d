/- Walks: columns of dictionaries. -/
import Derived.Test.YthoeeoddgkjkkaaGreatYo
import Derived.Test.YthoeeoddgkjkkaaGreatYk
import Derived.Test.YthoeeoddgkjkkaaGreatYm
namespace Go.Proofs.YthoeeoddgkjkkaaGreat
set_option linter.unusedSimpArgs false
set_option linter.unusedVariables false
open Go.Vm
set_option maxHeartbeats 2000000
set_option maxRecDepth 10000
theorem places_dict (l : List DVal) : ∃ p,places (dict l) l = some p ∧ p.length = l.length:=by
 have key : ∀ (d l : List DVal),(∀ x ∈ l,x ∈ d) → ∃ p,places d l = some p ∧ p.length = l.length:=by
  intro d l
  induction l with
  | nil=>intro _; exact ⟨[],rfl,rfl⟩
  | cons v l ih =>
   intro h
   obtain ⟨p,h1,h2⟩:=ih fun x hx=>h x (List.mem_cons_of_mem v hx)
   have key2 : ∀ (d : List DVal) (k : Nat),v ∈ d → ∃ i,placeOf v d k = some i:=by
    intro d
    induction d with
    | nil=>intro k hk; cases hk
    | cons x r ih =>
     intro k hk
     rw [placeOf_cons]
     split
     ·exact ⟨_,rfl⟩
     ·rename_i hne
      rcases List.mem_cons.1 hk with rfl | hk
      ·exact absurd ((eqV_iff v v).2 rfl) hne
      ·exact ih (k + 1) hk
   obtain ⟨i,hi⟩:=key2 d 0 (h v (by simp))
   exact ⟨i :: p,by rw [places_cons,hi,h1],by simp [h2]⟩
 exact key _ _ fun x hx=>(mem_dict l x).2 hx
theorem encDict_eq {l : List DVal} (h : typeOf l ≠ 0) {p : List Int} (hp : places (dict l) l = some p) : encDict l = numB (dict l).length ++ (valsB (dict l) ++ packBits p (widthOf ((dict l).length - 1))):=by
 unfold encDict
 rw [if_neg h,hp]; rfl
theorem sEncDict_spec (l : List DVal) (hl : l.length ≤ 1048576) : Ctr Tryz.prog 208 [.c (.sl (l.map DVal.c))] [.own 5 1 ((encDict l).map byteC) true]:=by
 refine Ctr.mk Tryz.call208 Tryz.func208 rfl mixed Tryz.ntmps208 Tryz.results208 (by kernel_rfl) rfl fun hw=>?_
 simp only [go_sem]
 refine CallK.mk _ (sTypeOf_spec l hl) fun _=>?_
 rcases h1 : typeOf l == 0 with _ | _
 rotate_left
 ·have h1' : typeOf l = 0:=by simpa using h1
  have e : encDict l = []:=if_pos h1'
  rw [e]
  simp only [go_sem,h1]
  try simp [OwnL,pureC,nrE]
 have h1' : typeOf l ≠ 0:=by simpa using h1
 obtain ⟨q1,q2,q3⟩:=typeOf_all h1'
 have hdl:=dict_len l
 obtain ⟨p,hp,hpl⟩:=places_dict l
 rw [encDict_eq h1' hp]
 simp only [go_sem,h1]
 refine CallK.mk _ (sDict_spec l hl) fun _=>?_
 simp only [go_sem]
 have hps:=sPlaces_spec (dict l) l hl (by omega)
 rw [hp] at hps
 simp only [upR] at hps
 refine CallK.mk _ hps fun _=>?_
 have hd0 : 0 < (dict l).length:=by
  have : l[0] ∈ dict l:=(mem_dict l _).2 (List.getElem_mem (by omega))
  exact List.length_pos_of_mem this
 have hq:=numB_len ((dict l).length : Int)
 have hdv : ∀ v ∈ dict l,valOk v = true:=fun v hv=>(q3 v ((mem_dict l v).1 hv)).1
 simp only [go_sem]
 refine CallK.mk _ (sPutNum_spec [] ((dict l).length : Int) (by simp)) fun _=>?_
 rw [putN_ok (by rw [isNumB_iff]; omega),List.nil_append]
 simp only [go_sem]
 have hvl:=fun i=>valsB_len (l:=(dict l).take i) fun v hv=>hdv v (List.mem_of_mem_take hv)
 refine LoopH.mk [20,23] (A:=Nat) (fun x=>[(7,.c (.v (.int .i64 (x)))),(6,.c (.ref 1))]) (fun x=>[⟨3,1,p.map intC,true,true⟩,⟨5,1,(numB (dict l).length ++ valsB ((dict l).take x)).map byteC,true,true⟩]) (fun x=>x ≤ (dict l).length) (fun x=>(dict l).length - x) 0 (Head.sel [(0,false),(2,false)] ⟨rfl,rfl,pe_int _,pe_byte _,trivial⟩ (by simp only [List.take_zero,valsB,List.map_nil,List.flatten_nil,List.append_nil]; rfl)) (Nat.zero_le _) ?_
 rintro i hi
 simp only [go_sem]
 refine cndC.mk (fun h=>?_) (fun h=>?_)
 ·have hi' : i < (dict l).length:=by simp at h; omega
  have hvi:=hvl i
  rw [List.length_take] at hvi
  simp only [go_sem,map_at _ hi']
  refine CallK.mk _ (sPutVal_spec _ _ (by simp only [List.length_append]; omega)) fun _=>?_
  rw [putV_ok (hdv _ (List.getElem_mem hi')),List.append_assoc,← valsB_snoc hi']
  simp only [go_sem,wrap_i64 (n:=(i : Int) + 1) (by omega) (by omega)]
  exact ⟨i + 1,Head.sel [(0,false),(2,false)] ⟨rfl,rfl,pe_int _,pe_byte _,trivial⟩ rfl,hi',by omega⟩
 ·have hpb:=packBits_len p (widthOf ((dict l).length - 1))
  have hw1 : IntKind.i64.wrap (((dict l).length : Int) - 1) = ((dict l).length : Int) - 1:=wrap_i64 (by omega) (by omega)
  have hvi:=hvl (dict l).length
  rw [List.length_take] at hvi
  have hl3 : (numB (dict l).length).length + (valsB (dict l)).length + (packBits p (widthOf ((dict l).length - 1))).length ≤ 2147483648:=by
   rw [List.take_length] at hvi; omega
  have hi' : i = (dict l).length:=by simp at h; omega
  subst hi'
  simp only [go_sem,List.take_length,hw1]
  refine CallK.mk _ (sWidthOf_spec _) fun _=>?_
  simp only [go_sem,hw1]
  refine CallK.mk _ (sPack_spec p (widthOf ((dict l).length - 1)) (by omega)) fun _=>?_
  simp only [go_sem,hl3,byte_rows,List.append_assoc,append_byte]
  try simp [OwnL,pureC]
theorem iEncDict_spec (l : List DVal) (hl : l.length ≤ 1048576) : Ctr Tryz.prog 224 [.c (.sl (l.map DVal.c))] [.own 5 1 ((encDict l).map byteC) true]:=by
 refine Ctr.mk Tryz.call224 Tryz.func224 rfl mixed Tryz.ntmps224 Tryz.results224 (by kernel_rfl) rfl fun hw=>?_
 simp only [go_sem]
 refine CallK.mk _ (iTypeOf_spec l hl) fun _=>?_
 rcases h1 : typeOf l == 0 with _ | _
 rotate_left
 ·have h1' : typeOf l = 0:=by simpa using h1
  have e : encDict l = []:=if_pos h1'
  rw [e]
  simp only [go_sem,h1]
  try simp [OwnL,pureC,nrE]
 have h1' : typeOf l ≠ 0:=by simpa using h1
 obtain ⟨q1,q2,q3⟩:=typeOf_all h1'
 have hdl:=dict_len l
 obtain ⟨p,hp,hpl⟩:=places_dict l
 rw [encDict_eq h1' hp]
 simp only [go_sem,h1]
 refine CallK.mk _ (iDict_spec l hl) fun _=>?_
 have hd0 : 0 < (dict l).length:=by
  have : l[0] ∈ dict l:=(mem_dict l _).2 (List.getElem_mem (by omega))
  exact List.length_pos_of_mem this
 have hq:=numB_len ((dict l).length : Int)
 have hdv : ∀ v ∈ dict l,valOk v = true:=fun v hv=>(q3 v ((mem_dict l v).1 hv)).1
 have hps:=iPlaces_spec (dict l) l hl (by omega)
 rw [hp] at hps
 simp only [upR] at hps
 simp only [go_sem]
 refine CallK.mk _ (iPutNum_spec [] ((dict l).length : Int) (by simp)) fun _=>?_
 rw [putN_ok (by rw [isNumB_iff]; omega),List.nil_append]
 simp only [go_sem]
 have hvl:=fun i=>valsB_len (l:=(dict l).take i) fun v hv=>hdv v (List.mem_of_mem_take hv)
 refine LoopH.mk [9,16,19] (A:=Nat) (fun x=>[(22,.c (.v (.int .i64 (x)))),(3,.c (.ref 0))]) (fun x=>[⟨5,1,(numB (dict l).length ++ valsB ((dict l).take x)).map byteC,true,true⟩]) (fun x=>x ≤ (dict l).length) (fun x=>(dict l).length - x) 0 (Head.sel [(1,false)] ⟨rfl,rfl,pe_byte _,trivial⟩ (by simp only [List.take_zero,valsB,List.map_nil,List.flatten_nil,List.append_nil]; rfl)) (Nat.zero_le _) ?_
 rintro i hi
 simp only [go_sem]
 refine cndC.mk (fun h=>?_) (fun h=>?_)
 ·have hi' : i < (dict l).length:=by simp at h; omega
  have hvi:=hvl i
  rw [List.length_take] at hvi
  simp only [go_sem,map_at _ hi']
  refine CallK.mk _ (iPutVal_spec _ _ (by simp only [List.length_append]; omega)) fun _=>?_
  rw [putV_ok (hdv _ (List.getElem_mem hi')),List.append_assoc,← valsB_snoc hi']
  simp only [go_sem,wrap_i64 (n:=(i : Int) + 1) (by omega) (by omega)]
  exact ⟨i + 1,Head.sel [(2,false)] ⟨rfl,rfl,pe_byte _,trivial⟩ rfl,hi',by omega⟩
 ·have hpb:=packBits_len p (widthOf ((dict l).length - 1))
  have hw1 : IntKind.i64.wrap (((dict l).length : Int) - 1) = ((dict l).length : Int) - 1:=wrap_i64 (by omega) (by omega)
  have hvi:=hvl (dict l).length
  rw [List.length_take] at hvi
  have hl3 : (numB (dict l).length).length + (valsB (dict l)).length + (packBits p (widthOf ((dict l).length - 1))).length ≤ 2147483648:=by
   rw [List.take_length] at hvi; omega
  have hi' : i = (dict l).length:=by simp at h; omega
  subst hi'
  simp only [go_sem,List.take_length]
  refine CallK.mk _ hps fun _=>?_
  simp only [go_sem,hw1]
  refine CallK.mk _ (iWidthOf_spec _) fun _=>?_
  simp only [go_sem,hw1]
  refine CallK.mk _ (iPack_spec p (widthOf ((dict l).length - 1)) (by omega)) fun _=>?_
  simp only [go_sem,hl3,byte_rows,List.append_assoc,append_byte]
  try simp [OwnL,pureC]
theorem sEncBy_spec (kind : Int) (l : List DVal) (hl : l.length ≤ 1048576) : Ctr Tryz.prog 213 [.c (.v (.int .i64 (kind))),.c (.sl (l.map DVal.c))] [.own 5 1 ((encBy kind l).map byteC) true]:=by
 refine Ctr.mk Tryz.call213 Tryz.func213 rfl mixed Tryz.ntmps213 Tryz.results213 (by kernel_rfl) rfl fun hw=>?_
 unfold encBy
 rcases h0 : kind == 0 with _ | _
 rotate_left
 ·rw [if_pos (by simpa using h0)]
  simp only [go_sem,h0]
  refine CallK.mk _ (sEncPlain_spec l hl) fun _=>?_
  simp only [go_sem]
  try simp [OwnL,pureC]
 rw [if_neg (by simpa using h0)]
 rcases h1 : kind == 1 with _ | _
 rotate_left
 ·rw [if_pos (by simpa using h1)]
  simp only [go_sem,h0,h1]
  refine CallK.mk _ (sEncRuns_spec l hl) fun _=>?_
  simp only [go_sem]
  try simp [OwnL,pureC]
 rw [if_neg (by simpa using h1)]
 rcases h2 : kind == 2 with _ | _
 rotate_left
 ·rw [if_pos (by simpa using h2)]
  simp only [go_sem,h0,h1,h2]
  refine CallK.mk _ (sEncDict_spec l hl) fun _=>?_
  simp only [go_sem]
  try simp [OwnL,pureC]
 rw [if_neg (by simpa using h2)]
 rcases h3 : kind == 3 with _ | _
 rotate_left
 ·rw [if_pos (by simpa using h3)]
  simp only [go_sem,h0,h1,h2,h3]
  refine CallK.mk _ (sEncFrame_spec l hl) fun _=>?_
  simp only [go_sem]
  try simp [OwnL,pureC]
 rw [if_neg (by simpa using h3)]
 simp only [go_sem,h0,h1,h2,h3]
 try simp [OwnL,pureC,nrE]
theorem iEncBy_spec (kind : Int) (l : List DVal) (hl : l.length ≤ 1048576) : Ctr Tryz.prog 229 [.c (.v (.int .i64 (kind))),.c (.sl (l.map DVal.c))] [.own 5 1 ((encBy kind l).map byteC) true]:=by
 refine Ctr.mk Tryz.call229 Tryz.func229 rfl mixed Tryz.ntmps229 Tryz.results229 (by kernel_rfl) rfl fun hw=>?_
 unfold encBy
 rcases h0 : kind == 0 with _ | _
 rotate_left
 ·rw [if_pos (by simpa using h0)]
  simp only [go_sem,h0]
  refine CallK.mk _ (iEncPlain_spec l hl) fun _=>?_
  simp only [go_sem]
  try simp [OwnL,pureC]
 rw [if_neg (by simpa using h0)]
 rcases h1 : kind == 1 with _ | _
 rotate_left
 ·rw [if_pos (by simpa using h1)]
  simp only [go_sem,h0,h1]
  refine CallK.mk _ (iEncRuns_spec l hl) fun _=>?_
  simp only [go_sem]
  try simp [OwnL,pureC]
 rw [if_neg (by simpa using h1)]
 rcases h2 : kind == 2 with _ | _
 rotate_left
 ·rw [if_pos (by simpa using h2)]
  simp only [go_sem,h0,h1,h2]
  refine CallK.mk _ (iEncDict_spec l hl) fun _=>?_
  simp only [go_sem]
  try simp [OwnL,pureC]
 rw [if_neg (by simpa using h2)]
 rcases h3 : kind == 3 with _ | _
 rotate_left
 ·rw [if_pos (by simpa using h3)]
  simp only [go_sem,h0,h1,h2,h3]
  refine CallK.mk _ (iEncFrame_spec l hl) fun _=>?_
  simp only [go_sem]
  try simp [OwnL,pureC]
 rw [if_neg (by simpa using h3)]
 simp only [go_sem,h0,h1,h2,h3]
 try simp [OwnL,pureC,nrE]
noncomputable def bkN (l : List DVal) : Nat → Int
 | 0=>0
 | x + 1=>if (x = 2 → typeOf l = 1) ∧ (encBy ((x : Int) + 1) l).length < (encBy (bkN l x) l).length then (x : Int) + 1 else bkN l x
theorem bk3_eq (l : List DVal) : bk3 l = bkN l 3:=by
 have h1 : bk1 l = bkN l 1:=by simp [bkN,bk1]
 have h2 : bk2 l = bkN l 2:=by
  rw [bk2,h1]
  show _ = (if ((1 : Nat) = 2 → typeOf l = 1) ∧ (encBy (((1 : Nat) : Int) + 1) l).length < (encBy (bkN l 1) l).length then ((1 : Nat) : Int) + 1 else bkN l 1)
  simp
 rw [bk3,h2]
 show _ = (if ((2 : Nat) = 2 → typeOf l = 1) ∧ (encBy (((2 : Nat) : Int) + 1) l).length < (encBy (bkN l 2) l).length then ((2 : Nat) : Int) + 1 else bkN l 2)
 simp
theorem bkN_yes {l : List DVal} {x : Nat} (h1 : x = 2 → typeOf l = 1) (h2 : (encBy ((x : Int) + 1) l).length < (encBy (bkN l x) l).length) : bkN l (x + 1) = (x : Int) + 1:=if_pos ⟨h1,h2⟩
theorem bkN_no1 {l : List DVal} {x : Nat} (h1 : x = 2) (h2 : typeOf l ≠ 1) : bkN l (x + 1) = bkN l x:=if_neg fun q=>h2 (q.1 h1)
theorem bkN_no2 {l : List DVal} {x : Nat} (h2 : ¬ (encBy ((x : Int) + 1) l).length < (encBy (bkN l x) l).length) : bkN l (x + 1) = bkN l x:=if_neg fun q=>h2 q.2
theorem sBestKind_spec (l : List DVal) (hl : l.length ≤ 1048576) : Ctr Tryz.prog 212 [.c (.sl (l.map DVal.c))] [.val (.c (.v (.int .i64 (bestKind l))))]:=by
 refine Ctr.mk Tryz.call212 Tryz.func212 rfl mixed Tryz.ntmps212 Tryz.results212 (by kernel_rfl) rfl fun hw=>?_
 simp only [go_sem]
 refine CallK.mk _ (sTypeOf_spec l hl) fun _=>?_
 rcases h1 : typeOf l == 0 with _ | _
 rotate_left
 ·have h1' : typeOf l = 0:=by simpa using h1
  have e : bestKind l = -1:=if_pos h1'
  rw [e]
  simp only [go_sem,h1]
 have e : bestKind l = bkN l 3:=by rw [← bk3_eq]; exact if_neg (by simpa using h1)
 have e0 : encPlain l = encBy 0 l:=rfl
 rw [e]
 simp only [go_sem,h1]
 refine CallK.mk _ (sEncPlain_spec l hl) fun _=>?_
 simp only [go_sem]
 refine LoopH.mk [13] (A:=Nat) (fun x=>[(6,.c (.v (.int .i64 ((x : Int) + 1)))),(5,.c (.v (.int .i64 ((encBy (bkN l x) l).length : Int)))),(4,.c (.v (.int .i64 (bkN l x))))]) (fun _=>[]) (fun x=>x ≤ 3) (fun x=>3 - x) 0 (Head.sel [] ⟨rfl,rfl,trivial⟩ rfl) (Nat.zero_le _) ?_
 rintro x hx
 simp only [go_sem]
 refine cndC.mk (fun h=>?_) (fun h=>?_)
 ·have hx' : x < 3:=by simp at h; omega
  simp only [go_sem]
  refine CallK.mk _ (sEncBy_spec _ l hl) fun _=>?_
  rcases h2 : ((x : Int) + 1 != 3) with _ | _ <;> rcases h3 : (typeOf l == 1) with _ | _ <;> rcases h4 : decide (((encBy ((x : Int) + 1) l).length : Int) < ((encBy (bkN l x) l).length : Int)) with _ | _ <;> simp only [go_sem,h2,h3,h4,wrap_i64 (n:=(x : Int) + 1 + 1) (by omega) (by omega)]
  ·have hb : bkN l (x + 1) = bkN l x:=bkN_no1 (by simp at h2; omega) (by simpa using h3)
   exact ⟨x + 1,Head.sel [] ⟨rfl,rfl,trivial⟩ (by rw [hb]; rfl),hx',by omega⟩
  ·have hb : bkN l (x + 1) = bkN l x:=bkN_no1 (by simp at h2; omega) (by simpa using h3)
   exact ⟨x + 1,Head.sel [] ⟨rfl,rfl,trivial⟩ (by rw [hb]; rfl),hx',by omega⟩
  ·have hb : bkN l (x + 1) = bkN l x:=bkN_no2 (by simpa using h4)
   exact ⟨x + 1,Head.sel [] ⟨rfl,rfl,trivial⟩ (by rw [hb]; rfl),hx',by omega⟩
  ·have hb : bkN l (x + 1) = (x : Int) + 1:=bkN_yes (fun _=>by simpa using h3) (by simpa using h4)
   exact ⟨x + 1,Head.sel [] ⟨rfl,rfl,trivial⟩ (by rw [hb]; rfl),hx',by omega⟩
  ·have hb : bkN l (x + 1) = bkN l x:=bkN_no2 (by simpa using h4)
   exact ⟨x + 1,Head.sel [] ⟨rfl,rfl,trivial⟩ (by rw [hb]; rfl),hx',by omega⟩
  ·have hb : bkN l (x + 1) = (x : Int) + 1:=bkN_yes (fun q=>by simp at h2; omega) (by simpa using h4)
   exact ⟨x + 1,Head.sel [] ⟨rfl,rfl,trivial⟩ (by rw [hb]; rfl),hx',by omega⟩
  ·have hb : bkN l (x + 1) = bkN l x:=bkN_no2 (by simpa using h4)
   exact ⟨x + 1,Head.sel [] ⟨rfl,rfl,trivial⟩ (by rw [hb]; rfl),hx',by omega⟩
  ·have hb : bkN l (x + 1) = (x : Int) + 1:=bkN_yes (fun q=>by simp at h2; omega) (by simpa using h4)
   exact ⟨x + 1,Head.sel [] ⟨rfl,rfl,trivial⟩ (by rw [hb]; rfl),hx',by omega⟩
 ·have hx' : x = 3:=by simp at h; omega
  subst hx'
  simp only [go_sem]
theorem iBestKind_spec (l : List DVal) (hl : l.length ≤ 1048576) : Ctr Tryz.prog 228 [.c (.sl (l.map DVal.c))] [.val (.c (.v (.int .i64 (bestKind l))))]:=by
 refine Ctr.mk Tryz.call228 Tryz.func228 rfl mixed Tryz.ntmps228 Tryz.results228 (by kernel_rfl) rfl fun hw=>?_
 simp only [go_sem]
 refine CallK.mk _ (iTypeOf_spec l hl) fun _=>?_
 rcases h1 : typeOf l == 0 with _ | _
 rotate_left
 ·have h1' : typeOf l = 0:=by simpa using h1
  have e : bestKind l = -1:=if_pos h1'
  rw [e]
  simp only [go_sem,h1]
 have e : bestKind l = bkN l 3:=by rw [← bk3_eq]; exact if_neg (by simpa using h1)
 rw [e]
 simp only [go_sem,h1]
 refine LoopH.mk [] (A:=Nat) (fun x=>[(5,.c (.v (.int .i64 ((x : Int) + 1)))),(4,.c (.v (.int .i64 (bkN l x))))]) (fun _=>[]) (fun x=>x ≤ 3) (fun x=>3 - x) 0 (Head.sel [] ⟨rfl,rfl,trivial⟩ rfl) (Nat.zero_le _) ?_
 rintro x hx
 simp only [go_sem]
 refine cndC.mk (fun h=>?_) (fun h=>?_)
 ·have hx' : x < 3:=by simp at h; omega
  rcases h2 : ((x : Int) + 1 == 3) with _ | _
  ·simp only [go_sem,h2]
   refine CallK.mk _ (iEncBy_spec _ l hl) fun _=>?_
   simp only [go_sem]
   refine CallK.mk _ (iEncBy_spec _ l hl) fun _=>?_
   rcases h4 : decide (((encBy ((x : Int) + 1) l).length : Int) < ((encBy (bkN l x) l).length : Int)) with _ | _ <;> simp only [go_sem,h4,wrap_i64 (n:=(x : Int) + 1 + 1) (by omega) (by omega)]
   ·have hb : bkN l (x + 1) = bkN l x:=bkN_no2 (by simpa using h4)
    exact ⟨x + 1,Head.sel [] ⟨rfl,rfl,trivial⟩ (by rw [hb]; rfl),hx',by omega⟩
   ·have hb : bkN l (x + 1) = (x : Int) + 1:=bkN_yes (fun q=>by simp at h2; omega) (by simpa using h4)
    exact ⟨x + 1,Head.sel [] ⟨rfl,rfl,trivial⟩ (by rw [hb]; rfl),hx',by omega⟩
  ·rcases h3 : (typeOf l != 1) with _ | _
   ·simp only [go_sem,h2,h3]
    refine CallK.mk _ (iEncBy_spec _ l hl) fun _=>?_
    simp only [go_sem]
    refine CallK.mk _ (iEncBy_spec _ l hl) fun _=>?_
    rcases h4 : decide (((encBy ((x : Int) + 1) l).length : Int) < ((encBy (bkN l x) l).length : Int)) with _ | _ <;> simp only [go_sem,h4,wrap_i64 (n:=(x : Int) + 1 + 1) (by omega) (by omega)]
    ·have hb : bkN l (x + 1) = bkN l x:=bkN_no2 (by simpa using h4)
     exact ⟨x + 1,Head.sel [] ⟨rfl,rfl,trivial⟩ (by rw [hb]; rfl),hx',by omega⟩
    ·have hb : bkN l (x + 1) = (x : Int) + 1:=bkN_yes (fun _=>by simpa using h3) (by simpa using h4)
     exact ⟨x + 1,Head.sel [] ⟨rfl,rfl,trivial⟩ (by rw [hb]; rfl),hx',by omega⟩
   ·simp only [go_sem,h2,h3,wrap_i64 (n:=(x : Int) + 1 + 1) (by omega) (by omega)]
    have hb : bkN l (x + 1) = bkN l x:=bkN_no1 (by simp at h2; omega) (by simpa using h3)
    exact ⟨x + 1,Head.sel [] ⟨rfl,rfl,trivial⟩ (by rw [hb]; rfl),hx',by omega⟩
 ·have hx' : x = 3:=by simp at h; omega
  subst hx'
  simp only [go_sem]
theorem bkN_bd (l : List DVal) : ∀ x,0 ≤ bkN l x ∧ bkN l x ≤ x
 | 0=>by simp [bkN]
 | x + 1=>by
  have:=bkN_bd l x
  rw [bkN]
  split <;> omega
theorem bestKind_bd {l : List DVal} (h : typeOf l ≠ 0) : 0 ≤ bestKind l ∧ bestKind l ≤ 3:=by
 have e : bestKind l = bkN l 3:=by rw [← bk3_eq]; exact if_neg h
 have:=bkN_bd l 3
 rw [e]; omega
theorem encPlain_len (l : List DVal) : (encPlain l).length ≤ 448:=by
 unfold encPlain
 split
 ·simp
 ·rename_i h
  obtain ⟨q1,q2,q3⟩:=typeOf_all h
  have:=valsB_len fun v hv=>(q3 v hv).1
  omega
theorem encRuns_len (l : List DVal) : (encRuns l).length ≤ 1000:=by
 by_cases h : typeOf l = 0
 ·rw [show encRuns l = [] from if_pos h]; simp
 ·obtain ⟨q1,q2,q3⟩:=typeOf_all h
  rw [encRuns_eq l h]
  have h1:=numB_len ((runs l).length : Int)
  have h2:=runs_len l
  have h3:=flat_len runB 12 (runs l) fun x hx=>by
   have hx':=runs_mem hx
   have h1:=numB_len x.2
   have h2:=valB_len (q3 _ hx'.1).1
   simp only [runB,List.length_append]; omega
  simp only [List.length_append]; omega
theorem encDict_len (l : List DVal) : (encDict l).length ≤ 1000:=by
 by_cases h : typeOf l = 0
 ·rw [show encDict l = [] from if_pos h]; simp
 ·obtain ⟨q1,q2,q3⟩:=typeOf_all h
  obtain ⟨p,hp,hpl⟩:=places_dict l
  rw [encDict_eq h hp]
  have h1:=numB_len ((dict l).length : Int)
  have h2:=dict_len l
  have h3:=valsB_len (l:=dict l) fun v hv=>(q3 v ((mem_dict l v).1 hv)).1
  have h4:=packBits_len p (widthOf ((dict l).length - 1))
  simp only [List.length_append]; omega
theorem encFrame_len (l : List DVal) : (encFrame l).length ≤ 1000:=by
 by_cases h : typeOf l = 1
 ·obtain ⟨q1,q2,q3⟩:=typeOf_all (l:=l) (by omega)
  have e : encFrame l = numB (baseOf l) ++ (widthFor (offsets l) :: packBits (offsets l) (widthFor (offsets l))):=if_neg (by omega)
  have hol : (offsets l).length = l.length:=by rw [offsets,if_neg (by omega)]; simp
  have h1:=numB_len (baseOf l)
  have h4:=packBits_len (offsets l) (widthFor (offsets l))
  rw [e]
  simp only [List.length_append,List.length_cons]; omega
 ·rw [show encFrame l = [] from if_pos h]; simp
theorem encBy_len (k : Int) (l : List DVal) : (encBy k l).length ≤ 1000:=by
 have h0:=encPlain_len l
 have h1:=encRuns_len l
 have h2:=encDict_len l
 have h3:=encFrame_len l
 unfold encBy
 repeat' split
 all_goals first | omega | simp
theorem encCol_len (l : List DVal) : (encCol l).length ≤ 1001:=by
 have:=encBy_len (bestKind l) l
 unfold encCol
 split
 ·simp
 ·simp only [List.length_cons]; omega
theorem sEncCol_spec (l : List DVal) (hl : l.length ≤ 1048576) : Ctr Tryz.prog 182 [.c (.sl (l.map DVal.c))] [.own 5 1 ((encCol l).map byteC) true]:=by
 refine Ctr.mk Tryz.call182 Tryz.func182 rfl mixed Tryz.ntmps182 Tryz.results182 (by kernel_rfl) rfl fun hw=>?_
 simp only [go_sem]
 refine CallK.mk _ (sBestKind_spec l hl) fun _=>?_
 rcases h1 : decide (bestKind l < 0) with _ | _
 rotate_left
 ·have e : encCol l = []:=if_pos (by simpa using h1)
  rw [e]
  simp only [go_sem,h1]
  try simp [OwnL,pureC,nrE]
 have h1' : ¬ bestKind l < 0:=by simpa using h1
 have e : encCol l = bestKind l :: encBy (bestKind l) l:=if_neg h1'
 have ht : typeOf l ≠ 0:=fun q=>h1' (by rw [show bestKind l = -1 from if_pos q]; decide)
 have hk:=bestKind_bd ht
 have hw1 : IntKind.u8.wrap (bestKind l) = bestKind l:=wrap_u8 (by omega) (by omega)
 rw [e]
 simp only [go_sem,h1,hw1]
 have hel:=encBy_len (bestKind l) l
 have hl2 : 1 + (encBy (bestKind l) l).length ≤ 2147483648:=by omega
 have hl3 : (encBy (bestKind l) l).length + 1 ≤ 2147483648:=by omega
 refine CallK.mk _ (sEncBy_spec (bestKind l) l hl) fun _=>?_
 simp only [go_sem,hl2,hl3,byte_rows]
 try simp [OwnL,pureC,byteC,hl2,hl3]
 exact nr_byte (bestKind l :: encBy (bestKind l) l)
theorem iEncCol_spec (l : List DVal) (hl : l.length ≤ 1048576) : Ctr Tryz.prog 193 [.c (.sl (l.map DVal.c))] [.own 5 1 ((encCol l).map byteC) true]:=by
 refine Ctr.mk Tryz.call193 Tryz.func193 rfl mixed Tryz.ntmps193 Tryz.results193 (by kernel_rfl) rfl fun hw=>?_
 simp only [go_sem]
 refine CallK.mk _ (iBestKind_spec l hl) fun _=>?_
 rcases h1 : decide (bestKind l < 0) with _ | _
 rotate_left
 ·have e : encCol l = []:=if_pos (by simpa using h1)
  rw [e]
  simp only [go_sem,h1]
  try simp [OwnL,pureC,nrE]
 have h1' : ¬ bestKind l < 0:=by simpa using h1
 have e : encCol l = bestKind l :: encBy (bestKind l) l:=if_neg h1'
 have ht : typeOf l ≠ 0:=fun q=>h1' (by rw [show bestKind l = -1 from if_pos q]; decide)
 have hk:=bestKind_bd ht
 have hw1 : IntKind.u8.wrap (bestKind l) = bestKind l:=wrap_u8 (by omega) (by omega)
 rw [e]
 simp only [go_sem,h1,hw1]
 have hel:=encBy_len (bestKind l) l
 have hl2 : 1 + (encBy (bestKind l) l).length ≤ 2147483648:=by omega
 have hl3 : (encBy (bestKind l) l).length + 1 ≤ 2147483648:=by omega
 refine CallK.mk _ (iEncBy_spec (bestKind l) l hl) fun _=>?_
 simp only [go_sem,hl2,hl3,byte_rows]
 try simp [OwnL,pureC,byteC,hl2,hl3]
 exact nr_byte (bestKind l :: encBy (bestKind l) l)
end Go.Proofs.YthoeeoddgkjkkaaGreat
