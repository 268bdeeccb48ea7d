/- Walks: columns of frames. -/
import Derived.Test.YthoeeoddgkjkkaaGreatYj
import Derived.Test.YthoeeoddgkjkkaaGreatYe
namespace Go.Proofs.YthoeeoddgkjkkaaGreat
set_option linter.unusedSimpArgs false
set_option linter.unusedVariables false
open Go.Vm
set_option maxHeartbeats 2000000
set_option maxRecDepth 10000
theorem unpack_64 {b : List Int} {w k : Int} {o : List Int} (h : unpack b w k = some o) : o.length ≤ 64:=by
 have h1:=unpack_len h
 unfold unpack at h
 split at h
 ·rename_i h2
  omega
 ·cases h
theorem widL_le : ∀ (f : Nat) (x : Int),0 ≤ widL f x ∧ widL f x ≤ f
 | 0,_=>by simp [widL]
 | f + 1,x=>by
  have:=widL_le f (x / 2)
  rw [widL]
  split <;> omega
theorem widthOf_bd (n : Int) : 0 ≤ widthOf n ∧ widthOf n ≤ 32:=by
 unfold widthOf
 split
 ·exact widL_le 32 n
 ·omega
theorem widthFor_bd (l : List Int) : 0 ≤ widthFor l ∧ widthFor l ≤ 32:=by
 have key : ∀ (l : List Int) (w : Int),0 ≤ w ∧ w ≤ 32 → 0 ≤ l.foldl (fun w n=>max w (widthOf n)) w ∧ l.foldl (fun w n=>max w (widthOf n)) w ≤ 32:=by
  intro l
  induction l with
  | nil=>intro w h; exact h
  | cons n l ih =>
   intro w h
   have:=widthOf_bd n
   exact ih (max w (widthOf n)) ⟨by omega,by omega⟩
 exact key l 0 (by omega)
theorem packBits_len (l : List Int) (w : Int) : (packBits l w).length ≤ 4 * l.length + 1:=by
 unfold packBits
 split
 ·rename_i h
  simp only [List.length_map,List.length_range]
  have : l.length * w.toNat ≤ l.length * 31:=Nat.mul_le_mul_left _ (by omega)
  omega
 ·simp
theorem iEncFrame_spec (l : List DVal) (hl : l.length ≤ 1048576) : Ctr Tryz.prog 226 [.c (.sl (l.map DVal.c))] [.own 5 1 ((encFrame l).map byteC) true]:=by
 refine Ctr.mk Tryz.call226 Tryz.func226 rfl mixed Tryz.ntmps226 Tryz.results226 (by kernel_rfl) rfl fun hw=>?_
 simp only [go_sem]
 refine CallK.mk _ (iTypeOf_spec l hl) fun _=>?_
 rcases h1 : typeOf l != 1 with _ | _
 rotate_left
 ·have h1' : typeOf l ≠ 1:=by simpa using h1
  have e : encFrame l = []:=if_pos h1'
  rw [e]
  simp only [go_sem,h1]
  try simp [OwnL,pureC,nrE]
 have h1' : typeOf l = 1:=by simpa using h1
 obtain ⟨q1,q2,q3⟩:=typeOf_all (l:=l) (by omega)
 have e : encFrame l = numB (baseOf l) ++ (widthFor (offsets l) :: packBits (offsets l) (widthFor (offsets l))):=if_neg (by omega)
 have hol : (offsets l).length = l.length:=by rw [offsets,if_neg (by omega)]; simp
 rw [e]
 simp only [go_sem,h1]
 refine CallK.mk _ (iOffsets_spec l hl) fun _=>?_
 simp only [go_sem]
 refine CallK.mk _ (iWidthFor_spec (offsets l) (by omega)) fun _=>?_
 simp only [go_sem]
 refine CallK.mk _ (iBase_spec l hl) fun _=>?_
 have hw:=widthFor_bd (offsets l)
 have hpl:=packBits_len (offsets l) (widthFor (offsets l))
 have hq:=numB_len (baseOf l)
 have hbn : isNumB (baseOf l) = true:=by
  have h0 : 0 < l.length:=by omega
  obtain ⟨_,x,hx,e2⟩:=baseOf_le (List.getElem_mem h0)
  have:=valOk_n (q3 x hx).1 ((q3 x hx).2.trans h1')
  rw [isNumB_iff,e2]; exact this
 have hw1 : IntKind.u8.wrap (widthFor (offsets l)) = widthFor (offsets l):=wrap_u8 (by omega) (by omega)
 simp only [go_sem]
 refine CallK.mk _ (iPutNum_spec [] (baseOf l) (by simp)) fun _=>?_
 rw [putN_ok hbn,List.nil_append]
 have hl2 : (numB (baseOf l)).length + 1 ≤ 2147483648:=by omega
 simp only [go_sem,hw1,hl2]
 refine CallK.mk _ (iPack_spec (offsets l) (widthFor (offsets l)) (by omega)) fun _=>?_
 have hl3 : (numB (baseOf l)).length + 1 + (packBits (offsets l) (widthFor (offsets l))).length ≤ 2147483648:=by omega
 simp only [go_sem,hl3,byte_rows]
 try simp [OwnL,pureC,byteC]
theorem sEncFrame_spec (l : List DVal) (hl : l.length ≤ 1048576) : Ctr Tryz.prog 210 [.c (.sl (l.map DVal.c))] [.own 5 1 ((encFrame l).map byteC) true]:=by
 refine Ctr.mk Tryz.call210 Tryz.func210 rfl mixed Tryz.ntmps210 Tryz.results210 (by kernel_rfl) rfl fun hw=>?_
 simp only [go_sem]
 refine CallK.mk _ (sTypeOf_spec l hl) fun _=>?_
 rcases h1 : typeOf l != 1 with _ | _
 rotate_left
 ·have h1' : typeOf l ≠ 1:=by simpa using h1
  have e : encFrame l = []:=if_pos h1'
  rw [e]
  simp only [go_sem,h1]
  try simp [OwnL,pureC,nrE]
 have h1' : typeOf l = 1:=by simpa using h1
 obtain ⟨q1,q2,q3⟩:=typeOf_all (l:=l) (by omega)
 have e : encFrame l = numB (baseOf l) ++ (widthFor (offsets l) :: packBits (offsets l) (widthFor (offsets l))):=if_neg (by omega)
 have hol : (offsets l).length = l.length:=by rw [offsets,if_neg (by omega)]; simp
 rw [e]
 simp only [go_sem,h1]
 refine CallK.mk _ (sOffsets_spec l hl) fun _=>?_
 simp only [go_sem]
 refine CallK.mk _ (sWidthFor_spec (offsets l) (by omega)) fun _=>?_
 simp only [go_sem]
 refine CallK.mk _ (sBase_spec l hl) fun _=>?_
 have hw:=widthFor_bd (offsets l)
 have hpl:=packBits_len (offsets l) (widthFor (offsets l))
 have hq:=numB_len (baseOf l)
 have hbn : isNumB (baseOf l) = true:=by
  have h0 : 0 < l.length:=by omega
  obtain ⟨_,x,hx,e2⟩:=baseOf_le (List.getElem_mem h0)
  have:=valOk_n (q3 x hx).1 ((q3 x hx).2.trans h1')
  rw [isNumB_iff,e2]; exact this
 have hw1 : IntKind.u8.wrap (widthFor (offsets l)) = widthFor (offsets l):=wrap_u8 (by omega) (by omega)
 simp only [go_sem]
 refine CallK.mk _ (sPutNum_spec [] (baseOf l) (by simp)) fun _=>?_
 rw [putN_ok hbn,List.nil_append]
 have hl2 : (numB (baseOf l)).length + 1 ≤ 2147483648:=by omega
 simp only [go_sem,hw1,hl2]
 refine CallK.mk _ (sPack_spec (offsets l) (widthFor (offsets l)) (by omega)) fun _=>?_
 have hl3 : (numB (baseOf l)).length + 1 + (packBits (offsets l) (widthFor (offsets l))).length ≤ 2147483648:=by omega
 simp only [go_sem,hl3,byte_rows]
 try simp [OwnL,pureC,byteC]
theorem iDecFrame_spec (b : List Int) (k : Int) (hb : bytesOk b) (hl : b.length ≤ 1048576) : Ctr Tryz.prog 190 [.c (.sl (b.map byteC)),.c (.v (.int .i64 (k)))] (dvR (decFrame b k)):=by
 rw [← decFrame_eq]
 refine Ctr.mk Tryz.call190 Tryz.func190 rfl mixed Tryz.ntmps190 Tryz.results190 (by kernel_rfl) rfl fun hw=>?_
 simp only [go_sem]
 have hg:=iGetNum_spec b 0 hb hl
 rcases h1 : getNum b 0 with _ | ⟨n,q⟩ <;> rw [h1] at hg <;> simp only [gnR] at hg
 ·have e : decFrameI b k = none:=by simp only [decFrameI,h1]
  rw [e]
  refine CallK.mk _ hg fun _=>?_
  simp only [go_sem,dvR]
 refine CallK.mk _ hg fun _=>?_
 rcases h2 : decide ((q : Int) ≥ (b.length : Int)) with _ | _
 rotate_left
 ·have e : decFrameI b k = none:=by
   have : b[q]? = none:=by rw [List.getElem?_eq_none_iff]; simp at h2; omega
   simp only [decFrameI,h1,this]
  rw [e]
  simp only [go_sem,h2,dvR]
 have hq : q < b.length:=by simp at h2; omega
 have hc : isByte b[q]:=hb _ (List.getElem_mem hq)
 have hall : decFrameI b k = match unpack (b.drop (q + 1)) b[q] k with
    | none=>none
    | some o=>again b k ((raised n o).getD []) (encFrame ((raised n o).getD [])):=by simp only [decFrameI,h1,List.getElem?_eq_getElem hq]; rfl
 rw [hall]
 have q1:=idxA_of (k:=.i64) (n:=(q : Int) + 1) (m:=q + 1) (by omega)
 have q5 : q + 1 ≤ b.length:=hq
 have hc2:=hc.1
 have hc3:=hc.2
 have q7 : (b.map byteC).length - (q + 1) = (b.drop (q + 1)).length:=by simp
 simp only [go_sem,h2,map_at _ hq,q1,q5,byte_all,Nat.le_refl,wrap_i64 (n:=(q : Int) + 1) (by omega) (by omega),wrap_i64 (n:=b[q]) (by omega) (by omega),← List.map_drop,← List.map_take]
 have htk : (b.drop (q + 1)).take (b.length - (q + 1)) = b.drop (q + 1):=List.take_of_length_le (by simp)
 have hbd : bytesOk (b.drop (q + 1)):=fun c hc=>hb c (List.mem_of_mem_drop hc)
 have hu:=iUnpack_spec (b.drop (q + 1)) b[q] k hbd (by simp; omega)
 refine DrawK.mkE ?_
 simp only [go_sem,h2,map_at _ hq,q1,q5,byte_all,Nat.le_refl,wrap_i64 (n:=(q : Int) + 1) (by omega) (by omega),wrap_i64 (n:=b[q]) (by omega) (by omega),← List.map_drop,← List.map_take,htk]
 rcases h3 : unpack (b.drop (q + 1)) b[q] k with _ | o <;> rw [h3] at hu <;> simp only [upR] at hu
 ·refine CallE.mk _ hu ?_
  simp only [go_sem,dvR,map_at _ hq,q1,q5,byte_all,Nat.le_refl,← List.map_drop,← List.map_take,htk,wrap_i64 (n:=b[q]) (by omega) (by omega),wrap_i64 (n:=(q : Int) + 1) (by omega) (by omega)]
 refine CallE.mk _ hu ?_
 have hol:=unpack_64 h3
 simp only [go_sem,map_at _ hq,q1,q5,byte_all,Nat.le_refl,← List.map_drop,← List.map_take,htk,wrap_i64 (n:=b[q]) (by omega) (by omega),wrap_i64 (n:=(q : Int) + 1) (by omega) (by omega)]
 have hr:=iRaised_spec n o (by omega)
 rcases h4 : raised n o with _ | l <;> rw [h4] at hr <;> simp only [dvR] at hr
 ·refine CallK.mk _ hr fun _=>?_
  simp only [go_sem,Option.getD_none]
  refine CallK.mk _ (iEncFrame_spec [] (by simp)) fun _=>?_
  simp only [go_sem]
  refine CallK.mk _ (decoded_spec b k [] (encFrame [])) fun _=>?_
  rcases h5 : again b k [] (encFrame []) with _ | l' <;> simp only [go_sem,dvR]
 ·have hll:=raised_len h4
  refine CallK.mk _ hr fun _=>?_
  simp only [go_sem]
  refine CallK.mk _ (iEncFrame_spec l (by omega)) fun _=>?_
  simp only [go_sem]
  refine CallK.mk _ (decoded_spec b k l (encFrame l)) fun _=>?_
  rcases h5 : again b k l (encFrame l) with _ | l' <;> simp only [go_sem,dvR]
theorem sDecFrame_spec (b : List Int) (k : Int) (hb : bytesOk b) (hl : b.length ≤ 1048576) : Ctr Tryz.prog 179 [.c (.sl (b.map byteC)),.c (.v (.int .i64 (k)))] (dvR (decFrame b k)):=by
 refine Ctr.mk Tryz.call179 Tryz.func179 rfl mixed Tryz.ntmps179 Tryz.results179 (by kernel_rfl) rfl fun hw=>?_
 simp only [go_sem]
 have hg:=sGetNum_spec b 0 hb hl
 rcases h1 : getNum b 0 with _ | ⟨n,q⟩ <;> rw [h1] at hg <;> simp only [gnR] at hg
 ·have e : decFrame b k = none:=by simp only [decFrame,h1]
  rw [e]
  refine CallK.mk _ hg fun _=>?_
  simp only [go_sem,dvR]
 refine CallK.mk _ hg fun _=>?_
 rcases h2 : decide ((q : Int) ≥ (b.length : Int)) with _ | _
 rotate_left
 ·have e : decFrame b k = none:=by
   have : b[q]? = none:=by rw [List.getElem?_eq_none_iff]; simp at h2; omega
   simp only [decFrame,h1,this]
  rw [e]
  simp only [go_sem,h2,dvR]
 have hq : q < b.length:=by simp at h2; omega
 have hc : isByte b[q]:=hb _ (List.getElem_mem hq)
 simp only [go_sem,h2]
 refine CallK.mk _ (l1In_spec _ _ _) fun _=>?_
 rcases h6 : inR k 1 64 with _ | _
 ·have e : decFrame b k = none:=by
   simp only [decFrame,h1,List.getElem?_eq_getElem hq]
   exact if_neg (by simp [inR] at h6; omega)
  rw [e]
  simp only [go_sem,h6,dvR]
 have hk : 1 ≤ k ∧ k ≤ 64:=by simp [inR] at h6; omega
 have hall : decFrame b k = match unpack (b.drop (q + 1)) b[q] k with
    | none=>none
    | some o=>match raised n o with
     | none=>none
     | some l=>if encFrame l = b then some l else none:=by
  simp only [decFrame,h1,List.getElem?_eq_getElem hq]
  exact if_pos hk
 rw [hall]
 have q1:=idxA_of (k:=.i64) (n:=(q : Int) + 1) (m:=q + 1) (by omega)
 have q5 : q + 1 ≤ b.length:=hq
 have hc2:=hc.1
 have hc3:=hc.2
 have htk : (b.drop (q + 1)).take (b.length - (q + 1)) = b.drop (q + 1):=List.take_of_length_le (by simp)
 have hbd : bytesOk (b.drop (q + 1)):=fun c hc=>hb c (List.mem_of_mem_drop hc)
 have hu:=sUnpack_spec (b.drop (q + 1)) b[q] k hbd (by simp; omega)
 simp only [go_sem,h6,map_at _ hq,q1,q5,byte_all,Nat.le_refl,wrap_i64 (n:=(q : Int) + 1) (by omega) (by omega),wrap_i64 (n:=b[q]) (by omega) (by omega),← List.map_drop,← List.map_take]
 refine DrawK.mkE ?_
 simp only [go_sem,map_at _ hq,q1,q5,byte_all,Nat.le_refl,wrap_i64 (n:=(q : Int) + 1) (by omega) (by omega),wrap_i64 (n:=b[q]) (by omega) (by omega),← List.map_drop,← List.map_take,htk]
 rcases h3 : unpack (b.drop (q + 1)) b[q] k with _ | o <;> rw [h3] at hu <;> simp only [upR] at hu
 ·refine CallE.mk _ hu ?_
  simp only [go_sem,map_at _ hq,q1,q5,byte_all,Nat.le_refl,← List.map_drop,← List.map_take,htk,wrap_i64 (n:=b[q]) (by omega) (by omega),wrap_i64 (n:=(q : Int) + 1) (by omega) (by omega)]
  have hr:=sRaised_spec n [] (by simp)
  rcases h4 : raised n [] with _ | l <;> rw [h4] at hr <;> simp only [dvR] at hr
  ·refine CallK.mk _ hr fun _=>?_
   simp only [go_sem,dvR]
  ·refine CallK.mk _ hr fun _=>?_
   simp only [go_sem,dvR]
 refine CallE.mk _ hu ?_
 have hol:=unpack_64 h3
 simp only [go_sem,map_at _ hq,q1,q5,byte_all,Nat.le_refl,← List.map_drop,← List.map_take,htk,wrap_i64 (n:=b[q]) (by omega) (by omega),wrap_i64 (n:=(q : Int) + 1) (by omega) (by omega)]
 have hr:=sRaised_spec n o (by omega)
 rcases h4 : raised n o with _ | l <;> rw [h4] at hr <;> simp only [dvR] at hr
 ·refine CallK.mk _ hr fun _=>?_
  simp only [go_sem,dvR]
 have hll:=raised_len h4
 refine CallK.mk _ hr fun _=>?_
 simp only [go_sem]
 refine CallK.mk _ (sEncFrame_spec l (by omega)) fun _=>?_
 simp only [go_sem]
 refine CallK.mk _ (l5Same_spec (encFrame l) b) fun _=>?_
 rcases h5 : decide (encFrame l = b) with _ | _
 ·have e : ¬ encFrame l = b:=by simpa using h5
  simp only [go_sem,h5,if_neg e,dvR]
 ·have e : encFrame l = b:=by simpa using h5
  simp only [go_sem,h5,if_pos e,dvR]
end Go.Proofs.YthoeeoddgkjkkaaGreat
