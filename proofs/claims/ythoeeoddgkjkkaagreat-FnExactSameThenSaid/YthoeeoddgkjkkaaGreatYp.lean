/- Walks: columns read. -/
import Derived.Test.YthoeeoddgkjkkaaGreatYn
namespace Go.Proofs.YthoeeoddgkjkkaaGreat
set_option linter.unusedSimpArgs false
set_option linter.unusedVariables false
open Go.Vm
set_option maxHeartbeats 2000000
set_option maxRecDepth 10000
theorem iDecDict_spec (b : List Int) (ty k : Int) (hb : bytesOk b) (hl : b.length ≤ 1048576) : Ctr Tryz.prog 189 [.c (.sl (b.map byteC)),.c (.v (.int .i64 (ty))),.c (.v (.int .i64 (k)))] (dvR (decDict b ty k)):=by
 rw [← decDict_eq hb]
 refine Ctr.mk Tryz.call189 Tryz.func189 rfl mixed Tryz.ntmps189 Tryz.results189 (by kernel_rfl) rfl fun hw=>?_
 simp only [go_sem]
 have hg:=iGetNum_spec b 0 hb hl
 rcases h1 : getNum b 0 with _ | ⟨n,q⟩ <;> rw [h1] at hg <;> simp only [gnR] at hg
 ·have e : decDictI b ty k = none:=by simp only [decDictI,h1]
  rw [e]
  refine CallK.mk _ hg fun _=>?_
  simp only [go_sem,dvR]
 refine CallK.mk _ hg fun _=>?_
 simp only [go_sem]
 refine CallK.mk _ (within_spec _ _ _) fun _=>?_
 rcases h2 : inR n 1 64 with _ | _
 ·have e : decDictI b ty k = none:=by simp only [decDictI,h1]; exact if_neg (by simp [inR] at h2; omega)
  rw [e]
  simp only [go_sem,h2,dvR]
 have h2' : 1 ≤ n ∧ n ≤ 64:=by simp [inR] at h2; omega
 have hall : decDictI b ty k = match getVals b ty n.toNat q with
   | none=>none
   | some (d,q)=>match unpack (b.drop q) (widthOf (n - 1)) k with
    | none=>none
    | some o=>again b k ((picked d o).getD []) (encDict ((picked d o).getD [])):=by simp only [decDictI,h1]; exact if_pos h2'
 rw [hall]
 have hgv:=getVals_spec b q ty n hb hl h2'.2
 simp only [go_sem,h2]
 rcases h3 : getVals b ty n.toNat q with _ | ⟨d,q2⟩ <;> rw [h3] at hgv <;> simp only [gvsR] at hgv
 ·refine CallK.mk _ hgv fun _=>?_
  simp only [go_sem,dvR]
 refine CallK.mk _ hgv fun _=>?_
 have hq0:=(getNum_ok hb h1).2.2.1
 obtain ⟨a1,a2,a3,_⟩:=getVals_ok hb _ _ _ _ hq0 h3
 have q1:=idxA_of (k:=.i64) (n:=(q2 : Int)) (m:=q2) (by omega)
 have hw1 : IntKind.i64.wrap (n - 1) = n - 1:=wrap_i64 (by omega) (by omega)
 have htk : (b.drop q2).take (b.length - q2) = b.drop q2:=List.take_of_length_le (by simp)
 have hbd : bytesOk (b.drop q2):=fun c hc=>hb c (List.mem_of_mem_drop hc)
 have hu:=iUnpack_spec (b.drop q2) (widthOf (n - 1)) k hbd (by simp; omega)
 simp only [go_sem,q1,a2,byte_all,Nat.le_refl,← List.map_drop,← List.map_take,htk,hw1]
 refine DrawK.mkE ?_
 simp only [go_sem,q1,a2,byte_all,Nat.le_refl,← List.map_drop,← List.map_take,htk,hw1]
 refine CallE.mk _ (iWidthOf_spec _) ?_
 simp only [go_sem,q1,a2,byte_all,Nat.le_refl,← List.map_drop,← List.map_take,htk,hw1]
 rcases h4 : unpack (b.drop q2) (widthOf (n - 1)) k with _ | o <;> rw [h4] at hu <;> simp only [upR] at hu
 ·refine CallE.mk _ hu ?_
  simp only [go_sem,q1,a2,byte_all,Nat.le_refl,← List.map_drop,← List.map_take,htk,hw1]
  simp only [go_sem,dvR]
 refine CallE.mk _ hu ?_
 have hol:=unpack_64 h4
 simp only [go_sem,q1,a2,byte_all,Nat.le_refl,← List.map_drop,← List.map_take,htk,hw1]
 have hr:=iPicked_spec d o (by omega) (by omega)
 rcases h5 : picked d o with _ | l <;> rw [h5] at hr <;> simp only [dvR] at hr
 ·refine CallK.mk _ hr fun _=>?_
  simp only [go_sem,Option.getD_none]
  refine CallK.mk _ (iEncDict_spec [] (by simp)) fun _=>?_
  simp only [go_sem]
  refine CallK.mk _ (decoded_spec b k [] (encDict [])) fun _=>?_
  rcases h6 : again b k [] (encDict []) with _ | l' <;> simp only [go_sem,dvR]
 ·have hll:=picked_len h5
  refine CallK.mk _ hr fun _=>?_
  simp only [go_sem]
  refine CallK.mk _ (iEncDict_spec l (by omega)) fun _=>?_
  simp only [go_sem]
  refine CallK.mk _ (decoded_spec b k l (encDict l)) fun _=>?_
  rcases h6 : again b k l (encDict l) with _ | l' <;> simp only [go_sem,dvR]
theorem sDecDict_spec (b : List Int) (ty k : Int) (hb : bytesOk b) (hl : b.length ≤ 1048576) : Ctr Tryz.prog 178 [.c (.sl (b.map byteC)),.c (.v (.int .i64 (ty))),.c (.v (.int .i64 (k)))] (dvR (decDict b ty k)):=by
 refine Ctr.mk Tryz.call178 Tryz.func178 rfl mixed Tryz.ntmps178 Tryz.results178 (by kernel_rfl) rfl fun hw=>?_
 simp only [go_sem]
 have hg:=sGetNum_spec b 0 hb hl
 rcases h1 : getNum b 0 with _ | ⟨n,q⟩ <;> rw [h1] at hg <;> simp only [gnR] at hg
 ·have e : decDict b ty k = none:=by simp only [decDict,h1]
  rw [e]
  refine CallK.mk _ hg fun _=>?_
  simp only [go_sem,dvR]
 refine CallK.mk _ hg fun _=>?_
 simp only [go_sem]
 refine CallK.mk _ (l1In_spec _ _ _) fun _=>?_
 rcases h2 : inR k 1 64 with _ | _
 ·have e : decDict b ty k = none:=by simp only [decDict,h1]; exact if_neg (by simp [inR] at h2; omega)
  rw [e]
  simp only [go_sem,h2,dvR]
 simp only [go_sem,h2]
 refine CallK.mk _ (l1In_spec _ _ _) fun _=>?_
 rcases h3 : inR n 1 k with _ | _
 ·have e : decDict b ty k = none:=by simp only [decDict,h1]; exact if_neg (by simp [inR] at h3; omega)
  rw [e]
  simp only [go_sem,h3,dvR]
 have hk : 1 ≤ k ∧ k ≤ 64:=by simp [inR] at h2; omega
 have hn : 1 ≤ n ∧ n ≤ k:=by simp [inR] at h3; omega
 have hall : decDict b ty k = match getVals b ty n.toNat q with
   | none=>none
   | some (d,q)=>match unpack (b.drop q) (widthOf (n - 1)) k with
    | none=>none
    | some o=>match picked d o with
     | none=>none
     | some l=>if encDict l = b then some l else none:=by simp only [decDict,h1]; exact if_pos ⟨hk,hn⟩
 rw [hall]
 simp only [go_sem,h3]
 obtain ⟨N,rfl⟩:=Int.eq_ofNat_of_zero_le (show 0 ≤ n by omega)
 simp only [Int.toNat_natCast]
 have hq0:=(getNum_ok hb h1).2.2.1
 refine LoopH.mk [42] (A:=Nat × Nat × List DVal) (fun x=>[(13,.c (.v (.int .i64 (x.1)))),(12,.c (.ref 1)),(10,.c (.v (.int .i64 ((x.2.1 : Int)))))]) (fun x=>[⟨72,3,[],true,true⟩,⟨72,3,x.2.2.map DVal.c,true,true⟩]) (fun x=>x.1 ≤ N ∧ x.2.2.length = x.1 ∧ (getVals b ty (N - x.1) x.2.1).map (fun y=>(x.2.2 ++ y.1,y.2)) = getVals b ty N q) (fun x=>N - x.1) (0,q,[]) (Head.sel [(0,false),(1,false)] ⟨rfl,rfl,rfl,rfl,trivial⟩ rfl) ⟨Nat.zero_le _,rfl,by simp⟩ ?_
 rintro ⟨i,p,d⟩ ⟨hi,hll,hp⟩
 dsimp only at hi hll hp
 simp only [go_sem]
 refine cndC.mk (fun h=>?_) (fun h=>?_)
 ·have hi' : i < N:=by simp at h; omega
  rw [show N - i = (N - (i + 1)) + 1 by omega,getVals] at hp
  have hg2:=sGetVal_spec b p ty hb hl
  simp only [go_sem]
  rcases h4 : getVal b p ty with _ | ⟨v,p2⟩ <;> rw [h4] at hg2 hp <;> simp only [gvR] at hg2
  ·refine CallK.mk _ hg2 fun _=>?_
   simp only [Option.map_none] at hp
   rw [← hp]
   simp only [go_sem,dvR]
  ·refine CallK.mk _ hg2 fun _=>?_
   have hl2 : d.length + 1 ≤ 2147483648:=by omega
   simp only [go_sem,hl2,wrap_i64 (n:=(i : Int) + 1) (by omega) (by omega)]
   exact ⟨(i + 1,p2,d ++ [v]),Head.sel [(0,false),(4,false)] ⟨rfl,rfl,rfl,pe_snoc _ _,trivial⟩ (by rw [val_snoc]; rfl),⟨hi',by simp; omega,by rw [← hp,Option.map_map]; congr 1; funext y; simp⟩,by simp only; omega⟩
 ·have hi' : i = N:=by simp at h; omega
  subst hi'
  rw [Nat.sub_self,getVals] at hp
  simp only [Option.map_some,List.append_nil] at hp
  obtain ⟨a1,a2,a3,_⟩:=getVals_ok hb _ _ _ _ hq0 hp.symm
  rw [← hp]
  have q1:=idxA_of (k:=.i64) (n:=(p : Int)) (m:=p) (by omega)
  have hw1 : IntKind.i64.wrap ((i : Int) - 1) = (i : Int) - 1:=wrap_i64 (by omega) (by omega)
  have htk : (b.drop p).take (b.length - p) = b.drop p:=List.take_of_length_le (by simp)
  have hbd : bytesOk (b.drop p):=fun c hc=>hb c (List.mem_of_mem_drop hc)
  have hu:=sUnpack_spec (b.drop p) (widthOf ((i : Int) - 1)) k hbd (by simp; omega)
  simp only [go_sem,q1,a2,byte_all,Nat.le_refl,← List.map_drop,← List.map_take,htk,hw1]
  refine DrawK.mkE ?_
  simp only [go_sem,q1,a2,byte_all,Nat.le_refl,← List.map_drop,← List.map_take,htk,hw1]
  refine CallE.mk _ (sWidthOf_spec _) ?_
  simp only [go_sem,q1,a2,byte_all,Nat.le_refl,← List.map_drop,← List.map_take,htk,hw1]
  rcases h4 : unpack (b.drop p) (widthOf ((i : Int) - 1)) k with _ | o <;> rw [h4] at hu <;> simp only [upR] at hu
  ·refine CallE.mk _ hu ?_
   simp only [go_sem,q1,a2,byte_all,Nat.le_refl,← List.map_drop,← List.map_take,htk,hw1]
   have hr:=sPicked_spec d [] (by simp) (by omega)
   rcases h5 : picked d [] with _ | l <;> rw [h5] at hr <;> simp only [dvR] at hr
   ·refine CallK.mk _ hr fun _=>?_
    simp only [go_sem,dvR]
   ·refine CallK.mk _ hr fun _=>?_
    simp only [go_sem,dvR]
  refine CallE.mk _ hu ?_
  have hol:=unpack_64 h4
  simp only [go_sem,q1,a2,byte_all,Nat.le_refl,← List.map_drop,← List.map_take,htk,hw1]
  have hr:=sPicked_spec d o (by omega) (by omega)
  rcases h5 : picked d o with _ | l <;> rw [h5] at hr <;> simp only [dvR] at hr
  ·refine CallK.mk _ hr fun _=>?_
   simp only [go_sem,dvR]
  have hll2:=picked_len h5
  refine CallK.mk _ hr fun _=>?_
  simp only [go_sem]
  refine CallK.mk _ (sEncDict_spec l (by omega)) fun _=>?_
  simp only [go_sem]
  refine CallK.mk _ (l5Same_spec (encDict l) b) fun _=>?_
  rcases h6 : decide (encDict l = b) with _ | _
  ·have e : ¬ encDict l = b:=by simpa using h6
   simp only [go_sem,h6,if_neg e,dvR]
  ·have e : encDict l = b:=by simpa using h6
   simp only [go_sem,h6,if_pos e,dvR]
theorem disp_drop {b : List Int} (h : 0 < b.length) (ty k : Int) : disp b ty k = if b[0] = 0 then decPlain (b.drop 1) ty k else if b[0] = 1 then decRuns (b.drop 1) ty k else if b[0] = 2 then decDict (b.drop 1) ty k else if b[0] = 3 then decFrame (b.drop 1) k else none:=by
 cases b with
 | nil=>simp at h
 | cons c r=>rfl
theorem iDecCol_spec (b : List Int) (ty k : Int) (hb : bytesOk b) (hl : b.length ≤ 1048576) : Ctr Tryz.prog 160 [.c (.sl (b.map byteC)),.c (.v (.int .i64 (ty))),.c (.v (.int .i64 (k)))] (dvR (decCol b ty k)):=by
 rw [← decCol_eq hb]
 refine Ctr.mk Tryz.call160 Tryz.func160 rfl mixed Tryz.ntmps160 Tryz.results160 (by kernel_rfl) rfl fun hw=>?_
 rcases h0 : ((b.length : Int) == 0) with _ | _
 rotate_left
 ·have e : b = []:=by simpa using h0
  have e2 : decColI b ty k = none:=if_pos e
  rw [e2]
  simp only [go_sem,h0,dvR]
 have h0' : 0 < b.length:=by
  rcases Nat.eq_zero_or_pos b.length with h | h
  ·rw [h] at h0; exact absurd h0 (by decide)
  ·exact h
 have hall : decColI b ty k = if typeOf ((disp b ty k).getD []) = ty then again b k ((disp b ty k).getD []) (encCol ((disp b ty k).getD [])) else none:=by
  rw [← disp_eq hb]
  exact if_neg fun q=>by rw [q] at h0'; simp at h0'
 rw [hall]
 simp only [go_sem,h0,map_at _ h0']
 have hc : isByte b[0]:=hb _ (List.getElem_mem h0')
 have hc2:=hc.1
 have hc3:=hc.2
 have hw1 : IntKind.i64.wrap b[0] = b[0]:=wrap_i64 (by omega) (by omega)
 have hdd:=disp_drop h0' ty k
 have a2 : 1 ≤ b.length:=h0'
 have q1:=idxA_of (k:=.i64) (n:=(1 : Int)) (m:=1) (by omega)
 have htk : (b.drop 1).take (b.length - 1) = b.drop 1:=List.take_of_length_le (by simp)
 have hbd : bytesOk (b.drop 1):=fun c hc=>hb c (List.mem_of_mem_drop hc)
 have hdl : (b.drop 1).length ≤ 1048576:=by simp; omega
 rcases hk0 : b[0] == 0 with _ | _
 rotate_left
 ·rw [if_pos (by simpa using hk0)] at hdd
  simp only [go_sem,q1,a2,byte_all,Nat.le_refl,← List.map_drop,← List.map_take,htk,hw1,hk0]
  have hr:=iDecPlain_spec (b.drop 1) ty k hbd hdl
  rcases hd : decPlain (b.drop 1) ty k with _ | l <;> rw [hd] at hr hdd <;> simp only [dvR] at hr <;> rw [hdd]
  ·refine CallK.mk _ hr fun _=>?_
   simp only [go_sem,Option.getD_none]
   refine CallK.mk _ (iTypeOf_spec [] (by simp)) fun _=>?_
   rcases h5 : typeOf [] != ty with _ | _
   rotate_left
   ·rw [if_neg (by simpa using h5)]
    simp only [go_sem,h5,dvR]
   rw [if_pos (by simpa using h5)]
   simp only [go_sem,h5]
   refine CallK.mk _ (iEncCol_spec [] (by simp)) fun _=>?_
   simp only [go_sem]
   refine CallK.mk _ (decoded_spec b k [] (encCol [])) fun _=>?_
   rcases h6 : again b k [] (encCol []) with _ | l' <;> simp only [go_sem,dvR]
  ·have hll : l.length ≤ 1048576:=by have:=(disp_ok hb hdd).1; omega
   refine CallK.mk _ hr fun _=>?_
   simp only [go_sem,Option.getD_some]
   refine CallK.mk _ (iTypeOf_spec l hll) fun _=>?_
   rcases h5 : typeOf l != ty with _ | _
   rotate_left
   ·rw [if_neg (by simpa using h5)]
    simp only [go_sem,h5,dvR]
   rw [if_pos (by simpa using h5)]
   simp only [go_sem,h5]
   refine CallK.mk _ (iEncCol_spec l hll) fun _=>?_
   simp only [go_sem]
   refine CallK.mk _ (decoded_spec b k l (encCol l)) fun _=>?_
   rcases h6 : again b k l (encCol l) with _ | l' <;> simp only [go_sem,dvR]
 rcases hk1 : b[0] == 1 with _ | _
 rotate_left
 ·rw [if_neg (by simpa using hk0),if_pos (by simpa using hk1)] at hdd
  simp only [go_sem,q1,a2,byte_all,Nat.le_refl,← List.map_drop,← List.map_take,htk,hw1,hk0,hk1]
  have hr:=iDecRuns_spec (b.drop 1) ty k hbd hdl
  rcases hd : decRuns (b.drop 1) ty k with _ | l <;> rw [hd] at hr hdd <;> simp only [dvR] at hr <;> rw [hdd]
  ·refine CallK.mk _ hr fun _=>?_
   simp only [go_sem,Option.getD_none]
   refine CallK.mk _ (iTypeOf_spec [] (by simp)) fun _=>?_
   rcases h5 : typeOf [] != ty with _ | _
   rotate_left
   ·rw [if_neg (by simpa using h5)]
    simp only [go_sem,h5,dvR]
   rw [if_pos (by simpa using h5)]
   simp only [go_sem,h5]
   refine CallK.mk _ (iEncCol_spec [] (by simp)) fun _=>?_
   simp only [go_sem]
   refine CallK.mk _ (decoded_spec b k [] (encCol [])) fun _=>?_
   rcases h6 : again b k [] (encCol []) with _ | l' <;> simp only [go_sem,dvR]
  ·have hll : l.length ≤ 1048576:=by have:=(disp_ok hb hdd).1; omega
   refine CallK.mk _ hr fun _=>?_
   simp only [go_sem,Option.getD_some]
   refine CallK.mk _ (iTypeOf_spec l hll) fun _=>?_
   rcases h5 : typeOf l != ty with _ | _
   rotate_left
   ·rw [if_neg (by simpa using h5)]
    simp only [go_sem,h5,dvR]
   rw [if_pos (by simpa using h5)]
   simp only [go_sem,h5]
   refine CallK.mk _ (iEncCol_spec l hll) fun _=>?_
   simp only [go_sem]
   refine CallK.mk _ (decoded_spec b k l (encCol l)) fun _=>?_
   rcases h6 : again b k l (encCol l) with _ | l' <;> simp only [go_sem,dvR]
 rcases hk2 : b[0] == 2 with _ | _
 rotate_left
 ·rw [if_neg (by simpa using hk0),if_neg (by simpa using hk1),if_pos (by simpa using hk2)] at hdd
  simp only [go_sem,q1,a2,byte_all,Nat.le_refl,← List.map_drop,← List.map_take,htk,hw1,hk0,hk1,hk2]
  have hr:=iDecDict_spec (b.drop 1) ty k hbd hdl
  rcases hd : decDict (b.drop 1) ty k with _ | l <;> rw [hd] at hr hdd <;> simp only [dvR] at hr <;> rw [hdd]
  ·refine CallK.mk _ hr fun _=>?_
   simp only [go_sem,Option.getD_none]
   refine CallK.mk _ (iTypeOf_spec [] (by simp)) fun _=>?_
   rcases h5 : typeOf [] != ty with _ | _
   rotate_left
   ·rw [if_neg (by simpa using h5)]
    simp only [go_sem,h5,dvR]
   rw [if_pos (by simpa using h5)]
   simp only [go_sem,h5]
   refine CallK.mk _ (iEncCol_spec [] (by simp)) fun _=>?_
   simp only [go_sem]
   refine CallK.mk _ (decoded_spec b k [] (encCol [])) fun _=>?_
   rcases h6 : again b k [] (encCol []) with _ | l' <;> simp only [go_sem,dvR]
  ·have hll : l.length ≤ 1048576:=by have:=(disp_ok hb hdd).1; omega
   refine CallK.mk _ hr fun _=>?_
   simp only [go_sem,Option.getD_some]
   refine CallK.mk _ (iTypeOf_spec l hll) fun _=>?_
   rcases h5 : typeOf l != ty with _ | _
   rotate_left
   ·rw [if_neg (by simpa using h5)]
    simp only [go_sem,h5,dvR]
   rw [if_pos (by simpa using h5)]
   simp only [go_sem,h5]
   refine CallK.mk _ (iEncCol_spec l hll) fun _=>?_
   simp only [go_sem]
   refine CallK.mk _ (decoded_spec b k l (encCol l)) fun _=>?_
   rcases h6 : again b k l (encCol l) with _ | l' <;> simp only [go_sem,dvR]
 rcases hk3 : b[0] == 3 with _ | _
 rotate_left
 ·rw [if_neg (by simpa using hk0),if_neg (by simpa using hk1),if_neg (by simpa using hk2),if_pos (by simpa using hk3)] at hdd
  simp only [go_sem,q1,a2,byte_all,Nat.le_refl,← List.map_drop,← List.map_take,htk,hw1,hk0,hk1,hk2,hk3]
  have hr:=iDecFrame_spec (b.drop 1) k hbd hdl
  rcases hd : decFrame (b.drop 1) k with _ | l <;> rw [hd] at hr hdd <;> simp only [dvR] at hr <;> rw [hdd]
  ·refine CallK.mk _ hr fun _=>?_
   simp only [go_sem,Option.getD_none]
   refine CallK.mk _ (iTypeOf_spec [] (by simp)) fun _=>?_
   rcases h5 : typeOf [] != ty with _ | _
   rotate_left
   ·rw [if_neg (by simpa using h5)]
    simp only [go_sem,h5,dvR]
   rw [if_pos (by simpa using h5)]
   simp only [go_sem,h5]
   refine CallK.mk _ (iEncCol_spec [] (by simp)) fun _=>?_
   simp only [go_sem]
   refine CallK.mk _ (decoded_spec b k [] (encCol [])) fun _=>?_
   rcases h6 : again b k [] (encCol []) with _ | l' <;> simp only [go_sem,dvR]
  ·have hll : l.length ≤ 1048576:=by have:=(disp_ok hb hdd).1; omega
   refine CallK.mk _ hr fun _=>?_
   simp only [go_sem,Option.getD_some]
   refine CallK.mk _ (iTypeOf_spec l hll) fun _=>?_
   rcases h5 : typeOf l != ty with _ | _
   rotate_left
   ·rw [if_neg (by simpa using h5)]
    simp only [go_sem,h5,dvR]
   rw [if_pos (by simpa using h5)]
   simp only [go_sem,h5]
   refine CallK.mk _ (iEncCol_spec l hll) fun _=>?_
   simp only [go_sem]
   refine CallK.mk _ (decoded_spec b k l (encCol l)) fun _=>?_
   rcases h6 : again b k l (encCol l) with _ | l' <;> simp only [go_sem,dvR]
 rw [if_neg (by simpa using hk0),if_neg (by simpa using hk1),if_neg (by simpa using hk2),if_neg (by simpa using hk3)] at hdd
 rw [hdd]
 simp only [go_sem,q1,a2,byte_all,Nat.le_refl,← List.map_drop,← List.map_take,htk,hw1,hk0,hk1,hk2,hk3,Option.getD_none]
 refine CallK.mk _ (iTypeOf_spec [] (by simp)) fun _=>?_
 rcases h5 : typeOf [] != ty with _ | _
 rotate_left
 ·rw [if_neg (by simpa using h5)]
  simp only [go_sem,h5,dvR]
 rw [if_pos (by simpa using h5)]
 simp only [go_sem,h5]
 refine CallK.mk _ (iEncCol_spec [] (by simp)) fun _=>?_
 simp only [go_sem]
 refine CallK.mk _ (decoded_spec b k [] (encCol [])) fun _=>?_
 rcases h6 : again b k [] (encCol []) with _ | l' <;> simp only [go_sem,dvR]
theorem sDecCol_spec (b : List Int) (ty k : Int) (hb : bytesOk b) (hl : b.length ≤ 1048576) : Ctr Tryz.prog 149 [.c (.sl (b.map byteC)),.c (.v (.int .i64 (ty))),.c (.v (.int .i64 (k)))] (dvR (decCol b ty k)):=by
 refine Ctr.mk Tryz.call149 Tryz.func149 rfl mixed Tryz.ntmps149 Tryz.results149 (by kernel_rfl) rfl fun hw=>?_
 rcases h0 : ((b.length : Int) == 0) with _ | _
 rotate_left
 ·have e : b = []:=by simpa using h0
  have e2 : decCol b ty k = none:=by rw [e,decCol]; split <;> rfl
  rw [e2]
  simp only [go_sem,h0,dvR]
 have h0' : 0 < b.length:=by
  rcases Nat.eq_zero_or_pos b.length with h | h
  ·rw [h] at h0; exact absurd h0 (by decide)
  ·exact h
 simp only [go_sem,h0,map_at _ h0']
 refine CallK.mk _ (l1In_spec _ _ _) fun _=>?_
 rcases h1 : inR ty 1 2 with _ | _
 ·have e : decCol b ty k = none:=if_neg (by simp [inR] at h1; omega)
  rw [e]
  simp only [go_sem,h1,dvR]
 have hty : 1 ≤ ty ∧ ty ≤ 2:=by simp [inR] at h1; omega
 have hall : decCol b ty k = match disp b ty k with
  | none=>none
  | some l=>if typeOf l = ty ∧ encCol l = b then some l else none:=if_pos hty
 rw [hall]
 simp only [go_sem,h1,map_at _ h0']
 have hc : isByte b[0]:=hb _ (List.getElem_mem h0')
 have hc2:=hc.1
 have hc3:=hc.2
 have hw1 : IntKind.i64.wrap b[0] = b[0]:=wrap_i64 (by omega) (by omega)
 have hdd:=disp_drop h0' ty k
 have a2 : 1 ≤ b.length:=h0'
 have q1:=idxA_of (k:=.i64) (n:=(1 : Int)) (m:=1) (by omega)
 have htk : (b.drop 1).take (b.length - 1) = b.drop 1:=List.take_of_length_le (by simp)
 have hbd : bytesOk (b.drop 1):=fun c hc=>hb c (List.mem_of_mem_drop hc)
 have hdl : (b.drop 1).length ≤ 1048576:=by simp; omega
 rcases hk0 : b[0] == 0 with _ | _
 rotate_left
 ·rw [if_pos (by simpa using hk0)] at hdd
  simp only [go_sem,q1,a2,byte_all,Nat.le_refl,← List.map_drop,← List.map_take,htk,hw1,hk0]
  have hr:=sDecPlain_spec (b.drop 1) ty k hbd hdl
  rcases hd : decPlain (b.drop 1) ty k with _ | l <;> rw [hd] at hr hdd <;> simp only [dvR] at hr <;> rw [hdd]
  ·refine CallK.mk _ hr fun _=>?_
   simp only [go_sem,dvR]
  ·have hll : l.length ≤ 1048576:=by have:=(disp_ok hb hdd).1; omega
   refine CallK.mk _ hr fun _=>?_
   simp only [go_sem]
   refine CallK.mk _ (sTypeOf_spec l hll) fun _=>?_
   rcases h5 : typeOf l != ty with _ | _
   rotate_left
   ·have h5' : ¬ (typeOf l = ty ∧ encCol l = b):=fun q=>by simp at h5; exact h5 q.1
    simp only [go_sem,h5,if_neg h5',dvR]
   have h5' : typeOf l = ty:=by simpa using h5
   simp only [go_sem,h5]
   refine CallK.mk _ (sEncCol_spec l hll) fun _=>?_
   simp only [go_sem]
   refine CallK.mk _ (l5Same_spec (encCol l) b) fun _=>?_
   rcases h6 : decide (encCol l = b) with _ | _
   ·have h7 : ¬ (typeOf l = ty ∧ encCol l = b):=fun q=>by simp at h6; exact h6 q.2
    simp only [go_sem,h5,h6,if_neg h7,dvR]
   ·have h7 : typeOf l = ty ∧ encCol l = b:=⟨h5',by simpa using h6⟩
    simp only [go_sem,h5,h6,if_pos h7,dvR]
 rcases hk1 : b[0] == 1 with _ | _
 rotate_left
 ·rw [if_neg (by simpa using hk0),if_pos (by simpa using hk1)] at hdd
  simp only [go_sem,q1,a2,byte_all,Nat.le_refl,← List.map_drop,← List.map_take,htk,hw1,hk0,hk1]
  have hr:=sDecRuns_spec (b.drop 1) ty k hbd hdl
  rcases hd : decRuns (b.drop 1) ty k with _ | l <;> rw [hd] at hr hdd <;> simp only [dvR] at hr <;> rw [hdd]
  ·refine CallK.mk _ hr fun _=>?_
   simp only [go_sem,dvR]
  ·have hll : l.length ≤ 1048576:=by have:=(disp_ok hb hdd).1; omega
   refine CallK.mk _ hr fun _=>?_
   simp only [go_sem]
   refine CallK.mk _ (sTypeOf_spec l hll) fun _=>?_
   rcases h5 : typeOf l != ty with _ | _
   rotate_left
   ·have h5' : ¬ (typeOf l = ty ∧ encCol l = b):=fun q=>by simp at h5; exact h5 q.1
    simp only [go_sem,h5,if_neg h5',dvR]
   have h5' : typeOf l = ty:=by simpa using h5
   simp only [go_sem,h5]
   refine CallK.mk _ (sEncCol_spec l hll) fun _=>?_
   simp only [go_sem]
   refine CallK.mk _ (l5Same_spec (encCol l) b) fun _=>?_
   rcases h6 : decide (encCol l = b) with _ | _
   ·have h7 : ¬ (typeOf l = ty ∧ encCol l = b):=fun q=>by simp at h6; exact h6 q.2
    simp only [go_sem,h5,h6,if_neg h7,dvR]
   ·have h7 : typeOf l = ty ∧ encCol l = b:=⟨h5',by simpa using h6⟩
    simp only [go_sem,h5,h6,if_pos h7,dvR]
 rcases hk2 : b[0] == 2 with _ | _
 rotate_left
 ·rw [if_neg (by simpa using hk0),if_neg (by simpa using hk1),if_pos (by simpa using hk2)] at hdd
  simp only [go_sem,q1,a2,byte_all,Nat.le_refl,← List.map_drop,← List.map_take,htk,hw1,hk0,hk1,hk2]
  have hr:=sDecDict_spec (b.drop 1) ty k hbd hdl
  rcases hd : decDict (b.drop 1) ty k with _ | l <;> rw [hd] at hr hdd <;> simp only [dvR] at hr <;> rw [hdd]
  ·refine CallK.mk _ hr fun _=>?_
   simp only [go_sem,dvR]
  ·have hll : l.length ≤ 1048576:=by have:=(disp_ok hb hdd).1; omega
   refine CallK.mk _ hr fun _=>?_
   simp only [go_sem]
   refine CallK.mk _ (sTypeOf_spec l hll) fun _=>?_
   rcases h5 : typeOf l != ty with _ | _
   rotate_left
   ·have h5' : ¬ (typeOf l = ty ∧ encCol l = b):=fun q=>by simp at h5; exact h5 q.1
    simp only [go_sem,h5,if_neg h5',dvR]
   have h5' : typeOf l = ty:=by simpa using h5
   simp only [go_sem,h5]
   refine CallK.mk _ (sEncCol_spec l hll) fun _=>?_
   simp only [go_sem]
   refine CallK.mk _ (l5Same_spec (encCol l) b) fun _=>?_
   rcases h6 : decide (encCol l = b) with _ | _
   ·have h7 : ¬ (typeOf l = ty ∧ encCol l = b):=fun q=>by simp at h6; exact h6 q.2
    simp only [go_sem,h5,h6,if_neg h7,dvR]
   ·have h7 : typeOf l = ty ∧ encCol l = b:=⟨h5',by simpa using h6⟩
    simp only [go_sem,h5,h6,if_pos h7,dvR]
 rcases hk3 : b[0] == 3 with _ | _
 rotate_left
 ·rw [if_neg (by simpa using hk0),if_neg (by simpa using hk1),if_neg (by simpa using hk2),if_pos (by simpa using hk3)] at hdd
  simp only [go_sem,q1,a2,byte_all,Nat.le_refl,← List.map_drop,← List.map_take,htk,hw1,hk0,hk1,hk2,hk3]
  have hr:=sDecFrame_spec (b.drop 1) k hbd hdl
  rcases hd : decFrame (b.drop 1) k with _ | l <;> rw [hd] at hr hdd <;> simp only [dvR] at hr <;> rw [hdd]
  ·refine CallK.mk _ hr fun _=>?_
   simp only [go_sem,dvR]
  ·have hll : l.length ≤ 1048576:=by have:=(disp_ok hb hdd).1; omega
   refine CallK.mk _ hr fun _=>?_
   simp only [go_sem]
   refine CallK.mk _ (sTypeOf_spec l hll) fun _=>?_
   rcases h5 : typeOf l != ty with _ | _
   rotate_left
   ·have h5' : ¬ (typeOf l = ty ∧ encCol l = b):=fun q=>by simp at h5; exact h5 q.1
    simp only [go_sem,h5,if_neg h5',dvR]
   have h5' : typeOf l = ty:=by simpa using h5
   simp only [go_sem,h5]
   refine CallK.mk _ (sEncCol_spec l hll) fun _=>?_
   simp only [go_sem]
   refine CallK.mk _ (l5Same_spec (encCol l) b) fun _=>?_
   rcases h6 : decide (encCol l = b) with _ | _
   ·have h7 : ¬ (typeOf l = ty ∧ encCol l = b):=fun q=>by simp at h6; exact h6 q.2
    simp only [go_sem,h5,h6,if_neg h7,dvR]
   ·have h7 : typeOf l = ty ∧ encCol l = b:=⟨h5',by simpa using h6⟩
    simp only [go_sem,h5,h6,if_pos h7,dvR]
 rw [if_neg (by simpa using hk0),if_neg (by simpa using hk1),if_neg (by simpa using hk2),if_neg (by simpa using hk3)] at hdd
 rw [hdd]
 simp only [go_sem,q1,a2,byte_all,Nat.le_refl,← List.map_drop,← List.map_take,htk,hw1,hk0,hk1,hk2,hk3,dvR]
end Go.Proofs.YthoeeoddgkjkkaaGreat
