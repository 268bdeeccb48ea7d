/- Walks: runs. -/
import Derived.Test.YthoeeoddgkjkkaaGreatYg
namespace Go.Proofs.YthoeeoddgkjkkaaGreat
set_option linter.unusedSimpArgs false
set_option linter.unusedVariables false
open Go.Vm
set_option maxHeartbeats 2000000
set_option maxRecDepth 10000
def runC (r : DVal × Int) : List Cl:=[.v (.int .i64 r.1.ty),.v (.int .i64 r.1.n),.v (.string r.1.s),.v (.int .i64 r.2)]
theorem runC_pure (r : DVal × Int) : pureL (runC r) = true:=rfl
theorem pe_run (l : List (DVal × Int)) : pureE (l.map runC) = true:=pureE_map runC_pure
def addR : List (DVal × Int) → DVal → List (DVal × Int)
 | [],v=>[(v,1)]
 | [x],v=>if eqV x.1 v = true then [(x.1,x.2 + 1)] else [x,(v,1)]
 | x :: y :: r,v=>x :: addR (y :: r) v
theorem addR_ne (r : List (DVal × Int)) (v : DVal) : addR r v ≠ []:=by
 cases r with
 | nil=>simp [addR]
 | cons x r =>
  cases r with
  | nil=>simp only [addR]; split <;> simp
  | cons y r=>simp [addR]
theorem runs_nil {l : List DVal} (h : runs l = []) : l = []:=by
 cases l with
 | nil=>rfl
 | cons v l =>
  rw [runs] at h
  split at h
  ·cases h
  ·split at h <;> cases h
theorem runs_cons (v : DVal) (l : List DVal) : runs (v :: l) = match runs l with
  | []=>[(v,1)]
  | (x,k) :: r=>if eqV v x = true then (x,k + 1) :: r else (v,1) :: (x,k) :: r:=by rw [runs]; rfl
theorem runs_snoc (v : DVal) : ∀ l : List DVal,runs (l ++ [v]) = addR (runs l) v
 | []=>rfl
 | a :: l=>by
  have ih:=runs_snoc v l
  rw [List.cons_append,runs_cons,runs_cons,ih]
  cases hr : runs l with
  | nil =>
   have:=runs_nil hr
   subst this
   simp only [addR]
   by_cases h : eqV a v = true
   ·have:=(eqV_iff a v).1 h
    subst this
    simp [h]
   ·simp [h]
  | cons y r =>
   obtain ⟨x,k⟩:=y
   cases r with
   | nil =>
    simp only [addR]
    by_cases h : eqV x v = true <;> by_cases h2 : eqV a x = true <;> simp [h,h2,addR]
   | cons z r =>
    rw [addR]
    dsimp only
    by_cases h2 : eqV a x = true
    ·rw [if_pos h2,if_pos h2,addR]
    ·rw [if_neg h2,if_neg h2,addR,addR]
theorem addR_at (v : DVal) : ∀ {rs : List (DVal × Int)} {n : Nat} (h : rs.length = n + 1),addR rs v = if eqV (rs[n]'(by omega)).1 v = true then rs.set n ((rs[n]'(by omega)).1,(rs[n]'(by omega)).2 + 1) else rs ++ [(v,1)]
 | [],_,h=>by simp at h
 | [x],n,h=>by
  have : n = 0:=by simpa using h.symm
  subst this
  simp only [addR,List.getElem_cons_zero]
  rfl
 | x :: y :: r,n,h=>by
  obtain ⟨m,rfl⟩ : ∃ m,n = m + 1:=⟨n - 1,by simp at h; omega⟩
  rw [addR,addR_at v (rs:=y :: r) (n:=m) (by simpa using h)]
  simp only [List.getElem_cons_succ,List.set_cons_succ,List.cons_append]
  split <;> rfl
theorem addR_last (v : DVal) : ∀ (rs : List (DVal × Int)),∃ q,(addR rs v).getLast? = some (v,q)
 | []=>⟨1,rfl⟩
 | [x]=>by
  simp only [addR]
  split
  ·rename_i h
   exact ⟨x.2 + 1,by rw [(eqV_iff _ _).1 h]; rfl⟩
  ·exact ⟨1,rfl⟩
 | x :: y :: r=>by
  obtain ⟨q,hq⟩:=addR_last v (y :: r)
  refine ⟨q, ?_⟩
  rw [addR,List.getLast?_cons,hq]; rfl
theorem runs_mem : ∀ {l : List DVal} {r : DVal × Int},r ∈ runs l → r.1 ∈ l ∧ 1 ≤ r.2 ∧ r.2 ≤ l.length
 | [],_,h=>by cases h
 | v :: l,r,h=>by
  rw [runs_cons] at h
  have ih:=fun r=>runs_mem (l:=l) (r:=r)
  cases hr : runs l with
  | nil =>
   simp only [hr,List.mem_singleton] at h
   subst h
   simp only [List.mem_cons,List.length_cons]
   exact ⟨.inl trivial,by omega,by omega⟩
  | cons y q =>
   obtain ⟨x,k⟩:=y
   rw [hr] at h ih
   dsimp only at h
   split at h
   ·rcases List.mem_cons.1 h with rfl | h
    ·obtain ⟨a1,a2,a3⟩:=ih (x,k) (by simp)
     simp only [List.mem_cons,List.length_cons] at *
     exact ⟨.inr a1,by omega,by omega⟩
    ·obtain ⟨a1,a2,a3⟩:=ih r (by simp [h])
     simp only [List.mem_cons,List.length_cons]
     exact ⟨.inr a1,by omega,by omega⟩
   ·rcases List.mem_cons.1 h with rfl | h
    ·simp only [List.mem_cons,List.length_cons]
     exact ⟨.inl trivial,by omega,by omega⟩
    ·obtain ⟨a1,a2,a3⟩:=ih r h
     simp only [List.mem_cons,List.length_cons]
     exact ⟨.inr a1,by omega,by omega⟩
theorem runs_len : ∀ l : List DVal,(runs l).length ≤ l.length
 | []=>Nat.le_refl _
 | v :: l=>by
  have:=runs_len l
  rw [runs_cons]
  split
  ·simp
  ·rename_i x k r h
   rw [h] at this
   simp only [List.length_cons] at this ⊢
   split <;> simp <;> omega
theorem take_snoc {α : Type} {l : List α} {i : Nat} (h : i < l.length) : l.take (i + 1) = l.take i ++ [l[i]]:=List.take_succ_eq_append_getElem h
theorem run_snoc (rs : List (DVal × Int)) (v : DVal) : (rs ++ [(v,1)]).map runC = rs.map runC ++ [[.v (.int .i64 v.ty),.v (.int .i64 v.n),.v (.string v.s),.v (.int .i64 1)]]:=by simp [runC]
theorem pe_rsnoc (rs : List (DVal × Int)) (v : DVal) : pureE (rs.map runC ++ [[.v (.int .i64 v.ty),.v (.int .i64 v.n),.v (.string v.s),.v (.int .i64 1)]]) = true:=by rw [← run_snoc]; exact pe_run _
theorem run_set (rs : List (DVal × Int)) (n : Nat) (v : DVal) (k : Int) : (rs.set n (v,k)).map runC = (rs.map runC).set n [.v (.int .i64 v.ty),.v (.int .i64 v.n),.v (.string v.s),.v (.int .i64 k)]:=by rw [List.map_set]; rfl
theorem pe_rset (rs : List (DVal × Int)) (n : Nat) (v : DVal) (k : Int) : pureE ((rs.map runC).set n [.v (.int .i64 v.ty),.v (.int .i64 v.n),.v (.string v.s),.v (.int .i64 k)]) = true:=by rw [← run_set]; exact pe_run _
theorem runs_last {l : List DVal} {j : Nat} (hj : j < l.length) : ∃ (n : Nat) (h : (runs (l.take (j + 1))).length = n + 1),((runs (l.take (j + 1)))[n]'(by omega)).1 = l[j]:=by
 have hs : runs (l.take (j + 1)) = addR (runs (l.take j)) l[j]:=by rw [take_snoc hj,runs_snoc]
 obtain ⟨q,hq⟩:=addR_last l[j] (runs (l.take j))
 rw [← hs] at hq
 have hne : runs (l.take (j + 1)) ≠ []:=by rw [hs]; exact addR_ne _ _
 have hlen : 0 < (runs (l.take (j + 1))).length:=List.length_pos_iff.2 hne
 refine ⟨(runs (l.take (j + 1))).length - 1,by omega, ?_⟩
 rw [List.getLast?_eq_getElem?,List.getElem?_eq_getElem (by omega)] at hq
 rw [Option.some.inj hq]
theorem iRuns_spec (l : List DVal) (hl : l.length ≤ 1048576) : Ctr Tryz.prog 249 [.c (.sl (l.map DVal.c))] [.val (.c (.sl ((runs l).map runC)))]:=by
 refine Ctr.mk Tryz.call249 Tryz.func249 rfl mixed Tryz.ntmps249 Tryz.results249 (by kernel_rfl) rfl fun hw=>?_
 simp only [go_sem]
 refine LoopH.mk [6] (A:=Nat) (fun x=>[(9,.c (.v (.int .i64 (x)))),(3,.c (.ref 0))]) (fun x=>[⟨248,4,(runs (l.take x)).map runC,true,true⟩]) (fun x=>x ≤ l.length) (fun x=>l.length - x) 0 (Head.sel [(0,false)] ⟨rfl,rfl,rfl,trivial⟩ rfl) (Nat.zero_le _) ?_
 rintro i hi
 simp only [go_sem]
 refine cndC.mk (fun h=>?_) (fun h=>?_)
 ·have hi' : i < l.length:=by simp at h; omega
  have hs : runs (l.take (i + 1)) = addR (runs (l.take i)) l[i]:=by rw [take_snoc hi',runs_snoc]
  have hrl:=runs_len (l.take i)
  rw [List.length_take] at hrl
  have hl2 : (runs (l.take i)).length + 1 ≤ 2147483648:=by omega
  rcases h2 : decide ((i : Int) > 0) with _ | _
  ·have h2' : i = 0:=by simp at h2; omega
   subst h2'
   have hs2 : runs (l.take (0 + 1)) = [(l[0],1)]:=by rw [hs]; rfl
   have hs3 : (runs ([] : List DVal)).map runC = []:=rfl
   have hs4 : (runs ([] : List DVal)).length = 0:=rfl
   simp only [go_sem,map_at _ hi']
   refine DrawK.mk ?_
   simp only [go_sem,h2,pe_run,hs4,Nat.zero_le,wrap_i64 (n:=((0 : Nat) : Int) + 1) (by omega) (by omega)]
   exact ⟨0 + 1,Head.sel [(3,false)] ⟨rfl,rfl,rfl,trivial⟩ (by rw [hs2]; rfl),hi',by omega⟩
  ·have h2' : 0 < i:=by simpa using h2
   obtain ⟨j,rfl⟩ : ∃ j,i = j + 1:=⟨i - 1,by omega⟩
   have hj : j < l.length:=by omega
   have hw1 : IntKind.i64.wrap (((j + 1 : Nat) : Int) - 1) = (j : Int):=by rw [show (((j + 1 : Nat) : Int) - 1) = (j : Int) by omega]; exact wrap_i64 (by omega) (by omega)
   have e1 : (l[j].ty == l[j + 1].ty && (l[j].n == l[j + 1].n && l[j].s.toList == l[j + 1].s.toList)) = eqV l[j] l[j + 1]:=rfl
   obtain ⟨n,hn,hn2⟩:=runs_last hj
   have hn3 : n < (runs (l.take (j + 1))).length:=by omega
   rw [addR_at l[j + 1] hn,hn2] at hs
   simp only [go_sem,map_at _ hi']
   refine DrawK.mk ?_
   simp only [go_sem,h2,hw1,map_at _ hj,eqBy,eq1,e1]
   rcases h3 : eqV l[j] l[j + 1] with _ | _
   ·rw [h3,if_neg (by simp)] at hs
    simp only [go_sem,h3,hl2,pe_run,wrap_i64 (n:=((j + 1 : Nat) : Int) + 1) (by omega) (by omega)]
    exact ⟨j + 1 + 1,Head.sel [(3,false)] ⟨rfl,rfl,pe_rsnoc _ _,trivial⟩ (by rw [hs,run_snoc]; rfl),hi',by omega⟩
   ·rw [h3,if_pos rfl] at hs
    have hw2 : IntKind.i64.wrap (((runs (l.take (j + 1))).length : Int) - 1) = (n : Int):=by rw [show (((runs (l.take (j + 1))).length : Int) - 1) = (n : Int) by omega]; exact wrap_i64 (by omega) (by omega)
    obtain ⟨b1,b2,b3⟩:=runs_mem (List.getElem_mem hn3)
    rw [List.length_take] at b3
    simp only [go_sem,h3,hw2,hn3,map_at _ hn3,runC,pe_run,hn2,wrap_i64 (n:=(runs (l.take (j + 1)))[n].2 + 1) (by omega) (by omega),wrap_i64 (n:=((j + 1 : Nat) : Int) + 1) (by omega) (by omega)]
    exact ⟨j + 1 + 1,Head.sel [(0,false)] ⟨rfl,rfl,pe_rset _ _ _ _,trivial⟩ (by rw [hs,run_set]; rfl),hi',by omega⟩
 ·have hi' : i = l.length:=by simp at h; omega
  subst hi'
  simp only [go_sem,List.take_length,pe_run]
  try simp [OwnL,pureC]
theorem sRuns_spec (l : List DVal) (hl : l.length ≤ 1048576) : Ctr Tryz.prog 235 [.c (.sl (l.map DVal.c))] [.val (.c (.sl ((runs l).map runC)))]:=by
 refine Ctr.mk Tryz.call235 Tryz.func235 rfl mixed Tryz.ntmps235 Tryz.results235 (by kernel_rfl) rfl fun hw=>?_
 simp only [go_sem]
 refine LoopH.mk [6] (A:=Nat) (fun x=>[(4,.c (.v (.int .i64 (x)))),(3,.c (.ref 0))]) (fun x=>[⟨248,4,(runs (l.take x)).map runC,true,true⟩]) (fun x=>x ≤ l.length) (fun x=>l.length - x) 0 (Head.sel [(0,false)] ⟨rfl,rfl,rfl,trivial⟩ rfl) (Nat.zero_le _) ?_
 rintro i hi
 simp only [go_sem]
 refine cndC.mk (fun h=>?_) (fun h=>?_)
 ·have hi' : i < l.length:=by simp at h; omega
  have hs : runs (l.take (i + 1)) = addR (runs (l.take i)) l[i]:=by rw [take_snoc hi',runs_snoc]
  have hrl:=runs_len (l.take i)
  rw [List.length_take] at hrl
  have hl2 : (runs (l.take i)).length + 1 ≤ 2147483648:=by omega
  rcases i with _ | j
  ·have h2 : decide ((0 : Int) > 0) = false:=by decide
   have hs2 : runs (l.take (0 + 1)) = [(l[0],1)]:=by rw [hs]; rfl
   have hs4 : (runs ([] : List DVal)).length = 0:=rfl
   simp only [go_sem,List.take_zero,hs4,Int.ofNat_zero,Int.natCast_zero]
   refine DrawK.mk ?_
   simp only [go_sem,List.take_zero,hs4,h2,Int.ofNat_zero,Int.natCast_zero,map_at _ hi',pe_run,Nat.zero_le,wrap_i64 (n:=(0 : Int) + 1) (by omega) (by omega)]
   exact ⟨0 + 1,Head.sel [(2,false)] ⟨rfl,rfl,rfl,trivial⟩ (by rw [hs2]; rfl),hi',by omega⟩
  ·have hj : j < l.length:=by omega
   obtain ⟨n,hn,hn2⟩:=runs_last hj
   have hn3 : n < (runs (l.take (j + 1))).length:=by omega
   rw [addR_at l[j + 1] hn,hn2] at hs
   have h2 : decide (((runs (l.take (j + 1))).length : Int) > 0) = true:=by rw [decide_eq_true_eq]; omega
   have hw2 : IntKind.i64.wrap (((runs (l.take (j + 1))).length : Int) - 1) = (n : Int):=by rw [show (((runs (l.take (j + 1))).length : Int) - 1) = (n : Int) by omega]; exact wrap_i64 (by omega) (by omega)
   have e1 : (l[j].ty == l[j + 1].ty && (l[j].n == l[j + 1].n && l[j].s.toList == l[j + 1].s.toList)) = eqV l[j] l[j + 1]:=rfl
   simp only [go_sem]
   refine DrawK.mk ?_
   simp only [go_sem,h2,hw2,hn3,map_at _ hn3,map_at _ hi',runC,hn2,eqBy,eq1,e1]
   rcases h3 : eqV l[j] l[j + 1] with _ | _
   ·rw [h3,if_neg (by simp)] at hs
    simp only [go_sem,h3,hl2,map_at _ hi',pe_run,wrap_i64 (n:=((j + 1 : Nat) : Int) + 1) (by omega) (by omega)]
    exact ⟨j + 1 + 1,Head.sel [(2,false)] ⟨rfl,rfl,pe_rsnoc _ _,trivial⟩ (by rw [hs,run_snoc]; rfl),hi',by omega⟩
   ·rw [h3,if_pos rfl] at hs
    obtain ⟨b1,b2,b3⟩:=runs_mem (List.getElem_mem hn3)
    rw [List.length_take] at b3
    simp only [go_sem,h3,hw2,hn3,map_at _ hn3,map_at _ hi',runC,pe_run,hn2,wrap_i64 (n:=(runs (l.take (j + 1)))[n].2 + 1) (by omega) (by omega),wrap_i64 (n:=((j + 1 : Nat) : Int) + 1) (by omega) (by omega)]
    exact ⟨j + 1 + 1,Head.sel [(0,false)] ⟨rfl,rfl,pe_rset _ _ _ _,trivial⟩ (by rw [hs,run_set]; rfl),hi',by omega⟩
 ·have hi' : i = l.length:=by simp at h; omega
  subst hi'
  simp only [go_sem,List.take_length,pe_run]
  try simp [OwnL,pureC]
theorem spreadL_cons (v : DVal) (k : Int) (r : List (DVal × Int)) (n : Nat) : spreadL ((v,k) :: r) n = if k < 1 ∨ k > 64 - n then none else (spreadL r (n + k.toNat)).map fun l=>List.replicate k.toNat v ++ l:=rfl
theorem drop_cons' {α : Type} {l : List α} {i : Nat} (h : i < l.length) : l.drop i = l[i] :: l.drop (i + 1):=List.drop_eq_getElem_cons h
theorem rep_snoc (out : List DVal) (j : Nat) (v : DVal) : (out ++ List.replicate (j + 1) v).map DVal.c = (out ++ List.replicate j v).map DVal.c ++ [v.c]:=by
 rw [List.replicate_succ',← List.append_assoc,val_snoc]
theorem pe_rep (out : List DVal) (j : Nat) (v : DVal) : pureE ((out ++ List.replicate j v).map DVal.c ++ [v.c]) = true:=by rw [← val_snoc]; exact pe_Val _
theorem iSpread_spec (r : List (DVal × Int)) (hl : r.length ≤ 1048576) : Ctr Tryz.prog 219 [.c (.sl (r.map runC))] [.val (.c (.sl ((spread r).map DVal.c)))]:=by
 refine Ctr.mk Tryz.call219 Tryz.func219 rfl mixed Tryz.ntmps219 Tryz.results219 (by kernel_rfl) rfl fun hw=>?_
 simp only [go_sem]
 refine LoopH.mk [7] (A:=Nat × List DVal) (fun x=>[(10,.c (.v (.int .i64 (x.1)))),(3,.c (.ref 0))]) (fun x=>[⟨72,3,x.2.map DVal.c,true,true⟩]) (fun x=>x.1 ≤ r.length ∧ x.2.length ≤ 64 ∧ (spreadL (r.drop x.1) x.2.length).map (fun y=>x.2 ++ y) = spreadL r 0) (fun x=>r.length - x.1) (0,[]) (Head.sel [(0,false)] ⟨rfl,rfl,rfl,trivial⟩ rfl) ⟨Nat.zero_le _,Nat.zero_le _,by simp⟩ ?_
 rintro ⟨i,out⟩ ⟨hi,hll,hp⟩
 dsimp only at hi hll hp
 simp only [go_sem]
 refine cndC.mk (fun h=>?_) (fun h=>?_)
 ·have hi' : i < r.length:=by simp at h; omega
  rw [drop_cons' hi',show r[i] = (r[i].1,r[i].2) from rfl,spreadL_cons] at hp
  rcases h2 : decide (r[i].2 < 1) with _ | _
  rotate_left
  ·rw [if_pos (.inl (by simpa using h2))] at hp
   simp only [Option.map_none] at hp
   have e : spread r = []:=by rw [spread,← hp]; rfl
   rw [e]
   simp only [go_sem,map_at _ hi',runC,h2,List.map_nil]
  have h2' : 1 ≤ r[i].2:=by simp at h2; omega
  have hw1 : IntKind.i64.wrap (64 - (out.length : Int)) = 64 - (out.length : Int):=wrap_i64 (by omega) (by omega)
  rcases h3 : decide (r[i].2 > 64 - (out.length : Int)) with _ | _
  rotate_left
  ·rw [if_pos (.inr (by simpa using h3))] at hp
   simp only [Option.map_none] at hp
   have e : spread r = []:=by rw [spread,← hp]; rfl
   rw [e]
   simp only [go_sem,map_at _ hi',runC,h2,hw1,h3,List.map_nil]
  have h3' : r[i].2 ≤ 64 - (out.length : Int):=by simp at h3; omega
  obtain ⟨K,hK⟩:=Int.eq_ofNat_of_zero_le (show 0 ≤ r[i].2 by omega)
  rw [if_neg (by omega),hK,Int.toNat_natCast] at hp
  rw [hK] at h2 h3 h2' h3'
  simp only [go_sem,map_at _ hi',runC,hK,h2,hw1,h3]
  refine LoopH.mk [20] (A:=Nat) (fun x=>[(6,.c (.v (.int .i64 (x)))),(3,.c (.ref 0))]) (fun x=>[⟨72,3,(out ++ List.replicate x r[i].1).map DVal.c,true,true⟩,⟨248,4,[runC (r[i].1,(K : Int))],true,true⟩]) (fun x=>x ≤ K) (fun x=>K - x) 0 (Head.sel [(0,false),(1,false)] ⟨rfl,rfl,pe_Val _,rfl,trivial⟩ (by simp only [List.replicate_zero,List.append_nil]; rfl)) (Nat.zero_le _) ?_
  rintro j hj
  have hl2 : out.length + j + 1 ≤ 2147483648:=by omega
  simp only [go_sem,runC]
  refine cndC.mk (fun h=>?_) (fun h=>?_)
  ·have hj' : j < K:=by simp [runC] at h; omega
   simp only [go_sem,runC,hl2,List.length_replicate,wrap_i64 (n:=(j : Int) + 1) (by omega) (by omega)]
   exact ⟨j + 1,Head.sel [(3,false),(1,false)] ⟨rfl,rfl,pe_rep _ _ _,rfl,trivial⟩ (by rw [rep_snoc]; rfl),hj',by omega⟩
  ·have hj' : j = K:=by simp [runC] at h; omega
   subst hj'
   simp only [go_sem,runC,wrap_i64 (n:=(i : Int) + 1) (by omega) (by omega)]
   exact ⟨(i + 1,out ++ List.replicate j r[i].1),Head.sel [(0,false)] ⟨rfl,rfl,pe_Val _,trivial⟩ rfl,⟨hi',by simp; omega,by
    rw [← hp,Option.map_map,List.length_append,List.length_replicate]; congr 1; funext y; simp⟩,by simp only; omega⟩
 ·have hi' : i = r.length:=by simp at h; omega
  subst hi'
  rw [List.drop_length] at hp
  simp only [spreadL,Option.map_some,List.append_nil] at hp
  have e : spread r = out:=by rw [spread,← hp]; rfl
  rw [e]
  simp only [go_sem]
  try simp [OwnL,pureC]
end Go.Proofs.YthoeeoddgkjkkaaGreat
/- Walks: dictionaries: places, picked. -/
namespace Go.Vm
set_option linter.unusedSimpArgs false
set_option linter.unusedVariables false
theorem Head.frz {s : MS} (ls : List Nat) {st' : List Ob} (h : fzObs s.st ls = some st') : Head s ⟨s.n,s.env,st'⟩:=⟨rfl,fun w0 St0 St β a w hc=>by
 obtain ⟨St',h'⟩:=fzObs_ok ls s.st st' St hc h
 exact ⟨St',β,h'⟩⟩
end Go.Vm
namespace Go.Proofs.YthoeeoddgkjkkaaGreat
set_option linter.unusedSimpArgs false
set_option linter.unusedVariables false
open Go.Vm
set_option maxHeartbeats 2000000
set_option maxRecDepth 10000
theorem drop_cons {α : Type} {l : List α} {i : Nat} (h : i < l.length) : l.drop i = l[i] :: l.drop (i + 1):=List.drop_eq_getElem_cons h
theorem placeOf_cons (v x : DVal) (r : List DVal) (i : Nat) : placeOf v (x :: r) i = if eqV x v = true then some (i : Int) else placeOf v r (i + 1):=rfl
theorem placeOf_ge {v : DVal} : ∀ {d : List DVal} {k : Nat} {i : Int},placeOf v d k = some i → (k : Int) ≤ i
 | [],_,_,h=>by cases h
 | x :: r,k,i,h=>by
  rw [placeOf_cons] at h
  split at h
  ·simp only [Option.some.injEq] at h; omega
  ·have:=placeOf_ge h; omega
theorem eqV_comm (a b : DVal) : eqV a b = eqV b a:=by
 rw [Bool.eq_iff_iff,eqV_iff,eqV_iff]; exact eq_comm
theorem sInDict_spec (d : List DVal) (v : DVal) (hl : d.length ≤ 1048576) : Ctr Tryz.prog 260 [.c (.sl (d.map DVal.c)),.agg v.c] [.val (.c (.v (.int .i64 ((placeOf v d 0).getD (-1)))))]:=by
 refine Ctr.mk Tryz.call260 Tryz.func260 rfl mixed Tryz.ntmps260 Tryz.results260 (by kernel_rfl) rfl fun hw=>?_
 simp only [go_sem]
 refine LoopU.mk 1 (A:=Nat) (fun x=>[(5,.c (.v (.int .i64 (x))))]) (fun _=>[⟨72,3,[v.c],true,true⟩]) (fun x=>x ≤ d.length ∧ placeOf v (d.drop x) x = placeOf v d 0) (fun x=>d.length - x) 0 ⟨⟨rfl,rfl⟩,rfl,Nat.zero_le _,rfl⟩ ?_
 rintro i ⟨hi,hp⟩
 simp only [go_sem]
 refine cndC.mk (fun h=>?_) (fun h=>?_)
 ·have hi' : i < d.length:=by simp at h; omega
  have e1 : (d[i].ty == v.ty && (d[i].n == v.n && d[i].s.toList == v.s.toList)) = eqV d[i] v:=rfl
  rw [drop_cons hi',placeOf_cons] at hp
  simp only [go_sem,map_at _ hi']
  refine DrawK.mk ?_
  simp only [go_sem,map_at _ hi',eqBy,eq1,e1]
  rcases h2 : eqV d[i] v with _ | _
  ·simp only [h2,Bool.false_eq_true,if_false] at hp
   simp only [go_sem,h2,wrap_i64 (n:=(i : Int) + 1) (by omega) (by omega)]
   exact ⟨i + 1,⟨rfl,rfl⟩,rfl,⟨hi',hp⟩,by omega⟩
  ·simp only [h2,if_true] at hp
   rw [← hp]
   simp only [go_sem,h2]
 ·have hi' : i = d.length:=by simp at h; omega
  subst hi'
  rw [List.drop_length] at hp
  rw [← hp]
  simp only [go_sem,placeOf,Option.getD_none]
theorem index_spec (d : List DVal) (v : DVal) (hl : d.length ≤ 1048576) : Ctr Tryz.prog 269 [.c (.sl (d.map DVal.c)),.agg v.c] [.val (.c (.v (.int .i64 ((placeOf v d 0).getD (-1)))))]:=by
 refine Ctr.mk Tryz.call269 Tryz.func269 rfl mixed Tryz.ntmps269 Tryz.results269 (by kernel_rfl) rfl fun hw=>?_
 simp only [go_sem]
 refine LoopU.mk 1 (A:=Nat) (fun x=>[(8,.c (.v (.int .i64 (x))))]) (fun _=>[⟨72,3,[v.c],true,true⟩]) (fun x=>x ≤ d.length ∧ placeOf v (d.drop x) x = placeOf v d 0) (fun x=>d.length - x) 0 ⟨⟨rfl,rfl⟩,rfl,Nat.zero_le _,rfl⟩ ?_
 rintro i ⟨hi,hp⟩
 simp only [go_sem]
 refine cndC.mk (fun h=>?_) (fun h=>?_)
 ·have hi' : i < d.length:=by simp at h; omega
  have e1 : (v.ty == d[i].ty && (v.n == d[i].n && v.s.toList == d[i].s.toList)) = eqV v d[i]:=rfl
  rw [drop_cons hi',placeOf_cons] at hp
  simp only [go_sem,map_at _ hi']
  refine DrawK.mk ?_
  simp only [go_sem,map_at _ hi',eqBy,eq1,e1,eqV_comm v d[i]]
  rcases h2 : eqV d[i] v with _ | _
  ·simp only [h2,Bool.false_eq_true,if_false] at hp
   simp only [go_sem,h2,wrap_i64 (n:=(i : Int) + 1) (by omega) (by omega)]
   exact ⟨i + 1,⟨rfl,rfl⟩,rfl,⟨hi',hp⟩,by omega⟩
  ·simp only [h2,if_true] at hp
   rw [← hp]
   simp only [go_sem,h2]
 ·have hi' : i = d.length:=by simp at h; omega
  subst hi'
  rw [List.drop_length] at hp
  rw [← hp]
  simp only [go_sem,placeOf,Option.getD_none]
theorem iInDict_spec (d : List DVal) (v : DVal) (hl : d.length ≤ 1048576) : Ctr Tryz.prog 267 [.c (.sl (d.map DVal.c)),.agg v.c] [.val (.c (.v (.int .i64 ((placeOf v d 0).getD (-1)))))]:=by
 refine Ctr.mk Tryz.call267 Tryz.func267 rfl mixed Tryz.ntmps267 Tryz.results267 (by kernel_rfl) rfl fun hw=>?_
 simp only [go_sem]
 refine CallK.mk _ (index_spec d v hl) fun _=>?_
 simp only [go_sem]
theorem places_cons (d : List DVal) (v : DVal) (l : List DVal) : places d (v :: l) = match placeOf v d 0,places d l with
  | some i,some r=>some (i :: r)
  | _,_=>none:=rfl
theorem iPlaces_spec (d l : List DVal) (hl : l.length ≤ 1048576) (hd : d.length ≤ 1048576) : Ctr Tryz.prog 254 [.c (.sl (d.map DVal.c)),.c (.sl (l.map DVal.c))] (upR (places d l)):=by
 refine Ctr.mk Tryz.call254 Tryz.func254 rfl mixed Tryz.ntmps254 Tryz.results254 (by kernel_rfl) rfl fun hw=>?_
 simp only [go_sem]
 refine LoopH.mk [10] (A:=Nat × List Int) (fun x=>[(13,.c (.v (.int .i64 (x.1)))),(6,.c (.ref 0))]) (fun x=>[⟨3,1,x.2.map intC,true,true⟩]) (fun x=>x.1 ≤ l.length ∧ x.2.length = x.1 ∧ (places d (l.drop x.1)).map (fun y=>x.2 ++ y) = places d l) (fun x=>l.length - x.1) (0,[]) (Head.sel [(0,false)] ⟨rfl,rfl,rfl,trivial⟩ rfl) ⟨Nat.zero_le _,rfl,by simp⟩ ?_
 rintro ⟨i,out⟩ ⟨hi,hll,hp⟩
 dsimp only at hi hll hp
 simp only [go_sem]
 refine cndC.mk (fun h=>?_) (fun h=>?_)
 ·have hi' : i < l.length:=by simp at h; omega
  have hl2 : out.length + 1 ≤ 2147483648:=by omega
  rw [drop_cons hi',places_cons] at hp
  simp only [go_sem,map_at _ hi']
  refine CallK.mk _ (iInDict_spec d l[i] hd) fun _=>?_
  rcases h2 : placeOf l[i] d 0 with _ | p
  ·rw [h2] at hp
   simp only [Option.map_none] at hp
   have h3 : decide ((-1 : Int) < 0) = true:=by decide
   rw [← hp]
   simp only [go_sem,h2,Option.getD_none,h3,upR]
  ·rw [h2] at hp
   have h3 : decide (p < 0) = false:=by have:=placeOf_ge h2; simp; omega
   simp only [go_sem,h2,h3,hl2,wrap_i64 (n:=(i : Int) + 1) (by omega) (by omega)]
   exact ⟨(i + 1,out ++ [p]),Head.sel [(3,false)] ⟨rfl,rfl,by rw [← int_snoc]; exact pe_int _,trivial⟩ (by rw [int_snoc]; rfl),⟨hi',by simp; omega,by
    rw [← hp]
    cases places d (l.drop (i + 1)) <;> simp⟩,by simp only; omega⟩
 ·have hi' : i = l.length:=by simp at h; omega
  subst hi'
  rw [List.drop_length] at hp
  simp only [places,Option.map_some,List.append_nil] at hp
  rw [← hp]
  simp only [go_sem,upR]
  try simp [OwnL,pureC]
theorem sPlaces_spec (d l : List DVal) (hl : l.length ≤ 1048576) (hd : d.length ≤ 1048576) : Ctr Tryz.prog 241 [.c (.sl (d.map DVal.c)),.c (.sl (l.map DVal.c))] (upR (places d l)):=by
 refine Ctr.mk Tryz.call241 Tryz.func241 rfl mixed Tryz.ntmps241 Tryz.results241 (by kernel_rfl) rfl fun hw=>?_
 simp only [go_sem]
 refine LoopH.mk [9] (A:=Nat × List Int) (fun x=>[(7,.c (.v (.int .i64 (x.1)))),(6,.c (.ref 0))]) (fun x=>[⟨3,1,x.2.map intC,true,true⟩]) (fun x=>x.1 ≤ l.length ∧ x.2.length = x.1 ∧ (places d (l.drop x.1)).map (fun y=>x.2 ++ y) = places d l) (fun x=>l.length - x.1) (0,[]) (Head.sel [(0,false)] ⟨rfl,rfl,rfl,trivial⟩ rfl) ⟨Nat.zero_le _,rfl,by simp⟩ ?_
 rintro ⟨i,out⟩ ⟨hi,hll,hp⟩
 dsimp only at hi hll hp
 simp only [go_sem]
 refine cndC.mk (fun h=>?_) (fun h=>?_)
 ·have hi' : i < l.length:=by simp at h; omega
  have hl2 : out.length + 1 ≤ 2147483648:=by omega
  rw [drop_cons hi',places_cons] at hp
  simp only [go_sem,map_at _ hi']
  refine CallK.mk _ (sInDict_spec d l[i] hd) fun _=>?_
  rcases h2 : placeOf l[i] d 0 with _ | p
  ·rw [h2] at hp
   simp only [Option.map_none] at hp
   have h3 : decide ((-1 : Int) < 0) = true:=by decide
   rw [← hp]
   simp only [go_sem,h2,Option.getD_none,h3,upR]
   try simp [nrE]
  ·rw [h2] at hp
   have h3 : decide (p < 0) = false:=by have:=placeOf_ge h2; simp; omega
   simp only [go_sem,h2,h3,hl2,wrap_i64 (n:=(i : Int) + 1) (by omega) (by omega)]
   exact ⟨(i + 1,out ++ [p]),Head.sel [(2,false)] ⟨rfl,rfl,by rw [← int_snoc]; exact pe_int _,trivial⟩ (by rw [int_snoc]; rfl),⟨hi',by simp; omega,by
    rw [← hp]
    cases places d (l.drop (i + 1)) <;> simp⟩,by simp only; omega⟩
 ·have hi' : i = l.length:=by simp at h; omega
  subst hi'
  rw [List.drop_length] at hp
  simp only [places,Option.map_some,List.append_nil] at hp
  rw [← hp]
  simp only [go_sem,upR]
  try simp [OwnL,pureC]
theorem picked_cons (d : List DVal) (i : Int) (l : List Int) : picked d (i :: l) = if 0 ≤ i then match d[i.toNat]?,picked d l with
   | some v,some r=>some (v :: r)
   | _,_=>none
  else none:=rfl
theorem picked_out {d : List DVal} {i : Int} (l : List Int) (h : ¬ (0 ≤ i ∧ i < d.length)) : picked d (i :: l) = none:=by
 rw [picked_cons]
 split
 ·have : d[i.toNat]? = none:=by rw [List.getElem?_eq_none_iff]; omega
  rw [this]
 ·rfl
theorem picked_in {d : List DVal} {i : Nat} (l : List Int) (h : i < d.length) : picked d ((i : Int) :: l) = (picked d l).map (fun r=>d[i] :: r):=by
 rw [picked_cons,if_pos (by omega),Int.toNat_natCast,List.getElem?_eq_getElem h]
 cases picked d l <;> rfl
theorem iPicked_spec (d : List DVal) (l : List Int) (hl : l.length ≤ 1048576) (hd : d.length ≤ 1048576) : Ctr Tryz.prog 223 [.c (.sl (d.map DVal.c)),.c (.sl (l.map intC))] (dvR (picked d l)):=by
 refine Ctr.mk Tryz.call223 Tryz.func223 rfl mixed Tryz.ntmps223 Tryz.results223 (by kernel_rfl) rfl fun hw=>?_
 simp only [go_sem]
 refine LoopH.mk [9] (A:=Nat × List DVal) (fun x=>[(12,.c (.v (.int .i64 (x.1)))),(6,.c (.ref 0))]) (fun x=>[⟨72,3,x.2.map DVal.c,true,true⟩]) (fun x=>x.1 ≤ l.length ∧ x.2.length = x.1 ∧ (picked d (l.drop x.1)).map (fun y=>x.2 ++ y) = picked d l) (fun x=>l.length - x.1) (0,[]) (Head.sel [(0,false)] ⟨rfl,rfl,rfl,trivial⟩ rfl) ⟨Nat.zero_le _,rfl,by simp⟩ ?_
 rintro ⟨i,out⟩ ⟨hi,hll,hp⟩
 dsimp only at hi hll hp
 simp only [go_sem]
 refine cndC.mk (fun h=>?_) (fun h=>?_)
 ·have hi' : i < l.length:=by simp at h; omega
  have hl2 : out.length + 1 ≤ 2147483648:=by omega
  rw [drop_cons hi'] at hp
  simp only [go_sem,map_at _ hi']
  rcases h2 : decide (l[i] < 0) with _ | _
  ·have h2' : 0 ≤ l[i]:=by simpa using h2
   rcases h3 : decide (l[i] ≥ (d.length : Int)) with _ | _
   ·have h3' : l[i] < d.length:=by simpa using h3
    obtain ⟨p,hpe⟩:=Int.eq_ofNat_of_zero_le h2'
    have hp' : p < d.length:=by omega
    rw [hpe,picked_in _ hp'] at hp
    rw [hpe] at h2 h3
    simp only [go_sem,hpe,h2,h3,hl2,map_at _ hp',wrap_i64 (n:=(i : Int) + 1) (by omega) (by omega)]
    exact ⟨(i + 1,out ++ [d[p]]),Head.sel [(2,false)] ⟨rfl,rfl,pe_snoc _ _,trivial⟩ (by rw [val_snoc]; rfl),⟨hi',by simp; omega,by
     rw [← hp,Option.map_map]; congr 1; funext y; simp⟩,by simp only; omega⟩
   ·rw [picked_out _ (by simp at h3; omega)] at hp
    rw [← hp]
    simp only [go_sem,h2,h3,Option.map_none,dvR]
  ·rw [picked_out _ (by simp at h2; omega)] at hp
   rw [← hp]
   simp only [go_sem,h2,Option.map_none,dvR]
 ·have hi' : i = l.length:=by simp at h; omega
  subst hi'
  rw [List.drop_length] at hp
  simp only [picked,Option.map_some,List.append_nil] at hp
  rw [← hp]
  simp only [go_sem,dvR]
  try simp [OwnL,pureC]
theorem sPicked_spec (d : List DVal) (l : List Int) (hl : l.length ≤ 1048576) (hd : d.length ≤ 1048576) : Ctr Tryz.prog 207 [.c (.sl (d.map DVal.c)),.c (.sl (l.map intC))] (dvR (picked d l)):=by
 refine Ctr.mk Tryz.call207 Tryz.func207 rfl mixed Tryz.ntmps207 Tryz.results207 (by kernel_rfl) rfl fun hw=>?_
 simp only [go_sem]
 refine LoopH.mk [8] (A:=Nat × List DVal) (fun x=>[(7,.c (.v (.int .i64 (x.1)))),(6,.c (.ref 0))]) (fun x=>[⟨72,3,x.2.map DVal.c,true,true⟩]) (fun x=>x.1 ≤ l.length ∧ x.2.length = x.1 ∧ (picked d (l.drop x.1)).map (fun y=>x.2 ++ y) = picked d l) (fun x=>l.length - x.1) (0,[]) (Head.sel [(0,false)] ⟨rfl,rfl,rfl,trivial⟩ rfl) ⟨Nat.zero_le _,rfl,by simp⟩ ?_
 rintro ⟨i,out⟩ ⟨hi,hll,hp⟩
 dsimp only at hi hll hp
 simp only [go_sem]
 refine cndC.mk (fun h=>?_) (fun h=>?_)
 ·have hi' : i < l.length:=by simp at h; omega
  have hl2 : out.length + 1 ≤ 2147483648:=by omega
  rw [drop_cons hi'] at hp
  simp only [go_sem,map_at _ hi',wrap_i64 (n:=(d.length : Int) - 1) (by omega) (by omega)]
  refine CallK.mk _ (l1In_spec _ _ _) fun _=>?_
  rcases h2 : inR l[i] 0 ((d.length : Int) - 1) with _ | _
  ·rw [picked_out _ (by simp [inR] at h2; omega)] at hp
   rw [← hp]
   simp only [go_sem,h2,Option.map_none,dvR]
   try simp [nrE]
  ·have h2' : 0 ≤ l[i] ∧ l[i] < d.length:=by simp [inR] at h2; omega
   obtain ⟨p,hpe⟩:=Int.eq_ofNat_of_zero_le h2'.1
   have hp' : p < d.length:=by omega
   rw [hpe,picked_in _ hp'] at hp
   rw [hpe] at h2
   simp only [go_sem,map_at _ hi',hpe,h2,hl2,map_at _ hp',wrap_i64 (n:=(i : Int) + 1) (by omega) (by omega)]
   exact ⟨(i + 1,out ++ [d[p]]),Head.sel [(2,false)] ⟨rfl,rfl,pe_snoc _ _,trivial⟩ (by rw [val_snoc]; rfl),⟨hi',by simp; omega,by
    rw [← hp,Option.map_map]; congr 1; funext y; simp⟩,by simp only; omega⟩
 ·have hi' : i = l.length:=by simp at h; omega
  subst hi'
  rw [List.drop_length] at hp
  simp only [picked,Option.map_some,List.append_nil] at hp
  rw [← hp]
  simp only [go_sem,dvR]
  try simp [OwnL,pureC]
end Go.Proofs.YthoeeoddgkjkkaaGreat
/- Walks: frames. -/
namespace Go.Proofs.YthoeeoddgkjkkaaGreat
set_option linter.unusedSimpArgs false
set_option linter.unusedVariables false
open Go.Vm
set_option maxHeartbeats 2000000
set_option maxRecDepth 10000
theorem baseOf_one {l : List DVal} (h : 0 < l.length) : baseOf (l.take 1) = l[0].n:=by
 cases l with
 | nil=>simp at h
 | cons v r=>rfl
theorem baseOf_snoc {l : List DVal} {i : Nat} (h0 : 0 < i) (h : i < l.length) : baseOf (l.take (i + 1)) = min (baseOf (l.take i)) l[i].n:=by
 cases l with
 | nil=>simp at h
 | cons v r =>
  obtain ⟨j,rfl⟩ : ∃ j,i = j + 1:=⟨i - 1,by omega⟩
  have hj : j < r.length:=by simpa using h
  simp only [List.take_succ_cons,List.getElem_cons_succ]
  show (r.take (j + 1)).foldl _ _ = min ((r.take j).foldl _ _) _
  rw [List.take_succ_eq_append_getElem hj,List.foldl_append]
  rfl
theorem baseOf_fold {l : List DVal} (h : 0 < l.length) : l.foldl (fun n x=>min n x.n) l[0].n = baseOf l:=by
 cases l with
 | nil=>simp at h
 | cons v r =>
  show r.foldl _ (min v.n v.n) = r.foldl _ v.n
  rw [show min v.n v.n = v.n by omega]
theorem baseOf_le : ∀ {l : List DVal} {v : DVal},v ∈ l → baseOf l ≤ v.n ∧ ∃ x ∈ l,baseOf l = x.n:=by
 have key : ∀ (r : List DVal) (n : Int),r.foldl (fun n x=>min n x.n) n ≤ n ∧ (∀ x ∈ r,r.foldl (fun n x=>min n x.n) n ≤ x.n) ∧ (r.foldl (fun n x=>min n x.n) n = n ∨ ∃ x ∈ r,r.foldl (fun n x=>min n x.n) n = x.n):=by
  intro r
  induction r with
  | nil=>intro n; simp
  | cons v r ih =>
   intro n
   obtain ⟨a1,a2,a3⟩:=ih (min n v.n)
   simp only [List.foldl_cons]
   refine ⟨by omega,fun x hx=>?_, ?_⟩
   ·rcases List.mem_cons.1 hx with rfl | hx
    ·omega
    ·exact a2 x hx
   ·rcases a3 with a3 | ⟨x,hx,a3⟩
    ·by_cases h : n ≤ v.n
     ·left; omega
     ·right; exact ⟨v,by simp,by omega⟩
    ·right; exact ⟨x,by simp [hx],a3⟩
 intro l v hv
 cases l with
 | nil=>cases hv
 | cons w r =>
  obtain ⟨a1,a2,a3⟩:=key r w.n
  have e : baseOf (w :: r) = r.foldl (fun n x=>min n x.n) w.n:=rfl
  rw [e]
  refine ⟨?_, ?_⟩
  ·rcases List.mem_cons.1 hv with rfl | hv
   ·exact a1
   ·exact a2 v hv
  ·rcases a3 with a3 | ⟨x,hx,a3⟩
   ·exact ⟨w,by simp,a3⟩
   ·exact ⟨x,by simp [hx],a3⟩
theorem valOk_n {v : DVal} (h : valOk v = true) (h1 : v.ty = 1) : -1000000000 ≤ v.n ∧ v.n ≤ 1000000000:=by
 simp only [valOk,if_pos h1,Bool.and_eq_true] at h
 simpa [isNumB,inR] using h.1
theorem off_bd {l : List DVal} (h : typeOf l = 1) {v : DVal} (hv : v ∈ l) : 0 ≤ v.n - baseOf l ∧ v.n - baseOf l ≤ 2000000000:=by
 obtain ⟨_,_,q3⟩:=typeOf_all (l:=l) (by omega)
 obtain ⟨a1,x,hx,a2⟩:=baseOf_le hv
 have b1:=valOk_n (q3 v hv).1 ((q3 v hv).2.trans h)
 have b2:=valOk_n (q3 x hx).1 ((q3 x hx).2.trans h)
 omega
theorem take_snoc' {α : Type} {l : List α} {i : Nat} (h : i < l.length) : l.take (i + 1) = l.take i ++ [l[i]]:=List.take_succ_eq_append_getElem h
theorem min_if (a b : Int) : min a b = if b < a then b else a:=by split <;> omega
theorem snoc_take {α β : Type} (f : α → β) {l : List α} {i : Nat} (h : i < l.length) : (l.take (i + 1)).map f = (l.take i).map f ++ [f l[i]]:=by
 rw [List.take_succ_eq_append_getElem h,List.map_append]; rfl
theorem sBase_spec (l : List DVal) (hl : l.length ≤ 1048576) : Ctr Tryz.prog 246 [.c (.sl (l.map DVal.c))] [.val (.c (.v (.int .i64 (baseOf l))))]:=by
 refine Ctr.mk Tryz.call246 Tryz.func246 rfl mixed Tryz.ntmps246 Tryz.results246 (by kernel_rfl) rfl fun hw=>?_
 simp only [go_sem]
 refine LoopU.mk 0 (A:=Nat) (fun x=>[(4,.c (.v (.int .i64 (x)))),(3,.c (.v (.int .i64 (baseOf (l.take x)))))]) (fun _=>[]) (fun x=>x ≤ l.length) (fun x=>l.length - x) 0 ⟨⟨rfl,rfl⟩,rfl,Nat.zero_le _⟩ ?_
 rintro i hi
 simp only [go_sem]
 refine cndC.mk (fun h=>?_) (fun h=>?_)
 ·have hi' : i < l.length:=by simp at h; omega
  rcases h2 : ((i : Int) == 0) with _ | _
  ·have h2' : 0 < i:=by simp at h2; omega
   rcases h3 : decide (l[i].n < baseOf (l.take i)) with _ | _
   ·have e : baseOf (l.take (i + 1)) = baseOf (l.take i):=by rw [baseOf_snoc h2' hi']; simp at h3; omega
    simp only [go_sem,map_at _ hi',h2,h3,wrap_i64 (n:=(i : Int) + 1) (by omega) (by omega)]
    exact ⟨i + 1,⟨rfl,rfl⟩,by rw [e]; rfl,hi',by omega⟩
   ·have e : baseOf (l.take (i + 1)) = l[i].n:=by rw [baseOf_snoc h2' hi']; simp at h3; omega
    simp only [go_sem,map_at _ hi',h2,h3,wrap_i64 (n:=(i : Int) + 1) (by omega) (by omega)]
    exact ⟨i + 1,⟨rfl,rfl⟩,by rw [e]; rfl,hi',by omega⟩
  ·have h2' : i = 0:=by simpa using h2
   subst h2'
   have e : baseOf (l.take (0 + 1)) = l[0].n:=baseOf_one hi'
   simp only [go_sem,map_at _ hi',h2,wrap_i64 (n:=((0 : Nat) : Int) + 1) (by omega) (by omega)]
   exact ⟨0 + 1,⟨rfl,rfl⟩,by rw [e]; rfl,hi',by omega⟩
 ·have hi' : i = l.length:=by simp at h; omega
  subst hi'
  simp only [go_sem,List.take_length]
theorem iBase_spec (l : List DVal) (hl : l.length ≤ 1048576) : Ctr Tryz.prog 258 [.c (.sl (l.map DVal.c))] [.val (.c (.v (.int .i64 (baseOf l))))]:=by
 refine Ctr.mk Tryz.call258 Tryz.func258 rfl mixed Tryz.ntmps258 Tryz.results258 (by kernel_rfl) rfl fun hw=>?_
 rcases h1 : ((l.length : Int) == 0) with _ | _
 rotate_left
 ·have : l = []:=by simpa using h1
  have e : baseOf l = 0:=by rw [this]; rfl
  rw [e]
  simp only [go_sem,h1]
 have h0 : 0 < l.length:=by
  rcases Nat.eq_zero_or_pos l.length with h | h
  ·rw [h] at h1; exact absurd h1 (by decide)
  ·exact h
 simp only [go_sem,h1,map_at _ h0]
 refine LoopU.mk 0 (A:=Nat) (fun x=>[(15,.c (.v (.int .i64 (x)))),(3,.c (.v (.int .i64 ((l.take x).foldl (fun n x=>min n x.n) l[0].n))))]) (fun _=>[]) (fun x=>x ≤ l.length) (fun x=>l.length - x) 0 ⟨⟨rfl,rfl⟩,rfl,Nat.zero_le _⟩ ?_
 rintro i hi
 simp only [go_sem]
 refine cndC.mk (fun h=>?_) (fun h=>?_)
 ·have hi' : i < l.length:=by simp at h; omega
  simp only [go_sem,map_at _ hi',wrap_i64 (n:=(i : Int) + 1) (by omega) (by omega)]
  exact ⟨i + 1,⟨rfl,rfl⟩,by rw [take_snoc' hi',List.foldl_append,List.foldl_cons,List.foldl_nil,min_if]; rfl,hi',by omega⟩
 ·have hi' : i = l.length:=by simp at h; omega
  subst hi'
  rw [← baseOf_fold h0]
  simp only [go_sem,List.take_length]
theorem iOffsets_spec (l : List DVal) (hl : l.length ≤ 1048576) : Ctr Tryz.prog 256 [.c (.sl (l.map DVal.c))] [.own 3 1 ((offsets l).map intC) true]:=by
 refine Ctr.mk Tryz.call256 Tryz.func256 rfl mixed Tryz.ntmps256 Tryz.results256 (by kernel_rfl) rfl fun hw=>?_
 simp only [go_sem]
 refine CallK.mk _ (iTypeOf_spec l hl) fun _=>?_
 rcases h1 : typeOf l != 1 with _ | _
 ·have h1' : typeOf l = 1:=by simpa using h1
  obtain ⟨q1,q2,q3⟩:=typeOf_all (l:=l) (by omega)
  have e : offsets l = l.map fun v=>v.n - baseOf l:=if_neg (by omega)
  rw [e]
  simp only [go_sem,h1]
  refine LoopH.mk [6] (A:=Nat) (fun x=>[(13,.c (.v (.int .i64 (x)))),(3,.c (.ref 0))]) (fun x=>[⟨3,1,((l.take x).map fun v=>v.n - baseOf l).map intC,true,true⟩]) (fun x=>x ≤ l.length) (fun x=>l.length - x) 0 (Head.sel [(0,false)] ⟨rfl,rfl,rfl,trivial⟩ rfl) (Nat.zero_le _) ?_
  rintro i hi
  simp only [go_sem]
  refine cndC.mk (fun h=>?_) (fun h=>?_)
  ·have hi' : i < l.length:=by simp at h; omega
   have ho:=off_bd h1' (List.getElem_mem hi')
   have hl2 : i + 1 ≤ 2147483648:=by omega
   simp only [go_sem,map_at _ hi']
   refine DrawK.edge 4 6 [0,1,2,3,4,5,6,7,8] [5,6] rfl (by kernel_rfl) rfl (by kernel_rfl) ?_
   simp only [go_sem]
   refine DrawK.mkE ?_
   simp only [go_sem]
   refine CallE.mk _ (iBase_spec l hl) ?_
   simp only [go_sem,hl2,List.length_take,Nat.min_eq_left hi,wrap_i64 (n:=l[i].n - baseOf l) (by omega) (by omega),wrap_i64 (n:=(i : Int) + 1) (by omega) (by omega)]
   exact ⟨i + 1,Head.sel [(3,false)] ⟨rfl,rfl,by rw [← int_snoc]; exact pe_int _,trivial⟩ (by rw [snoc_take _ hi',int_snoc]; rfl),hi',by omega⟩
  ·have hi' : i = l.length:=by simp at h; omega
   subst hi'
   simp only [go_sem,List.take_length]
   try simp [OwnL,pureC]
 ·have h1' : typeOf l ≠ 1:=by simpa using h1
  have e : offsets l = []:=if_pos h1'
  rw [e]
  simp only [go_sem,h1]
  try simp [OwnL,pureC,nrE]
theorem sOffsets_spec (l : List DVal) (hl : l.length ≤ 1048576) : Ctr Tryz.prog 244 [.c (.sl (l.map DVal.c))] [.own 3 1 ((offsets l).map intC) true]:=by
 refine Ctr.mk Tryz.call244 Tryz.func244 rfl mixed Tryz.ntmps244 Tryz.results244 (by kernel_rfl) rfl fun hw=>?_
 simp only [go_sem]
 refine CallK.mk _ (sTypeOf_spec l hl) fun _=>?_
 rcases h1 : typeOf l != 1 with _ | _
 ·have h1' : typeOf l = 1:=by simpa using h1
  obtain ⟨q1,q2,q3⟩:=typeOf_all (l:=l) (by omega)
  have e : offsets l = l.map fun v=>v.n - baseOf l:=if_neg (by omega)
  rw [e]
  simp only [go_sem,h1]
  refine CallK.mk _ (sBase_spec l hl) fun _=>?_
  simp only [go_sem]
  refine LoopH.mk [6] (A:=Nat) (fun x=>[(5,.c (.v (.int .i64 (x)))),(3,.c (.ref 0))]) (fun x=>[⟨3,1,((l.take x).map fun v=>v.n - baseOf l).map intC,true,true⟩]) (fun x=>x ≤ l.length) (fun x=>l.length - x) 0 (Head.sel [(0,false)] ⟨rfl,rfl,rfl,trivial⟩ rfl) (Nat.zero_le _) ?_
  rintro i hi
  simp only [go_sem]
  refine cndC.mk (fun h=>?_) (fun h=>?_)
  ·have hi' : i < l.length:=by simp at h; omega
   have ho:=off_bd h1' (List.getElem_mem hi')
   have hl2 : i + 1 ≤ 2147483648:=by omega
   simp only [go_sem,map_at _ hi',hl2,List.length_take,Nat.min_eq_left hi,wrap_i64 (n:=l[i].n - baseOf l) (by omega) (by omega),wrap_i64 (n:=(i : Int) + 1) (by omega) (by omega)]
   exact ⟨i + 1,Head.sel [(2,false)] ⟨rfl,rfl,by rw [← int_snoc]; exact pe_int _,trivial⟩ (by rw [snoc_take _ hi',int_snoc]; rfl),hi',by omega⟩
  ·have hi' : i = l.length:=by simp at h; omega
   subst hi'
   simp only [go_sem,List.take_length]
   try simp [OwnL,pureC]
 ·have h1' : typeOf l ≠ 1:=by simpa using h1
  have e : offsets l = []:=if_pos h1'
  rw [e]
  simp only [go_sem,h1]
  try simp [OwnL,pureC,nrE]
def rOk (base x : Int) : Prop:=(0 ≤ x ∧ x ≤ 2000000000) ∧ base + x ≤ 1000000000
theorem raised_no {base : Int} {l : List Int} (h : ¬ (-1000000000 ≤ base ∧ base ≤ 1000000000)) : raised base l = none:=if_neg fun q=>h q.1
theorem raised_not {base : Int} {l : List Int} {i : Nat} (hi : i < l.length) (h : ¬ rOk base l[i]) : raised base l = none:=if_neg fun q=>h (q.2 _ (List.getElem_mem hi))
theorem raised_yes {base : Int} {l : List Int} (h : -1000000000 ≤ base ∧ base ≤ 1000000000) (h2 : ∀ i (hi : i < l.length),rOk base l[i]) : raised base l = some (l.map fun x=>⟨1,base + x,ByteArray.empty⟩):=if_pos ⟨h,fun x hx=>by
 obtain ⟨i,hi,rfl⟩:=List.getElem_of_mem hx
 exact h2 i hi⟩
theorem isNumB_iff (x : Int) : isNumB x = true ↔ -1000000000 ≤ x ∧ x ≤ 1000000000:=by simp [isNumB,inR]
theorem iRaised_spec (base : Int) (l : List Int) (hl : l.length ≤ 1048576) : Ctr Tryz.prog 225 [.c (.v (.int .i64 (base))),.c (.sl (l.map intC))] (dvR (raised base l)):=by
 refine Ctr.mk Tryz.call225 Tryz.func225 rfl mixed Tryz.ntmps225 Tryz.results225 (by kernel_rfl) rfl fun hw=>?_
 simp only [go_sem]
 refine CallK.mk _ (isNum_spec _) fun _=>?_
 rcases h1 : isNumB base with _ | _
 ·rw [raised_no (by rw [← isNumB_iff,h1]; simp)]
  simp only [go_sem,h1,dvR]
  try simp [nrE]
 have hb:=(isNumB_iff base).1 h1
 simp only [go_sem,h1]
 refine LoopH.mk [12] (A:=Nat) (fun x=>[(15,.c (.v (.int .i64 (x)))),(6,.c (.ref 0))]) (fun x=>[⟨72,3,((l.take x).map fun (x : Int)=>(⟨1,base + x,ByteArray.empty⟩ : DVal)).map DVal.c,true,true⟩]) (fun x=>x ≤ l.length ∧ ∀ m (h : m < l.length),m < x → rOk base l[m]) (fun x=>l.length - x) 0 (Head.sel [(0,false)] ⟨rfl,rfl,rfl,trivial⟩ rfl) ⟨Nat.zero_le _,fun m h h2=>by omega⟩ ?_
 rintro i ⟨hi,hok⟩
 simp only [go_sem]
 refine cndC.mk (fun h=>?_) (fun h=>?_)
 ·have hi' : i < l.length:=by simp at h; omega
  simp only [go_sem,map_at _ hi']
  refine CallK.mk _ (within_spec _ _ _) fun _=>?_
  rcases h2 : inR l[i] 0 2000000000 with _ | _
  ·rw [raised_not hi' (fun q=>by have:=q.1; simp [inR] at h2; omega)]
   simp only [go_sem,h2,dvR]
  have h2' : 0 ≤ l[i] ∧ l[i] ≤ 2000000000:=by simp [inR] at h2; omega
  rcases h3 : decide (base + l[i] > 1000000000) with _ | _
  ·have hl2 : i + 1 ≤ 2147483648:=by omega
   simp only [go_sem,map_at _ hi',h2,h3,hl2,wrap_i64 (n:=base + l[i]) (by omega) (by omega),wrap_i64 (n:=(i : Int) + 1) (by omega) (by omega),List.length_take,Nat.min_eq_left hi]
   exact ⟨i + 1,Head.sel [(2,false)] ⟨rfl,rfl,pe_snoc _ ⟨1,base + l[i],ByteArray.empty⟩,trivial⟩ (by rw [snoc_take _ hi',val_snoc]; rfl),⟨hi',fun m h4 h5=>by
    by_cases e : m = i
    ·subst e; exact ⟨h2',by simp at h3; omega⟩
    ·exact hok m h4 (by omega)⟩,by omega⟩
  ·rw [raised_not hi' (fun q=>by have:=q.2; simp at h3; omega)]
   simp only [go_sem,map_at _ hi',h2,h3,wrap_i64 (n:=base + l[i]) (by omega) (by omega),dvR]
 ·have hi' : i = l.length:=by simp at h; omega
  subst hi'
  rw [raised_yes hb fun m hm=>hok m hm hm]
  simp only [go_sem,dvR,List.take_length]
  try simp [OwnL,pureC]
theorem sRaised_spec (base : Int) (l : List Int) (hl : l.length ≤ 1048576) : Ctr Tryz.prog 209 [.c (.v (.int .i64 (base))),.c (.sl (l.map intC))] (dvR (raised base l)):=by
 refine Ctr.mk Tryz.call209 Tryz.func209 rfl mixed Tryz.ntmps209 Tryz.results209 (by kernel_rfl) rfl fun hw=>?_
 simp only [go_sem]
 refine LoopH.mk [8] (A:=Nat) (fun x=>[(7,.c (.v (.int .i64 (x)))),(6,.c (.ref 0))]) (fun x=>[⟨72,3,((l.take x).map fun (x : Int)=>(⟨1,base + x,ByteArray.empty⟩ : DVal)).map DVal.c,true,true⟩]) (fun x=>x ≤ l.length ∧ (0 < x → -1000000000 ≤ base ∧ base ≤ 1000000000) ∧ ∀ m (h : m < l.length),m < x → rOk base l[m]) (fun x=>l.length - x) 0 (Head.sel [(0,false)] ⟨rfl,rfl,rfl,trivial⟩ rfl) ⟨Nat.zero_le _,fun h=>by omega,fun m h h2=>by omega⟩ ?_
 rintro i ⟨hi,hbs,hok⟩
 simp only [go_sem]
 refine cndC.mk (fun h=>?_) (fun h=>?_)
 ·have hi' : i < l.length:=by simp at h; omega
  simp only [go_sem]
  refine CallK.mk _ (l1Right_spec _) fun _=>?_
  rcases h1 : isNumB base with _ | _
  ·rw [raised_no (by rw [← isNumB_iff,h1]; simp)]
   simp only [go_sem,h1,dvR]
   try simp [nrE]
  have hb:=(isNumB_iff base).1 h1
  simp only [go_sem,h1,map_at _ hi']
  refine CallK.mk _ (l1In_spec _ _ _) fun _=>?_
  rcases h2 : inR l[i] 0 2000000000 with _ | _
  ·rw [raised_not hi' (fun q=>by have:=q.1; simp [inR] at h2; omega)]
   simp only [go_sem,h2,dvR]
  have h2' : 0 ≤ l[i] ∧ l[i] ≤ 2000000000:=by simp [inR] at h2; omega
  rcases h3 : decide (base + l[i] > 1000000000) with _ | _
  ·have hl2 : i + 1 ≤ 2147483648:=by omega
   simp only [go_sem,map_at _ hi',h2,h3,hl2,wrap_i64 (n:=base + l[i]) (by omega) (by omega),wrap_i64 (n:=(i : Int) + 1) (by omega) (by omega),List.length_take,Nat.min_eq_left hi]
   exact ⟨i + 1,Head.sel [(2,false)] ⟨rfl,rfl,pe_snoc _ ⟨1,base + l[i],ByteArray.empty⟩,trivial⟩ (by rw [snoc_take _ hi',val_snoc]; rfl),⟨hi',fun _=>hb,fun m h4 h5=>by
    by_cases e : m = i
    ·subst e; exact ⟨h2',by simp at h3; omega⟩
    ·exact hok m h4 (by omega)⟩,by omega⟩
  ·rw [raised_not hi' (fun q=>by have:=q.2; simp at h3; omega)]
   simp only [go_sem,map_at _ hi',h2,h3,wrap_i64 (n:=base + l[i]) (by omega) (by omega),dvR]
 ·have hi' : i = l.length:=by simp at h; omega
  subst hi'
  simp only [go_sem,List.take_length]
  refine CallK.mk _ (l1Right_spec _) fun _=>?_
  rcases h1 : isNumB base with _ | _
  ·rw [raised_no (by rw [← isNumB_iff,h1]; simp)]
   have : l = []:=by
    by_cases h0 : 0 < l.length
    ·have:=(isNumB_iff base).2 (hbs h0); rw [h1] at this; cases this
    ·cases l <;> simp_all
   subst this
   simp only [go_sem,h1,dvR]
   try simp [nrE]
  have hb:=(isNumB_iff base).1 h1
  rw [raised_yes hb fun m hm=>hok m hm hm]
  simp only [go_sem,h1,dvR]
  try simp [OwnL,pureC]
end Go.Proofs.YthoeeoddgkjkkaaGreat
