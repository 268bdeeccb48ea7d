/- Walks: comparing rows and results, zones, columns, finding rows. -/
import Derived.Test.YthoeeoddgkjkkaaGreatAa
import Derived.Test.YthoeeoddgkjkkaaGreatOa
namespace Go.Proofs.YthoeeoddgkjkkaaGreat
set_option linter.unusedSimpArgs false
set_option linter.unusedVariables false
open Go.Vm
set_option maxHeartbeats 2000000
set_option maxRecDepth 10000
def fitB {α : Type} (f : α → Prop) (l : List α) : Prop:=l.length ≤ 1099511627776 ∧ ∀ x ∈ l,f x
theorem fitS.big {α : Type} {f : α → Prop} {l : List α} (h : fitS f l) : fitB f l:=⟨Nat.le_trans h.1 (by decide),h.2⟩
theorem sSameRows_spec (a b : List DRow) (ha : fitB fitRow a) (hb : fitB fitRow b) : Ctr Tryz.prog 69 [.c (.sl (a.map DRow.c)),.c (.sl (b.map DRow.c))] [.val (.c (.v (.bool (sameRows a b))))]:=by
 refine Ctr.mk Tryz.call69 Tryz.func69 rfl mixed Tryz.ntmps69 Tryz.results69 (by kernel_rfl) rfl fun hw=>?_
 have ha1:=ha.1
 have hb1:=hb.1
 simp only [go_sem,List.length_map]
 refine cndC.mk (fun h=>?_) (fun h=>?_)
 ·simp only [go_sem]
  rw [sameRows_len a b (by simp at h; omega)]
 ·have he : a.length = b.length:=by simp at h; omega
  simp only [go_sem,List.length_map]
  refine LoopU.mk 0 (A:=Nat) (fun k=>[(5,.c (.v (.int .i64 (k))))]) (fun _=>[]) (fun k=>k ≤ a.length ∧ sameRows (a.drop k) (b.drop k) = sameRows a b) (fun k=>a.length - k) 0 ⟨⟨rfl,rfl⟩,rfl,Nat.zero_le _,rfl⟩ ?_
  rintro k ⟨hk,hf⟩
  simp only [go_sem,List.length_map]
  refine cndC.mk (fun h=>?_) (fun h=>?_)
  ·have hk' : k < a.length:=by simpa using h
   have hk2 : k < b.length:=by omega
   rw [sameRows_drop a b hk' hk2] at hf
   have hra:=ha.2 _ (List.getElem_mem hk')
   have hrb:=hb.2 _ (List.getElem_mem hk2)
   rw [fitRow_eq] at hra hrb
   simp only [go_sem,List.length_map,map_at _ hk',map_at _ hk2,hk',hk2]
   try refine DrawK.mk ?_
   try simp only [go_sem,List.length_map,map_at _ hk',map_at _ hk2,hk',hk2]
   first | refine CallF.mk _ (by simpa only [go_sem] using sSameRow_spec a[k] b[k] hra.1 hrb.1) ?_ | refine CallK.mk _ (by simpa only [go_sem] using sSameRow_spec a[k] b[k] hra.1 hrb.1) fun _=>?_
   rcases hv : sameRow a[k] b[k] with _ | _
   ·simp only [go_sem,hv,Bool.not_false,Bool.and_true]
    rw [hv,Bool.false_and] at hf
    rw [hf]
   ·simp only [go_sem,hv,Bool.not_true,wrap_i64 (n:=(k : Int) + 1) (by omega) (by omega)]
    rw [hv,Bool.true_and] at hf
    exact ⟨k + 1,⟨rfl,rfl⟩,rfl,⟨by omega,hf⟩,by omega⟩
  ·have hk' : k = a.length:=by simp at h; omega
   subst hk'
   simp only [go_sem]
   rw [← hf,List.drop_length,he,List.drop_length]; rfl
theorem iSameRows_spec (a b : List DRow) (ha : fitB fitRow a) (hb : fitB fitRow b) : Ctr Tryz.prog 71 [.c (.sl (a.map DRow.c)),.c (.sl (b.map DRow.c))] [.val (.c (.v (.bool (sameRows a b))))]:=by
 refine Ctr.mk Tryz.call71 Tryz.func71 rfl mixed Tryz.ntmps71 Tryz.results71 (by kernel_rfl) rfl fun hw=>?_
 have ha1:=ha.1
 have hb1:=hb.1
 simp only [go_sem,List.length_map]
 refine cndC.mk (fun h=>?_) (fun h=>?_)
 ·simp only [go_sem]
  rw [sameRows_len a b (by simp at h; omega)]
 ·have he : a.length = b.length:=by simp at h; omega
  simp only [go_sem,List.length_map]
  refine LoopU.mk 0 (A:=Nat) (fun k=>[(13,.c (.v (.int .i64 (k))))]) (fun _=>[]) (fun k=>k ≤ a.length ∧ sameRows (a.drop k) (b.drop k) = sameRows a b) (fun k=>a.length - k) 0 ⟨⟨rfl,rfl⟩,rfl,Nat.zero_le _,rfl⟩ ?_
  rintro k ⟨hk,hf⟩
  simp only [go_sem,List.length_map]
  refine cndC.mk (fun h=>?_) (fun h=>?_)
  ·have hk' : k < a.length:=by simpa using h
   have hk2 : k < b.length:=by omega
   rw [sameRows_drop a b hk' hk2] at hf
   have hra:=ha.2 _ (List.getElem_mem hk')
   have hrb:=hb.2 _ (List.getElem_mem hk2)
   rw [fitRow_eq] at hra hrb
   simp only [go_sem,List.length_map,map_at _ hk',map_at _ hk2,hk',hk2]
   try refine DrawK.mk ?_
   try simp only [go_sem,List.length_map,map_at _ hk',map_at _ hk2,hk',hk2]
   first | refine CallF.mk _ (by simpa only [go_sem] using iSameRow_spec a[k] b[k] hra.1 hrb.1) ?_ | refine CallK.mk _ (by simpa only [go_sem] using iSameRow_spec a[k] b[k] hra.1 hrb.1) fun _=>?_
   rcases hv : sameRow a[k] b[k] with _ | _
   ·simp only [go_sem,hv,Bool.not_false,Bool.and_true]
    rw [hv,Bool.false_and] at hf
    rw [hf]
   ·simp only [go_sem,hv,Bool.not_true,wrap_i64 (n:=(k : Int) + 1) (by omega) (by omega)]
    rw [hv,Bool.true_and] at hf
    exact ⟨k + 1,⟨rfl,rfl⟩,rfl,⟨by omega,hf⟩,by omega⟩
  ·have hk' : k = a.length:=by simp at h; omega
   subst hk'
   simp only [go_sem]
   rw [← hf,List.drop_length,he,List.drop_length]; rfl
theorem appRows_map {α : Type} {f : α → List Cl} {n : Nat} (h : ∀ x,Go.Vm.rowOk n (f x) = true) (l : List α) : appRows n (l.map f) = true:=List.all_eq_true.2 fun r hr=>by
 obtain ⟨x,_,rfl⟩:=List.mem_map.1 hr
 exact h x
theorem val_rows (l : List DVal) : appRows 3 (l.map DVal.c) = true:=appRows_map (fun _=>rfl) l
theorem cloneVals_spec (l : List DVal) (h : l.length ≤ 1048576) : Ctr Tryz.prog 120 [.c (.sl (l.map DVal.c))] [.own 72 3 (l.map DVal.c) true]:=by
 refine Ctr.mk Tryz.call120 Tryz.func120 rfl mixed Tryz.ntmps120 Tryz.results120 (by kernel_rfl) rfl fun hw=>?_
 have hl : l.length ≤ 2147483648:=by omega
 simp only [go_sem,val_rows,List.length_map,hl,Option.getD_some,nr_Val]
 try simp
theorem cloneRow_spec (r : DRow) (h : r.l.length ≤ 1048576) : Ctr Tryz.prog 116 [.agg r.c] [.agg r.o]:=by
 refine Ctr.mk Tryz.call116 Tryz.func116 rfl mixed Tryz.ntmps116 Tryz.results116 (by kernel_rfl) rfl fun hw=>?_
 simp only [go_sem]
 refine DrawK.mkE ?_
 simp only [go_sem]
 refine CallE.mk _ (cloneVals_spec r.l h) ?_
 simp only [go_sem,nr_Val]
 try simp [OwnL,pureC]
theorem l4Copy_spec (r : DRow) (h : r.l.length ≤ 1048576) : Ctr Tryz.prog 114 [.agg r.c] [.agg r.o]:=by
 refine Ctr.mk Tryz.call114 Tryz.func114 rfl mixed Tryz.ntmps114 Tryz.results114 (by kernel_rfl) rfl fun hw=>?_
 have hl : r.l.length ≤ 2147483648:=by omega
 simp only [go_sem]
 refine DrawK.mkE ?_
 simp only [go_sem,val_rows,List.length_map,hl,Option.getD_some,nr_Val]
 try simp [OwnL,pureC]
def foundN : List Cl:=[.v (.int .i64 0),.v (.slice none 0 0)]
def foundQ : Option DRow → Res
 | none=>.val (.agg [.v (.int .i64 0),.sl []])
 | some r=>.agg r.o
def findR (l : List DRow) (n : Int) : Option DRow:=l.find? fun r=>r.id == n
theorem iFind_spec (l : List DRow) (n : Int) (ha : fitB fitRow l) : Ctr Tryz.prog 67 [.c (.sl (l.map DRow.c)),.c (.v (.int .i64 (n)))] [foundQ (findR l n),.val (.c (.v (.bool ((findR l n).isSome))))]:=by
 refine Ctr.mk Tryz.call67 Tryz.func67 rfl mixed Tryz.ntmps67 Tryz.results67 (by kernel_rfl) rfl fun hw=>?_
 have hlen:=ha.1
 simp only [go_sem,List.length_map]
 refine LoopU.mk 1 (A:=Nat) (fun k=>[(10,.c (.v (.int .i64 (k))))]) (fun _=>[⟨121,2,[foundN],true,true⟩]) (fun k=>k ≤ l.length ∧ findR (l.drop k) n = findR l n) (fun k=>l.length - k) 0 ⟨⟨rfl,rfl⟩,rfl,Nat.zero_le _,rfl⟩ ?_
 rintro k ⟨hk,hf⟩
 simp only [go_sem,List.length_map,foundN]
 refine cndC.mk (fun h=>?_) (fun h=>?_)
 ·have hk' : k < l.length:=by simpa using h
  have hr:=ha.2 _ (List.getElem_mem hk')
  rw [fitRow_eq] at hr
  rw [List.drop_eq_getElem_cons hk',findR,List.find?_cons] at hf
  simp only [go_sem,List.length_map,map_at _ hk',hk',Option.getD_some]
  try refine DrawK.mk ?_
  try simp only [go_sem,List.length_map,map_at _ hk',hk',Option.getD_some]
  rcases hv : l[k].id == n with _ | _
  ·simp only [go_sem,hv,wrap_i64 (n:=(k : Int) + 1) (by omega) (by omega)]
   rw [hv] at hf
   exact ⟨k + 1,⟨rfl,rfl⟩,rfl,⟨by omega,hf⟩,by omega⟩
  ·simp only [go_sem,hv,map_at _ hk',hk',Option.getD_some]
   rw [hv] at hf
   rw [← hf]
   first | refine CallK.mk _ (by simpa only [go_sem] using cloneRow_spec l[k] hr.1) fun _=>?_ | (refine DrawK.mkE ?_; simp only [go_sem,List.length_map,map_at _ hk',hk',Option.getD_some]; refine CallE.mk _ (by simpa only [go_sem] using cloneRow_spec l[k] hr.1) ?_)
   simp only [go_sem,foundQ,nr_Val]
   try simp [OwnL,pureC]
 ·have hk' : k = l.length:=by simp at h; omega
  subst hk'
  rw [List.drop_length] at hf
  have hn : findR l n = none:=by rw [← hf]; rfl
  simp only [go_sem,hn,foundQ,foundN,Option.isSome_none]
  trace_state
theorem sFind_spec (l : List DRow) (n : Int) (ha : fitB fitRow l) : Ctr Tryz.prog 65 [.c (.sl (l.map DRow.c)),.c (.v (.int .i64 (n)))] [foundQ (findR l n),.val (.c (.v (.bool ((findR l n).isSome))))]:=by
 refine Ctr.mk Tryz.call65 Tryz.func65 rfl mixed Tryz.ntmps65 Tryz.results65 (by kernel_rfl) rfl fun hw=>?_
 have hlen:=ha.1
 simp only [go_sem,List.length_map]
 refine LoopU.mk 1 (A:=Nat) (fun k=>[(6,.c (.v (.int .i64 (k))))]) (fun _=>[⟨121,2,[foundN],true,true⟩]) (fun k=>k ≤ l.length ∧ findR (l.drop k) n = findR l n) (fun k=>l.length - k) 0 ⟨⟨rfl,rfl⟩,rfl,Nat.zero_le _,rfl⟩ ?_
 rintro k ⟨hk,hf⟩
 simp only [go_sem,List.length_map,foundN]
 refine cndC.mk (fun h=>?_) (fun h=>?_)
 ·have hk' : k < l.length:=by simpa using h
  have hr:=ha.2 _ (List.getElem_mem hk')
  rw [fitRow_eq] at hr
  rw [List.drop_eq_getElem_cons hk',findR,List.find?_cons] at hf
  simp only [go_sem,List.length_map,map_at _ hk',hk',Option.getD_some]
  try refine DrawK.mk ?_
  try simp only [go_sem,List.length_map,map_at _ hk',hk',Option.getD_some]
  rcases hv : l[k].id == n with _ | _
  ·simp only [go_sem,hv,wrap_i64 (n:=(k : Int) + 1) (by omega) (by omega)]
   rw [hv] at hf
   exact ⟨k + 1,⟨rfl,rfl⟩,rfl,⟨by omega,hf⟩,by omega⟩
  ·simp only [go_sem,hv,map_at _ hk',hk',Option.getD_some]
   rw [hv] at hf
   rw [← hf]
   first | refine CallK.mk _ (by simpa only [go_sem] using l4Copy_spec l[k] hr.1) fun _=>?_ | (refine DrawK.mkE ?_; simp only [go_sem,List.length_map,map_at _ hk',hk',Option.getD_some]; refine CallE.mk _ (by simpa only [go_sem] using l4Copy_spec l[k] hr.1) ?_)
   simp only [go_sem,foundQ,nr_Val]
   try simp [OwnL,pureC]
 ·have hk' : k = l.length:=by simp at h; omega
  subst hk'
  rw [List.drop_length] at hf
  have hn : findR l n = none:=by rw [← hf]; rfl
  simp only [go_sem,hn,foundQ,foundN,Option.isSome_none]
  trace_state
theorem map_snoc (out : List DVal) (v : DVal) : (out ++ [v]).map DVal.c = out.map DVal.c ++ [[.v (.int .i64 v.ty),.v (.int .i64 v.n),.v (.string v.s)]]:=by simp [DVal.c_eq]
def colm (l : List DRow) (k : Int) : List DVal:=l.filterMap fun r=>if 0 ≤ k then r.l[k.toNat]? else none
theorem colm_step {l : List DRow} {n : Int} {k : Nat} (h : k < l.length) : colm (l.drop k) n = (if h2 : 0 ≤ n ∧ n.toNat < l[k].l.length then [l[k].l[n.toNat]'h2.2] else []) ++ colm (l.drop (k + 1)) n:=by
 unfold colm
 rw [List.drop_eq_getElem_cons h,List.filterMap_cons]
 by_cases h1 : 0 ≤ n
 ·by_cases h2 : n.toNat < l[k].l.length
  ·simp [h1,h2]
  ·simp [h1,h2]
 ·simp [h1]
theorem iColumn_spec (l : List DRow) (n : Int) (ha : fitB fitRow l) : Ctr Tryz.prog 138 [.c (.sl (l.map DRow.c)),.c (.v (.int .i64 (n)))] [.own 72 3 ((colm l n).map DVal.c) true]:=by
 refine Ctr.mk Tryz.call138 Tryz.func138 rfl mixed Tryz.ntmps138 Tryz.results138 (by kernel_rfl) rfl fun hw=>?_
 have hlen:=ha.1
 simp only [go_sem,List.length_map]
 refine LoopH.mk [8] (A:=Nat × List DVal) (fun x=>[(11,.c (.v (.int .i64 (x.1)))),(5,.c (.ref 0))]) (fun x=>[⟨72,3,x.2.map DVal.c,true,true⟩]) (fun x=>x.1 ≤ l.length ∧ x.2 ++ colm (l.drop x.1) n = colm l n) (fun x=>l.length - x.1) (0,[]) (Head.sel [(0,false)] ⟨rfl,rfl,rfl,trivial⟩ rfl) ⟨Nat.zero_le _,rfl⟩ ?_
 rintro ⟨k,out⟩ ⟨hk,hb⟩
 dsimp only at hk hb
 have hol : out.length ≤ l.length:=by
  have h1 : (colm l n).length ≤ l.length:=List.length_filterMap_le _ _
  rw [← hb] at h1
  simp at h1; omega
 simp only [go_sem,List.length_map]
 refine cndC.mk (fun h=>?_) (fun h=>?_)
 ·have hk' : k < l.length:=by simpa using h
  have hr:=ha.2 _ (List.getElem_mem hk')
  rw [fitRow_eq] at hr
  have hrl:=hr.1
  rw [colm_step hk'] at hb
  simp only [go_sem,List.length_map,map_at _ hk',hk',Option.getD_some]
  try refine DrawK.mk ?_
  try simp only [go_sem,List.length_map,map_at _ hk',hk',Option.getD_some]
  by_cases hn : 0 ≤ n ∧ n.toNat < l[k].l.length
  ·rw [dif_pos hn] at hb
   obtain ⟨m,rfl⟩:=Int.eq_ofNat_of_zero_le hn.1
   have hm : m < l[k].l.length:=by have:=hn.2; simpa using this
   have e1 : decide ((m : Int) ≥ 0) = true:=by simp
   have e2 : decide ((m : Int) < (l[k].l.length : Int)) = true:=by simp; omega
   have hol2 : out.length + 1 ≤ 1099511627776:=by
    have h1 : (colm l (m : Int)).length ≤ l.length:=List.length_filterMap_le _ _
    have h2:=congrArg List.length hb
    simp at h2; omega
   simp only [go_sem,List.length_map,map_at _ hk',map_at _ hm,hk',hm,e1,e2,hol2,Option.getD_some]
   try refine DrawK.mkE ?_
   simp only [go_sem,List.all_cons,List.all_nil,List.length_map,map_at _ hk',map_at _ hm,hk',hm,e1,e2,hol2,Option.getD_some,wrap_i64 (n:=(k : Int) + 1) (by omega) (by omega)]
   exact ⟨(k + 1,out ++ [l[k].l[m]]),Head.sel [(3,false)] ⟨rfl,rfl,by rw [← map_snoc]; exact pureE_map DVal.pure,trivial⟩ (by rw [← map_snoc]; rfl),⟨hk',by rw [← hb,List.append_assoc]; rfl⟩,by simp only; omega⟩
  ·rw [dif_neg hn,List.nil_append] at hb
   have hfin : ∀ P : Prop,P → P:=fun _ h=>h
   rcases h1 : decide (n ≥ 0) with _ | _
   ·simp only [go_sem,List.length_map,map_at _ hk',hk',h1,wrap_i64 (n:=(k : Int) + 1) (by omega) (by omega)]
    exact ⟨(k + 1,out),Head.sel [(0,false)] ⟨rfl,rfl,pureE_map DVal.pure,trivial⟩ rfl,⟨hk',hb⟩,by simp only; omega⟩
   ·have h2 : decide (n < (l[k].l.length : Int)) = false:=by simp at h1 ⊢; have : ¬ n.toNat < l[k].l.length:=fun hh=>hn ⟨h1,hh⟩; omega
    simp only [go_sem,List.length_map,map_at _ hk',hk',h1,h2,wrap_i64 (n:=(k : Int) + 1) (by omega) (by omega)]
    exact ⟨(k + 1,out),Head.sel [(0,false)] ⟨rfl,rfl,pureE_map DVal.pure,trivial⟩ rfl,⟨hk',hb⟩,by simp only; omega⟩
 ·have hk' : k = l.length:=by simp at h; omega
  subst hk'
  rw [List.drop_length] at hb
  have : out = colm l n:=by simpa [colm] using hb
  subst this
  simp only [go_sem,nr_Val]
  try simp
end Go.Proofs.YthoeeoddgkjkkaaGreat
/- Walks: rows cloned. -/
namespace Go.Proofs.YthoeeoddgkjkkaaGreat
set_option linter.unusedSimpArgs false
set_option linter.unusedVariables false
open Go.Vm
set_option maxHeartbeats 2000000
set_option maxRecDepth 10000
theorem allA {N : Nat} {a : Ob} (ha : noRefOb N a = true) : [a].all (noRefOb N) = true:=by simp [ha]
theorem l4All_spec (l : List DRow) (hl : fitS fitRow l) : Ctr Tryz.prog 73 [.c (.sl (l.map DRow.c))] [.own 121 2 (l.map DRow.o) true]:=by
 refine Ctr.mk Tryz.call73 Tryz.func73 rfl mixed Tryz.ntmps73 Tryz.results73 (by kernel_rfl) rfl fun hw=>?_
 have hlen:=hl.1
 simp only [go_sem,List.length_map]
 refine LoopH.mk [6] (A:=Nat × List DRow) (fun x=>[(4,.c (.v (.int .i64 (x.1)))),(3,.c (.ref 0))]) (fun x=>[⟨121,2,x.2.map DRow.o,true,true⟩]) (fun x=>x.1 ≤ l.length ∧ x.2.length ≤ x.1 ∧ x.2 ++ l.drop x.1 = l) (fun x=>l.length - x.1) (0,[]) (Head.sel [(0,false)] ⟨rfl,rfl,rfl,trivial⟩ rfl) ⟨Nat.zero_le _,Nat.le_refl _,rfl⟩ ?_
 rintro ⟨k,out⟩ ⟨hk,hol,hb⟩
 dsimp only at hk hol hb
 simp only [go_sem,List.length_map]
 refine cndC.mk (fun h=>?_) (fun h=>?_)
 ·have hk' : k < l.length:=by simpa using h
  rw [List.drop_eq_getElem_cons hk'] at hb
  have hr:=hl.2 _ (List.getElem_mem hk')
  rw [fitRow_eq] at hr
  have hrl:=hr.1
  have hol2 : out.length + 1 ≤ 2147483648:=by omega
  simp only [go_sem,List.length_map,map_at _ hk',hk',Option.getD_some]
  refine CallK.mk _ (by simpa only [go_sem] using l4Copy_spec l[k] hrl) fun _=>?_
  simp only [go_sem,List.all_cons,List.all_nil,List.length_map,map_at _ hk',hk',hol2,nr_ref2,Bool.false_eq_true,Option.getD_some,wrap_i64 (n:=(k : Int) + 1) (by omega) (by omega)]
  refine ⟨(k + 1,out ++ [l[k]]),Head.selAbs [(4,true),(1,false)] 1 0 ⟨rfl,rfl,in_app DRow.o_nr _ out rfl,pureE_map DVal.pure,trivial⟩ ⟨out.length,out.map DRow.o ++ [DRow.o l[k]],_,DRow.o l[k],_,⟨Nat.lt_succ_self 0,rfl,rn_app DRow.o_nr _ out _ _,by simp,rfl⟩,
   ⟨rfl,rfl,rfl,rfl,rfl,rfl,nr_Val _,by simp [idxL],fun l hl=>by simp [idxL] at hl; omega⟩,⟨rfl, ?tr⟩, ?eq⟩,⟨hk',by simp; omega,(List.append_assoc _ _ _).trans hb⟩,by simp only; omega⟩
  case tr=>unfold absSt; rw [set_last]; exact allA (nr_noRefOb (nr_Row _))
  case eq=>unfold absSt; rw [set_last,List.map_append]; rfl
 ·have hk' : k = l.length:=by simp at h; omega
  subst hk'
  rw [List.drop_length] at hb
  have : out = l:=by simpa using hb
  subst this
  simp only [go_sem,nr_Row]
  try simp
end Go.Proofs.YthoeeoddgkjkkaaGreat
