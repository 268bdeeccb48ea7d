/- Walks: what is to be packed. -/
import Derived.Test.YthoeeoddgkjkkaaGreatXa
import Derived.Test.YthoeeoddgkjkkaaGreatAx
namespace Go.Proofs.YthoeeoddgkjkkaaGreat
set_option linter.unusedSimpArgs false
set_option linter.unusedVariables false
open Go.Vm
set_option maxHeartbeats 2000000
set_option maxRecDepth 10000
@[go_sem] theorem binds_txt {n : Nat} {d : Departure} : Region.binds .any ⟨n,.textOnly d⟩ = false:=rfl
@[go_sem] theorem binds_gc {n : Nat} {d : Departure} : Region.binds .any ⟨n,.gcOnly d⟩ = false:=rfl
theorem fitRefs {w : DWorld} (hf : fitWorld w) : w.d.l.length ≤ 1048576:=by
 rw [fitWorld_eq] at hf
 have:=hf.2.1
 rw [fitDir_eq] at this
 exact this
theorem getGroup_ok {cs b : List Int} {l : List DRow} (h : getGroup cs b = some l) : grpOk cs l = true:=by
 unfold getGroup at h
 split at h
 ·cases h
 ·split at h
  ·split at h
   ·cases h
   ·split at h
    ·rename_i h2
     cases h
     exact h2.2
    ·cases h
  ·cases h
end Go.Proofs.YthoeeoddgkjkkaaGreat
/- Walks: marks, kept rows, the rows of a part. -/
namespace Go.Proofs.YthoeeoddgkjkkaaGreat
set_option linter.unusedSimpArgs false
set_option linter.unusedVariables false
open Go.Vm
set_option maxHeartbeats 2000000
set_option maxRecDepth 10000
def markOf (w : DWorld) (id : Int) : Int:=if 0 ≤ id then (w.m[id.toNat]?).getD 0 else 0
theorem markOf_in {w : DWorld} {n : Nat} (h : n < w.m.length) : markOf w n = w.m[n]:=by simp [markOf,h]
theorem markOf_out {w : DWorld} {id : Int} (h : ¬ (0 ≤ id ∧ id < w.m.length)) : markOf w id = 0:=by
 unfold markOf
 split
 ·rename_i h0
  rw [List.getElem?_eq_none (by omega)]; rfl
 ·rfl
theorem sMarkOf_spec (w : DWorld) (id : Int) (hm : w.m.length ≤ 1048576) : Ctr Tryz.prog 127 [.agg w.c,.c (.v (.int .i64 id))] [.val (.c (.v (.int .i64 (markOf w id))))]:=by
 refine Ctr.mk Tryz.call127 Tryz.func127 rfl mixed Tryz.ntmps127 Tryz.results127 (by kernel_rfl) rfl fun hw=>?_
 simp only [go_sem,List.length_map]
 try refine DrawK.mk ?_
 try simp only [go_sem,List.length_map]
 first | refine CallF.mk _ (lIn_spec id 0 _) ?_ | refine CallK.mk _ (lIn_spec id 0 _) fun _=>?_
 simp only [go_sem,List.length_map]
 rw [wrap_i64 (n:=(w.m.length : Int) - 1) (by omega) (by omega)]
 by_cases hb : 0 ≤ id ∧ id < w.m.length
 ·obtain ⟨n,rfl⟩:=Int.eq_ofNat_of_zero_le hb.1
  have hn : n < w.m.length:=by omega
  have e1 : (decide ((n : Int) ≥ 0) && decide ((n : Int) ≤ (w.m.length : Int) - 1)) = true:=by simp; omega
  simp only [go_sem,List.length_map,e1,map_at _ hn,hn,markOf_in hn]
 ·have e1 : (decide (id ≥ 0) && decide (id ≤ (w.m.length : Int) - 1)) = false:=by simp; omega
  simp only [go_sem,List.length_map,e1,markOf_out hb]
theorem iMarkOf_spec (w : DWorld) (id : Int) (hm : w.m.length ≤ 1048576) : Ctr Tryz.prog 128 [.agg w.c,.c (.v (.int .i64 id))] [.val (.c (.v (.int .i64 (markOf w id))))]:=by
 refine Ctr.mk Tryz.call128 Tryz.func128 rfl mixed Tryz.ntmps128 Tryz.results128 (by kernel_rfl) rfl fun hw=>?_
 by_cases hb : 0 ≤ id ∧ id < w.m.length
 ·obtain ⟨n,rfl⟩:=Int.eq_ofNat_of_zero_le hb.1
  have hn : n < w.m.length:=by omega
  have e1 : decide ((n : Int) < 0) = false:=by simp
  have e2 : decide ((n : Int) ≥ (w.m.length : Int)) = false:=by simp; omega
  simp only [go_sem,List.length_map,e1,e2,map_at _ hn,hn,markOf_in hn]
 ·rw [markOf_out hb]
  by_cases h0 : id < 0
  ·have e1 : decide (id < 0) = true:=by simpa using h0
   simp only [go_sem,List.length_map,e1]
  ·have e1 : decide (id < 0) = false:=by simpa using h0
   have e2 : decide (id ≥ (w.m.length : Int)) = true:=by simp; omega
   simp only [go_sem,List.length_map,e1,e2]
def keptR (w : DWorld) (ts : Int) (r : DRow) : Bool:=!came (markOf w r.id) ts
def kept (w : DWorld) (l : List DRow) (ts : Int) : List DRow:=l.filter (keptR w ts)
theorem kept_step {w : DWorld} {l : List DRow} {ts : Int} {k : Nat} (h : k < l.length) : kept w (l.drop k) ts = (if keptR w ts l[k] = true then [l[k]] else []) ++ kept w (l.drop (k + 1)) ts:=by
 unfold kept
 rw [List.drop_eq_getElem_cons h,List.filter_cons]
 split <;> rfl
theorem iKept_spec (w : DWorld) (l : List DRow) (ts : Int) (hm : w.m.length ≤ 1048576) (hl : fitB fitRow l) :
  Ctr Tryz.prog 86 [.agg w.c,.c (.sl (l.map DRow.c)),.c (.v (.int .i64 ts))] [.own 121 2 ((kept w l ts).map DRow.o) true]:=by
 refine Ctr.mk Tryz.call86 Tryz.func86 rfl mixed Tryz.ntmps86 Tryz.results86 (by kernel_rfl) rfl fun hw=>?_
 simp only [go_sem,List.length_map]
 refine LoopB.mk 2 1 [2,3,7,11,12,13] (A:=Nat × List DRow) (fun x=>⟨31,[(2,.c (.v (.int .i64 ts))),(3,.lp 0 0 0),(7,.c (.ref 1)),(11,.c (.sl (l.map DRow.c))),(12,.c (.v (.int .i64 l.length))),(13,.c (.v (.int .i64 x.1)))],[⟨46,14,[w.c],true,true⟩,⟨121,2,x.2.map DRow.o,true,true⟩]⟩)
  (fun x=>x.1 ≤ l.length ∧ x.2 ++ kept w (l.drop x.1) ts = kept w l ts) (fun x=>l.length - x.1) (0,[]) [(0,false),(1,false)] ⟨⟨rfl,rfl,rfl,rfl,trivial⟩,rfl⟩ ⟨Nat.zero_le _,rfl⟩ ?_
 rintro ⟨k,out⟩ ⟨hk,hb⟩
 dsimp only at hk hb
 have hol : out.length ≤ l.length:=by
  have h1 : (kept w l ts).length ≤ l.length:=List.length_filter_le _ _
  rw [← hb] at h1
  simp at h1; omega
 have hlen:=hl.1
 simp only [go_sem,List.length_map]
 refine cndC.mk (fun h=>?_) (fun h=>?_)
 ·have hk' : k < l.length:=by simpa using h
  rw [kept_step hk'] at hb
  have hr:=hl.2 _ (List.getElem_mem hk')
  rw [fitRow_eq] at hr
  have hrl:=hr.1
  simp only [go_sem,List.length_map,map_at _ hk',hk',Option.getD_some]
  try refine DrawK.mk ?_
  try simp only [go_sem,List.length_map,map_at _ hk',hk']
  first | refine CallF.mk _ (by simpa only [go_sem] using iMarkOf_spec w l[k].id hm) ?_ | refine CallK.mk _ (by simpa only [go_sem] using iMarkOf_spec w l[k].id hm) fun _=>?_
  simp only [go_sem,List.length_map,map_at _ hk',hk']
  first | refine CallF.mk _ (iCame_spec (markOf w l[k].id) ts) ?_ | refine CallK.mk _ (iCame_spec (markOf w l[k].id) ts) fun _=>?_
  rcases hc : came (markOf w l[k].id) ts with _ | _
  ·have hp : keptR w ts l[k] = true:=by simp [keptR,hc]
   rw [if_pos hp] at hb
   simp only [go_sem,List.length_map,map_at _ hk',hk',hc,Option.getD_some,wrap_i64 (n:=(k : Int) + 1) (by omega) (by omega)]
   refine CallK.mk _ (by simpa only [go_sem] using cloneRow_spec l[k] hrl) fun _=>?_
   have hol2 : out.length + 1 ≤ 1099511627776:=by
    have h1 : (kept w l ts).length ≤ l.length:=List.length_filter_le _ _
    have h2:=congrArg List.length hb
    simp at h2; omega
   have hnr : ∀ (a : Int) (l : Nat),nrE [[Cl.v (.int .i64 a),.ref l]] = false:=fun _ _=>rfl
   simp only [go_sem,List.all_cons,List.all_nil,List.length_map,map_at _ hk',hk',hol2,hnr,Option.getD_some,wrap_i64 (n:=(k : Int) + 1) (by omega) (by omega)]
   refine ⟨(k + 1,out ++ [l[k]]),⟨[(0,false),(5,true),(3,false)],⟨rfl,rfl,rfl,in_app DRow.o_nr _ out rfl,pureE_map DVal.pure,trivial⟩,.inr ⟨out.length,out.map DRow.o ++ [DRow.o l[k]],_,DRow.o l[k],_,⟨Nat.lt_succ_self 1,rfl,rn_app DRow.o_nr _ out _ _,by simp,rfl⟩,
    ⟨rfl,rfl,rfl,rfl,rfl,rfl,nr_Val _,by simp [idxL],fun l hl=>by simp [idxL] at hl; omega⟩,⟨rfl, ?tr⟩, ?eq⟩⟩,⟨hk',by rw [← hb,List.append_assoc]⟩,by simp only; omega⟩
   case tr=>unfold absSt; rw [set_last]; exact all2 rfl (nr_noRefOb (nr_Row _))
   case eq=>unfold absSt; rw [set_last]; rfl
  ·have hp : keptR w ts l[k] = false:=by simp [keptR,hc]
   rw [if_neg (by simp [hp]),List.nil_append] at hb
   simp only [go_sem,List.length_map,map_at _ hk',hk',hc,Option.getD_some,wrap_i64 (n:=(k : Int) + 1) (by omega) (by omega)]
   refine ⟨(k + 1,out),⟨[(0,false),(1,true)],⟨rfl,rfl,rfl,nr_inE (nr_Row _),trivial⟩,.inl ?eq⟩,⟨hk',hb⟩,by simp only; omega⟩
   case eq =>
    show (⟨31,_,[_,⟨121,2,(out.map DRow.o).map (fun x=>x.map (rnC [(0,false),(1,true)])),true,true⟩]⟩ : MS) = _
    rw [rn_nrE (nr_Row out)]
    rfl
 ·have hk' : k = l.length:=by simp at h; omega
  subst hk'
  rw [List.drop_length] at hb
  have : out = kept w l ts:=by simpa [kept] using hb
  subst this
  simp only [go_sem,nr_Row]
  simp
theorem sKept_spec (w : DWorld) (l : List DRow) (ts : Int) (hm : w.m.length ≤ 1048576) (hl : fitB fitRow l) :
  Ctr Tryz.prog 85 [.agg w.c,.c (.sl (l.map DRow.c)),.c (.v (.int .i64 ts))] [.own 121 2 ((kept w l ts).map DRow.o) true]:=by
 refine Ctr.mk Tryz.call85 Tryz.func85 rfl mixed Tryz.ntmps85 Tryz.results85 (by kernel_rfl) rfl fun hw=>?_
 simp only [go_sem,List.length_map]
 refine LoopB.mk 2 1 [1,2,3,7,8] (A:=Nat × List DRow) (fun x=>⟨37,[(1,.c (.sl (l.map DRow.c))),(2,.c (.v (.int .i64 ts))),(3,.lp 0 0 0),(7,.c (.ref 1)),(8,.c (.v (.int .i64 x.1)))],[⟨46,14,[w.c],true,true⟩,⟨121,2,x.2.map DRow.o,true,true⟩]⟩)
  (fun x=>x.1 ≤ l.length ∧ x.2 ++ kept w (l.drop x.1) ts = kept w l ts) (fun x=>l.length - x.1) (0,[]) [(0,false),(1,false)] ⟨⟨rfl,rfl,rfl,rfl,trivial⟩,rfl⟩ ⟨Nat.zero_le _,rfl⟩ ?_
 rintro ⟨k,out⟩ ⟨hk,hb⟩
 dsimp only at hk hb
 have hol : out.length ≤ l.length:=by
  have h1 : (kept w l ts).length ≤ l.length:=List.length_filter_le _ _
  rw [← hb] at h1
  simp at h1; omega
 have hlen:=hl.1
 simp only [go_sem,List.length_map]
 refine cndC.mk (fun h=>?_) (fun h=>?_)
 ·have hk' : k < l.length:=by simpa using h
  rw [kept_step hk'] at hb
  have hr:=hl.2 _ (List.getElem_mem hk')
  rw [fitRow_eq] at hr
  have hrl:=hr.1
  simp only [go_sem,List.length_map,map_at _ hk',hk',Option.getD_some]
  try refine DrawK.mk ?_
  try simp only [go_sem,List.length_map,map_at _ hk',hk']
  first | refine CallF.mk _ (by simpa only [go_sem] using sMarkOf_spec w l[k].id hm) ?_ | refine CallK.mk _ (by simpa only [go_sem] using sMarkOf_spec w l[k].id hm) fun _=>?_
  simp only [go_sem,List.length_map,map_at _ hk',hk']
  first | refine CallF.mk _ (sCame_spec (markOf w l[k].id) ts) ?_ | refine CallK.mk _ (sCame_spec (markOf w l[k].id) ts) fun _=>?_
  rcases hc : came (markOf w l[k].id) ts with _ | _
  ·have hp : keptR w ts l[k] = true:=by simp [keptR,hc]
   rw [if_pos hp] at hb
   simp only [go_sem,List.length_map,map_at _ hk',hk',hc,Option.getD_some,wrap_i64 (n:=(k : Int) + 1) (by omega) (by omega)]
   refine CallK.mk _ (by simpa only [go_sem] using l4Copy_spec l[k] hrl) fun _=>?_
   have hol2 : out.length + 1 ≤ 1099511627776:=by
    have h1 : (kept w l ts).length ≤ l.length:=List.length_filter_le _ _
    have h2:=congrArg List.length hb
    simp at h2; omega
   have hnr : ∀ (a : Int) (l : Nat),nrE [[Cl.v (.int .i64 a),.ref l]] = false:=fun _ _=>rfl
   simp only [go_sem,List.all_cons,List.all_nil,List.length_map,map_at _ hk',hk',hol2,hnr,Option.getD_some,wrap_i64 (n:=(k : Int) + 1) (by omega) (by omega)]
   refine ⟨(k + 1,out ++ [l[k]]),⟨[(0,false),(5,true),(2,false)],⟨rfl,rfl,rfl,in_app DRow.o_nr _ out rfl,pureE_map DVal.pure,trivial⟩,.inr ⟨out.length,out.map DRow.o ++ [DRow.o l[k]],_,DRow.o l[k],_,⟨Nat.lt_succ_self 1,rfl,rn_app DRow.o_nr _ out _ _,by simp,rfl⟩,
    ⟨rfl,rfl,rfl,rfl,rfl,rfl,nr_Val _,by simp [idxL],fun l hl=>by simp [idxL] at hl; omega⟩,⟨rfl, ?tr⟩, ?eq⟩⟩,⟨hk',by rw [← hb,List.append_assoc]⟩,by simp only; omega⟩
   case tr=>unfold absSt; rw [set_last]; exact all2 rfl (nr_noRefOb (nr_Row _))
   case eq=>unfold absSt; rw [set_last]; rfl
  ·have hp : keptR w ts l[k] = false:=by simp [keptR,hc]
   rw [if_neg (by simp [hp]),List.nil_append] at hb
   simp only [go_sem,List.length_map,map_at _ hk',hk',hc,Option.getD_some,wrap_i64 (n:=(k : Int) + 1) (by omega) (by omega)]
   refine ⟨(k + 1,out),⟨[(0,false),(1,true)],⟨rfl,rfl,rfl,nr_inE (nr_Row _),trivial⟩,.inl ?eq⟩,⟨hk',hb⟩,by simp only; omega⟩
   case eq =>
    show (⟨37,_,[_,⟨121,2,(out.map DRow.o).map (fun x=>x.map (rnC [(0,false),(1,true)])),true,true⟩]⟩ : MS) = _
    rw [rn_nrE (nr_Row out)]
    rfl
 ·have hk' : k = l.length:=by simp at h; omega
  subst hk'
  rw [List.drop_length] at hb
  have : out = kept w l ts:=by simpa [kept] using hb
  subst this
  simp only [go_sem,nr_Row]
  simp
def rowsUpto (c : DChunk) (first ts : Int) : Nat → List DRow
 | 0=>[]
 | k + 1=>match c.l[k]? with
  | some x=>if came x.ins ts = true then rowsUpto c first ts k ++ [⟨IntKind.i64.wrap (first + k),x.l⟩] else rowsUpto c first ts k
  | none=>rowsUpto c first ts k
def rowsC (c : DChunk) (first ts : Int) : List DRow:=rowsUpto c first ts c.l.length
def camesUpto (c : DChunk) (ts : Int) : Nat → Nat
 | 0=>0
 | k + 1=>match c.l[k]? with
  | some x=>if came x.ins ts = true then camesUpto c ts k + 1 else camesUpto c ts k
  | none=>camesUpto c ts k
theorem rowsUpto_len (c : DChunk) (first ts : Int) : ∀ k,(rowsUpto c first ts k).length = camesUpto c ts k
 | 0=>rfl
 | k + 1=>by
  simp only [rowsUpto,camesUpto]
  split
  ·split
   ·simp [rowsUpto_len c first ts k]
   ·exact rowsUpto_len c first ts k
  ·exact rowsUpto_len c first ts k
theorem camesUpto_le (c : DChunk) (ts : Int) : ∀ k,camesUpto c ts k ≤ k
 | 0=>Nat.le_refl _
 | k + 1=>by
  have:=camesUpto_le c ts k
  simp only [camesUpto]
  split
  ·split <;> omega
  ·omega
theorem rowsUpto_yes {c : DChunk} {first ts : Int} {k : Nat} (hk : k < c.l.length) (h : came c.l[k].ins ts = true) : rowsUpto c first ts (k + 1) = rowsUpto c first ts k ++ [⟨IntKind.i64.wrap (first + k),c.l[k].l⟩]:=by
 simp [rowsUpto,hk,h]
theorem rowsUpto_no {c : DChunk} {first ts : Int} {k : Nat} (hk : k < c.l.length) (h : came c.l[k].ins ts = false) : rowsUpto c first ts (k + 1) = rowsUpto c first ts k:=by
 simp [rowsUpto,hk,h]
theorem iRowsOf_spec (c : DChunk) (first ts : Int) (hf : fitChunk c) : Ctr Tryz.prog 74 [.agg c.c,.c (.v (.int .i64 (first))),.c (.v (.int .i64 (ts)))] [.own 121 2 ((rowsC c first ts).map DRow.o) true]:=by
 refine Ctr.mk Tryz.call74 Tryz.func74 rfl mixed Tryz.ntmps74 Tryz.results74 (by kernel_rfl) rfl fun hw=>?_
 rw [fitChunk_eq] at hf
 have hlen:=hf.1
 simp only [go_sem]
 refine LoopB.mk 2 1 [1,2,3,7,12,13,14] (A:=Nat × List DRow) (fun x=>⟨35,[(1,.c (.v (.int .i64 (first)))),(2,.c (.v (.int .i64 (ts)))),(3,.lp 0 0 0),(7,.c (.ref 1)),(12,.c (.sl (c.l.map DSlot.c))),(13,.c (.v (.int .i64 (c.l.length)))),(14,.c (.v (.int .i64 (x.1))))],[⟨98,2,[c.c],true,true⟩,⟨121,2,x.2.map DRow.o,true,true⟩]⟩)
  (fun x=>x.1 ≤ c.l.length ∧ x.2 = rowsUpto c first ts x.1) (fun x=>c.l.length - x.1) (0,[]) [(0,false),(1,false)] ⟨⟨rfl,rfl,rfl,rfl,trivial⟩,rfl⟩ ⟨Nat.zero_le _,rfl⟩ ?_
 rintro ⟨k,out⟩ ⟨hk,hb⟩
 dsimp only at hk hb
 have hol : out.length ≤ k:=by rw [hb,rowsUpto_len]; exact camesUpto_le _ _ _
 simp only [go_sem]
 refine cndC.mk (fun h=>?_) (fun h=>?_)
 ·have hk' : k < c.l.length:=by simpa using h
  have hs:=hf.2 _ (List.getElem_mem hk')
  rw [fitSlot_eq] at hs
  have hsl:=hs.1
  have hwk : IntKind.i64.wrap ((k : Int) + 1) = (k : Int) + 1:=wrap_i64 (by omega) (by omega)
  simp only [go_sem,map_at _ hk',hk']
  try refine DrawK.mk ?_
  try simp only [go_sem,map_at _ hk',hk']
  first | refine CallF.mk _ (iCame_spec c.l[k].ins ts) ?_ | refine CallK.mk _ (iCame_spec c.l[k].ins ts) fun _=>?_
  rcases hc : came c.l[k].ins ts with _ | _
  ·simp only [go_sem,map_at _ hk',hk',hc,hwk]
   refine ⟨(k + 1,out),⟨[(0,false),(1,true)],⟨rfl,rfl,rfl,nr_inE (nr_Row _),trivial⟩,.inl ?eq⟩,⟨hk',by rw [rowsUpto_no hk' hc]; exact hb⟩,by simp only; omega⟩
   case eq =>
    show (⟨35,_,[_,⟨121,2,(out.map DRow.o).map (fun x=>x.map (rnC [(0,false),(1,true)])),true,true⟩]⟩ : MS) = _
    rw [rn_nrE (nr_Row out)]
    rfl
  ·have hnr : ∀ (a : Int) (l : Nat),nrE [[Cl.v (.int .i64 a),.ref l]] = false:=fun _ _=>rfl
   have hol2 : out.length + 1 ≤ 2147483648:=by omega
   have hsl2 : c.l[k].l.length ≤ 2147483648:=by omega
   simp only [go_sem,map_at _ hk',hk',hc,hwk]
   refine CallK.mk _ (cloneVals_spec c.l[k].l hsl) fun _=>?_
   simp only [go_sem,map_at _ hk',hk',hol2,hnr,hwk]
   refine ⟨(k + 1,out ++ [⟨IntKind.i64.wrap (first + k),c.l[k].l⟩]),⟨[(0,false),(5,true),(3,false)],⟨rfl,rfl,rfl,in_app DRow.o_nr _ out rfl,pureE_map DVal.pure,trivial⟩,.inr ⟨out.length,out.map DRow.o ++ [DRow.o ⟨IntKind.i64.wrap (first + k),c.l[k].l⟩],_,DRow.o ⟨IntKind.i64.wrap (first + k),c.l[k].l⟩,_,⟨Nat.lt_succ_self 1,rfl,rn_app DRow.o_nr _ out _ _,by simp,rfl⟩,
    ⟨rfl,rfl,rfl,rfl,rfl,rfl,nr_Val _,by simp [idxL],fun l hl=>by simp [idxL] at hl; omega⟩,⟨rfl, ?tr⟩, ?eq⟩⟩,⟨hk',by rw [rowsUpto_yes hk' hc,← hb]⟩,by simp only; omega⟩
   case tr=>unfold absSt; rw [set_last]; exact all2 rfl (nr_noRefOb (nr_Row _))
   case eq=>unfold absSt; rw [set_last]; rfl
 ·have hk' : k = c.l.length:=by simp at h; omega
  subst hk'
  have : out = rowsC c first ts:=hb
  subst this
  simp only [go_sem,nr_Row]
  try simp [OwnL,pureC]
theorem sRowsOf_spec (c : DChunk) (first ts : Int) (hf : fitChunk c) : Ctr Tryz.prog 72 [.agg c.c,.c (.v (.int .i64 (first))),.c (.v (.int .i64 (ts)))] [.own 121 2 ((rowsC c first ts).map DRow.o) true]:=by
 refine Ctr.mk Tryz.call72 Tryz.func72 rfl mixed Tryz.ntmps72 Tryz.results72 (by kernel_rfl) rfl fun hw=>?_
 rw [fitChunk_eq] at hf
 have hlen:=hf.1
 simp only [go_sem]
 refine LoopB.mk 2 1 [1,2,3,7,8] (A:=Nat × List DRow) (fun x=>⟨41,[(1,.c (.v (.int .i64 (first)))),(2,.c (.v (.int .i64 (ts)))),(3,.lp 0 0 0),(7,.c (.ref 1)),(8,.c (.v (.int .i64 (x.1))))],[⟨98,2,[c.c],true,true⟩,⟨121,2,x.2.map DRow.o,true,true⟩]⟩)
  (fun x=>x.1 ≤ c.l.length ∧ x.2 = rowsUpto c first ts x.1) (fun x=>c.l.length - x.1) (0,[]) [(0,false),(1,false)] ⟨⟨rfl,rfl,rfl,rfl,trivial⟩,rfl⟩ ⟨Nat.zero_le _,rfl⟩ ?_
 rintro ⟨k,out⟩ ⟨hk,hb⟩
 dsimp only at hk hb
 have hol : out.length ≤ k:=by rw [hb,rowsUpto_len]; exact camesUpto_le _ _ _
 simp only [go_sem]
 refine cndC.mk (fun h=>?_) (fun h=>?_)
 ·have hk' : k < c.l.length:=by simpa using h
  have hs:=hf.2 _ (List.getElem_mem hk')
  rw [fitSlot_eq] at hs
  have hsl:=hs.1
  have hwk : IntKind.i64.wrap ((k : Int) + 1) = (k : Int) + 1:=wrap_i64 (by omega) (by omega)
  simp only [go_sem,map_at _ hk',hk']
  try refine DrawK.mk ?_
  try simp only [go_sem,map_at _ hk',hk']
  first | refine CallF.mk _ (sCame_spec c.l[k].ins ts) ?_ | refine CallK.mk _ (sCame_spec c.l[k].ins ts) fun _=>?_
  rcases hc : came c.l[k].ins ts with _ | _
  ·simp only [go_sem,map_at _ hk',hk',hc,hwk]
   refine ⟨(k + 1,out),⟨[(0,false),(1,true)],⟨rfl,rfl,rfl,nr_inE (nr_Row _),trivial⟩,.inl ?eq⟩,⟨hk',by rw [rowsUpto_no hk' hc]; exact hb⟩,by simp only; omega⟩
   case eq =>
    show (⟨41,_,[_,⟨121,2,(out.map DRow.o).map (fun x=>x.map (rnC [(0,false),(1,true)])),true,true⟩]⟩ : MS) = _
    rw [rn_nrE (nr_Row out)]
    rfl
  ·have hnr : ∀ (a : Int) (l : Nat),nrE [[Cl.v (.int .i64 a),.ref l]] = false:=fun _ _=>rfl
   have hol2 : out.length + 1 ≤ 2147483648:=by omega
   have hsl2 : c.l[k].l.length ≤ 2147483648:=by omega
   simp only [go_sem,map_at _ hk',hk',hc,hwk]
   simp only [go_sem,map_at _ hk',hk',val_all,val_rows,hsl2,hol2,hnr,hwk]
   refine ⟨(k + 1,out ++ [⟨IntKind.i64.wrap (first + k),c.l[k].l⟩]),⟨[(0,false),(5,true),(3,false)],⟨rfl,rfl,rfl,in_app DRow.o_nr _ out rfl,pureE_map DVal.pure,trivial⟩,.inr ⟨out.length,out.map DRow.o ++ [DRow.o ⟨IntKind.i64.wrap (first + k),c.l[k].l⟩],_,DRow.o ⟨IntKind.i64.wrap (first + k),c.l[k].l⟩,_,⟨Nat.lt_succ_self 1,rfl,rn_app DRow.o_nr _ out _ _,by simp,rfl⟩,
    ⟨rfl,rfl,rfl,rfl,rfl,rfl,nr_Val _,by simp [idxL],fun l hl=>by simp [idxL] at hl; omega⟩,⟨rfl, ?tr⟩, ?eq⟩⟩,⟨hk',by rw [rowsUpto_yes hk' hc,← hb]⟩,by simp only; omega⟩
   case tr=>unfold absSt; rw [set_last]; exact all2 rfl (nr_noRefOb (nr_Row _))
   case eq=>unfold absSt; rw [set_last]; rfl
 ·have hk' : k = c.l.length:=by simp at h; omega
  subst hk'
  have : out = rowsC c first ts:=hb
  subst this
  simp only [go_sem,nr_Row]
  try simp [OwnL,pureC]
end Go.Proofs.YthoeeoddgkjkkaaGreat
/- Walks: the rows of a part, the table at a moment. -/
namespace Go.Proofs.YthoeeoddgkjkkaaGreat
set_option linter.unusedSimpArgs false
set_option linter.unusedVariables false
open Go.Vm
set_option maxHeartbeats 2000000
set_option maxRecDepth 10000
noncomputable def grpIf (w : DWorld) (r : DRef) : List DRow:=if (r.kind == 2 && there w r) = true then grpAt w r else []
noncomputable def rowsIn (w : DWorld) (r : DRef) (ts : Int) : List DRow:=if (chunkAt w r).2 = true then rowsC (chunkAt w r).1 r.first ts else grpIf w r
theorem fits_valOk : ∀ (cs : List Int) (vs : List DVal),fits cs vs = true → vs.length = cs.length ∧ ∀ v ∈ vs,valOk v = true
 | [],[],_=>⟨rfl,fun v hv=>by cases hv⟩
 | [],_ :: _,h=>by simp [fits] at h
 | _ :: _,[],h=>by simp [fits] at h
 | c :: cs,v :: vs,h=>by
  simp only [fits,Bool.and_eq_true] at h
  obtain ⟨h1,h2⟩:=fits_valOk cs vs h.2
  refine ⟨by simp [h1],fun x hx=>?_⟩
  rcases List.mem_cons.1 hx with rfl | hx
  ·exact h.1.1
  ·exact h2 x hx
theorem grp_fit (w : DWorld) (r : DRef) : fitS fitRow (grpAt w r):=by
 unfold grpAt
 split
 ·exact ⟨Nat.zero_le _,fun x hx=>by cases hx⟩
 ·rename_i b hb
  rcases h : getGroup w.c0.cols b.g with _ | l
  ·exact ⟨Nat.zero_le _,fun x hx=>by cases hx⟩
  ·obtain ⟨h1,h2,h3⟩:=grp_facts (getGroup_ok h)
   refine ⟨by simp only [Option.getD_some]; omega,fun x hx=>?_⟩
   obtain ⟨q1,q2⟩:=fits_valOk _ _ (h3 x hx).2.2
   rw [fitRow_eq]
   refine ⟨by omega,fun v hv=>?_⟩
   have:=valOk_size (q2 v hv)
   rw [fitVal_eq]; omega
theorem rowsUpto_fit {c : DChunk} (first ts : Int) (hf : fitChunk c) : ∀ k,∀ r ∈ rowsUpto c first ts k,fitRow r
 | 0,r,hr=>by cases hr
 | k + 1,r,hr=>by
  simp only [rowsUpto] at hr
  split at hr
  ·rename_i x hx
   split at hr
   ·rcases List.mem_append.1 hr with hr | hr
    ·exact rowsUpto_fit first ts hf k r hr
    ·rw [List.mem_singleton.1 hr]
     rw [fitChunk_eq] at hf
     exact hf.2 x (List.mem_of_getElem? hx)
   ·exact rowsUpto_fit first ts hf k r hr
  ·exact rowsUpto_fit first ts hf k r hr
theorem rowsC_fit {c : DChunk} (first ts : Int) (hf : fitChunk c) : fitS fitRow (rowsC c first ts):=by
 refine ⟨?_,rowsUpto_fit first ts hf _⟩
 have h:=hf
 rw [fitChunk_eq] at h
 have h1:=h.1
 unfold rowsC
 rw [rowsUpto_len]
 exact Nat.le_trans (camesUpto_le _ _ _) h1
theorem iGroupRowsO_spec (w : DWorld) (r : DRef) (hf : fitWorld w) : Ctr Tryz.prog 56 [.agg w.c,.agg r.c] [.own 121 2 ((grpIf w r).map DRow.o) true]:=by
 refine Ctr.mk Tryz.call56 Tryz.func56 rfl mixed Tryz.ntmps56 Tryz.results56 (by kernel_rfl) rfl fun hw=>?_
 rcases h1 : r.kind != 2 with _ | _
 ·have hk1 : (r.kind == 2) = true:=by simpa using h1
  simp only [go_sem,h1,hk1,grpIf,Bool.true_and]
  try refine DrawK.mk ?_
  try simp only [go_sem,h1]
  first | refine CallF.mk _ (by simpa only [go_sem] using iThere_spec w r) ?_ | refine CallK.mk _ (by simpa only [go_sem] using iThere_spec w r) fun _=>?_
  rcases h2 : there w r with _ | _
  ·simp only [go_sem,h1,h2]
   try simp [OwnL,pureC]
  ·obtain ⟨k,hk,hb,hat⟩ | ⟨hb,hat⟩:=bufAt_cases w r.buf
   ·have hbo:=bufs_ok hw.1 hk
    have hg : grpAt w r = (getGroup w.c0.cols w.b[k].g).getD []:=by simp only [grpAt,hat]
    have hgs:=iGetGroup_spec w.c0.cols w.b[k].g hbo (fitBufs hf hk).2
    simp only [go_sem,h1,h2,hb,map_at _ hk,hk,hg]
    rcases hgg : getGroup w.c0.cols w.b[k].g with _ | l <;> rw [hgg] at hgs <;> simp only [ggR] at hgs
    ·refine DrawK.mkE ?_
     simp only [go_sem,h1,h2,hb,map_at _ hk,hk]
     refine CallE.mk _ hgs ?_
     simp only [go_sem]
     try simp [OwnL,pureC,nrE]
     rw [List.getElem?_eq_getElem hk]; rfl
    ·refine DrawK.mkE ?_
     simp only [go_sem,h1,h2,hb,map_at _ hk,hk]
     refine CallE.mk _ hgs ?_
     simp only [go_sem,nr_Row]
     try simp [OwnL,pureC]
     rw [List.getElem?_eq_getElem hk]; rfl
   ·simp only [there,hat] at h2
    cases h2
 ·have hk1 : (r.kind == 2) = false:=by simpa using h1
  simp only [go_sem,h1,hk1,grpIf,Bool.false_and]
  try refine DrawK.mk ?_
  try simp only [go_sem,h1,hk1]
  try simp [OwnL,pureC]
theorem chunk_fit (w : DWorld) (r : DRef) (hf : fitWorld w) : fitChunk (chunkAt w r).1:=by
 unfold chunkAt
 rcases bufAt_cases w r.buf with ⟨k,hk,hb,hat⟩ | ⟨hb,hat⟩
 ·rw [hat]
  have:=(fitBufs hf hk).1
  dsimp only
  split
  ·exact this
  ·rw [fitChunk_eq]; exact ⟨Nat.zero_le _,fun x hx=>by cases hx⟩
 ·rw [hat,fitChunk_eq]; exact ⟨Nat.zero_le _,fun x hx=>by cases hx⟩
theorem grpIf_fit (w : DWorld) (r : DRef) : fitS fitRow (grpIf w r):=by
 unfold grpIf
 split
 ·exact grp_fit w r
 ·exact ⟨Nat.zero_le _,fun x hx=>by cases hx⟩
theorem rowsIn_fit (w : DWorld) (r : DRef) (ts : Int) (hf : fitWorld w) : fitS fitRow (rowsIn w r ts):=by
 unfold rowsIn
 split
 ·exact rowsC_fit _ _ (chunk_fit w r hf)
 ·exact grpIf_fit w r
theorem iRowsIn_spec (w : DWorld) (r : DRef) (ts : Int) (hf : fitWorld w) : Ctr Tryz.prog 20 [.agg w.c,.agg r.c,.c (.v (.int .i64 (ts)))] [.own 121 2 ((rowsIn w r ts).map DRow.o) true]:=by
 refine Ctr.mk Tryz.call20 Tryz.func20 rfl mixed Tryz.ntmps20 Tryz.results20 (by kernel_rfl) rfl fun hw=>?_
 simp only [go_sem]
 refine CallK.mk _ (by simpa only [go_sem] using iChunkOf_spec w r) fun _=>?_
 have hfc:=chunk_fit w r hf
 unfold rowsIn
 generalize (chunkAt w r).1 = c at hfc ⊢
 generalize (chunkAt w r).2 = ok
 rcases ok with _ | _
 ·simp only [go_sem]
  refine CallK.mk _ (by simpa only [go_sem] using iGroupRowsO_spec w r hf) fun _=>?_
  simp only [go_sem,nr_Row]
  try simp [OwnL,pureC]
 ·simp only [go_sem]
  refine CallK.mk _ (by simpa only [go_sem] using iRowsOf_spec c r.first ts hfc) fun _=>?_
  simp only [go_sem,nr_Row]
  try simp [OwnL,pureC]
theorem sRowsIn_spec (w : DWorld) (r : DRef) (ts : Int) (hf : fitWorld w) : Ctr Tryz.prog 18 [.agg w.c,.agg r.c,.c (.v (.int .i64 (ts)))] [.own 121 2 ((rowsIn w r ts).map DRow.o) true]:=by
 refine Ctr.mk Tryz.call18 Tryz.func18 rfl mixed Tryz.ntmps18 Tryz.results18 (by kernel_rfl) rfl fun hw=>?_
 simp only [go_sem]
 refine CallK.mk _ (by simpa only [go_sem] using sThere_spec w r) fun _=>?_
 rcases ta : there w r with _ | _
 ·have hc : (chunkAt w r).2 = false:=by
   unfold chunkAt
   unfold there at ta
   split
   ·rfl
   ·rename_i b hb
    simp only [hb] at ta
    simp [ta]
  have he : rowsIn w r ts = []:=by simp [rowsIn,hc,grpIf,ta]
  rw [he]
  simp only [go_sem]
  try simp [OwnL,pureC]
 obtain ⟨k,hk,hb,hat⟩ | ⟨hb,hat⟩:=bufAt_cases w r.buf
 rotate_left
 ·simp only [there,hat] at ta
  cases ta
 have tb : thereB w.b[k] r = true:=by simp only [there,hat] at ta; exact ta
 rcases k1 : r.kind == 1 with _ | _
 ·have hc : (chunkAt w r).2 = false:=by simp [chunkAt,hat,k1]
  rcases k2 : r.kind == 2 with _ | _
  ·have he : rowsIn w r ts = []:=by simp [rowsIn,hc,grpIf,k2]
   rw [he]
   simp only [go_sem,k1,k2]
   try simp [OwnL,pureC]
  ·have he : rowsIn w r ts = grpAt w r:=by simp [rowsIn,hc,grpIf,k2,ta]
   rw [he]
   simp only [go_sem,k1,k2]
   try refine DrawK.mkE ?_
   try simp only [go_sem,k1,k2]
   first | refine CallK.mk _ (by simpa only [go_sem] using sL21_spec w r hf hk hb) fun _=>?_ | refine CallE.mk _ (by simpa only [go_sem] using sL21_spec w r hf hk hb) ?_
   simp only [go_sem]
   first | refine CallK.mk _ (l4All_spec (grpAt w r) (grp_fit w r)) fun _=>?_ | refine CallE.mk _ (l4All_spec (grpAt w r) (grp_fit w r)) ?_
   simp only [go_sem,nr_Row]
   try simp [OwnL,pureC]
 ·have hc : chunkAt w r = (w.b[k].c0,true):=by simp [chunkAt,hat,tb,k1]
  have he : rowsIn w r ts = rowsC w.b[k].c0 r.first ts:=by simp [rowsIn,hc]
  rw [he]
  simp only [go_sem,k1,hb,map_at _ hk,hk]
  try refine DrawK.mkE ?_
  try simp only [go_sem,k1,hb,map_at _ hk,hk]
  first | refine CallK.mk _ (by simpa only [go_sem] using sRowsOf_spec w.b[k].c0 r.first ts (fitBufs hf hk).1) fun _=>?_ | refine CallE.mk _ (by simpa only [go_sem] using sRowsOf_spec w.b[k].c0 r.first ts (fitBufs hf hk).1) ?_
  simp only [go_sem,nr_Row]
  try simp [OwnL,pureC]
  rw [List.getElem?_eq_getElem hk]; rfl
end Go.Proofs.YthoeeoddgkjkkaaGreat
/- Walks: the table at a moment. -/
namespace Go.Proofs.YthoeeoddgkjkkaaGreat
set_option linter.unusedSimpArgs false
set_option linter.unusedVariables false
open Go.Vm
set_option maxHeartbeats 2000000
set_option maxRecDepth 10000
noncomputable def rowsUp (w : DWorld) (ts : Int) (k : Nat) : List DRow:=((w.d.l.take k).map fun r=>rowsIn w r ts).flatten
noncomputable def tableAt (w : DWorld) (ts : Int) : List DRow:=kept w (rowsUp w ts w.d.l.length) ts
theorem rowsUp_succ {w : DWorld} {ts : Int} {k : Nat} (h : k < w.d.l.length) : rowsUp w ts (k + 1) = rowsUp w ts k ++ rowsIn w w.d.l[k] ts:=by
 unfold rowsUp
 rw [List.take_add_one,List.getElem?_eq_getElem h,List.map_append,List.flatten_append]
 simp
theorem rowsUp_len (w : DWorld) (ts : Int) (hf : fitWorld w) : ∀ k,k ≤ w.d.l.length → (rowsUp w ts k).length ≤ k * 1048576
 | 0,_=>by simp [rowsUp]
 | k + 1,h=>by
  have h1:=rowsUp_len w ts hf k (by omega)
  have h2:=(rowsIn_fit w w.d.l[k] ts hf).1
  rw [rowsUp_succ (by omega),List.length_append]
  omega
theorem rowsUp_fit (w : DWorld) (ts : Int) (hf : fitWorld w) {k : Nat} (hk : k ≤ w.d.l.length) : fitB fitRow (rowsUp w ts k):=by
 refine ⟨?_,fun r hr=>?_⟩
 ·have h1:=rowsUp_len w ts hf k hk
  have h2:=fitRefs hf
  have h3 : k * 1048576 ≤ 1048576 * 1048576:=Nat.mul_le_mul_right _ (by omega)
  omega
 ·unfold rowsUp at hr
  obtain ⟨l,hl,hrl⟩:=List.mem_flatten.1 hr
  obtain ⟨x,_,rfl⟩:=List.mem_map.1 hl
  exact (rowsIn_fit w x ts hf).2 r hrl
theorem fitMarks {w : DWorld} (hf : fitWorld w) : w.m.length ≤ 1048576:=by
 rw [fitWorld_eq] at hf
 exact hf.2.2.2.1
theorem kept_fit {w : DWorld} {l : List DRow} {ts : Int} (h : fitB fitRow l) : fitB fitRow (kept w l ts) :=
 ⟨Nat.le_trans (List.length_filter_le _ _) h.1,fun x hx=>h.2 x (List.mem_filter.1 hx).1⟩
theorem tableAt_fit (w : DWorld) (ts : Int) (hf : fitWorld w) : fitB fitRow (tableAt w ts):=kept_fit (rowsUp_fit w ts hf (Nat.le_refl _))
theorem cloVals (l : List DVal) : cloE (l.map DVal.c) = true:=by
 induction l with
 | nil=>rfl
 | cons c l ih=>simp only [List.map_cons,cloE,ih,Bool.and_true]; rfl
theorem cloRows (l : List DRow) : cloE (l.map DRow.o) = true:=by
 induction l with
 | nil=>rfl
 | cons c l ih=>simp only [List.map_cons,cloE,ih,Bool.and_true,DRow.o_eq,List.cons_append,List.nil_append,cloL,cloC,cloVals]
theorem iTableAt_spec (w : DWorld) (ts : Int) (hf : fitWorld w) : Ctr Tryz.prog 26 [.agg w.c,.c (.v (.int .i64 (ts)))] [.own 121 2 ((tableAt w ts).map DRow.o) true]:=by
 refine Ctr.mk Tryz.call26 Tryz.func26 rfl mixed Tryz.ntmps26 Tryz.results26 (by kernel_rfl) rfl fun hw=>?_
 have hrl:=fitRefs hf
 have hml:=fitMarks hf
 simp only [go_sem]
 refine LoopH.mk [8] (A:=Nat) (fun x=>[(13,.c (.v (.int .i64 (x)))),(5,.c (.ref 1))]) (fun x=>[⟨46,14,[w.c],true,true⟩,⟨121,2,(rowsUp w ts x).map DRow.o,true,true⟩]) (fun x=>x ≤ w.d.l.length) (fun x=>w.d.l.length - x) 0 (Head.sel [(0,false),(1,false)] ⟨rfl,rfl,rfl,rfl,trivial⟩ rfl) (Nat.zero_le _) ?_
 intro k hk
 simp only [go_sem]
 refine cndC.mk (fun h=>?_) (fun h=>?_)
 ·have hk' : k < w.d.l.length:=by simpa using h
  have hwk : IntKind.i64.wrap ((k : Int) + 1) = (k : Int) + 1:=wrap_i64 (by omega) (by omega)
  have hnr : nrE ((rowsUp w ts k).map DRow.o ++ (rowsIn w w.d.l[k] ts).map DRow.o) = true:=by rw [← List.map_append]; exact nr_Row _
  have hb:=(rowsUp_fit w ts hf (k:=k + 1) hk').1
  rw [rowsUp_succ hk',List.length_append] at hb
  simp only [go_sem,map_at _ hk',hk',hwk]
  refine CallK.mk _ (by simpa only [go_sem] using iRowsIn_spec w w.d.l[k] ts hf) fun _=>?_
  simp only [go_sem,map_at _ hk',hk',hb,hwk]
  refine ⟨k + 1,Head.sel [(0,false),(4,true)] ⟨rfl,rfl,rfl,nr_inE hnr,trivial⟩ ?_,hk',by omega⟩
  show (⟨28,_,[_,⟨121,2,((rowsUp w ts k).map DRow.o ++ (rowsIn w w.d.l[k] ts).map DRow.o).map (fun x=>x.map (rnC [(0,false),(4,true)])),true,true⟩]⟩ : MS) = _
  rw [rn_nrE hnr,rowsUp_succ hk',List.map_append]
  rfl
 ·have hk' : k = w.d.l.length:=by simp at h; omega
  subst hk'
  simp only [go_sem]
  refine BorK.mk (args:=[.agg w.c,.c (.sl ((rowsUp w ts w.d.l.length).map DRow.c)),.c (.v (.int .i64 (ts)))]) [.own 121 2 ((tableAt w ts).map DRow.o) true] (by simp only [erE_Row,go_sem]) (by simp only [List.all_cons,cloR,cloRows,List.all_nil,Bool.and_true]) (iKept_spec w _ ts hml (rowsUp_fit w ts hf (Nat.le_refl _))) fun _=>?_
  simp only [go_sem,nr_Row]
  try simp [OwnL,pureC]
theorem sTableAt_spec (w : DWorld) (ts : Int) (hf : fitWorld w) : Ctr Tryz.prog 25 [.agg w.c,.c (.v (.int .i64 (ts)))] [.own 121 2 ((tableAt w ts).map DRow.o) true]:=by
 refine Ctr.mk Tryz.call25 Tryz.func25 rfl mixed Tryz.ntmps25 Tryz.results25 (by kernel_rfl) rfl fun hw=>?_
 have hrl:=fitRefs hf
 have hml:=fitMarks hf
 simp only [go_sem]
 refine LoopH.mk [7] (A:=Nat) (fun x=>[(6,.c (.v (.int .i64 (x)))),(5,.c (.ref 1))]) (fun x=>[⟨46,14,[w.c],true,true⟩,⟨121,2,(rowsUp w ts x).map DRow.o,true,true⟩]) (fun x=>x ≤ w.d.l.length) (fun x=>w.d.l.length - x) 0 (Head.sel [(0,false),(1,false)] ⟨rfl,rfl,rfl,rfl,trivial⟩ rfl) (Nat.zero_le _) ?_
 intro k hk
 simp only [go_sem]
 refine cndC.mk (fun h=>?_) (fun h=>?_)
 ·have hk' : k < w.d.l.length:=by simpa using h
  have hwk : IntKind.i64.wrap ((k : Int) + 1) = (k : Int) + 1:=wrap_i64 (by omega) (by omega)
  have hnr : nrE ((rowsUp w ts k).map DRow.o ++ (rowsIn w w.d.l[k] ts).map DRow.o) = true:=by rw [← List.map_append]; exact nr_Row _
  have hb:=(rowsUp_fit w ts hf (k:=k + 1) hk').1
  rw [rowsUp_succ hk',List.length_append] at hb
  simp only [go_sem,map_at _ hk',hk',hwk]
  refine DrawK.mkE ?_
  simp only [go_sem,map_at _ hk',hk',hb,hwk]
  refine CallE.mk _ (by simpa only [go_sem] using sRowsIn_spec w w.d.l[k] ts hf) ?_
  simp only [go_sem,map_at _ hk',hk',hb,hwk]
  refine ⟨k + 1,Head.sel [(0,false),(3,true)] ⟨rfl,rfl,rfl,nr_inE hnr,trivial⟩ ?_,hk',by omega⟩
  show (⟨31,_,[_,⟨121,2,((rowsUp w ts k).map DRow.o ++ (rowsIn w w.d.l[k] ts).map DRow.o).map (fun x=>x.map (rnC [(0,false),(3,true)])),true,true⟩]⟩ : MS) = _
  rw [rn_nrE hnr,rowsUp_succ hk',List.map_append]
  rfl
 ·have hk' : k = w.d.l.length:=by simp at h; omega
  subst hk'
  simp only [go_sem]
  refine BorK.mk (args:=[.agg w.c,.c (.sl ((rowsUp w ts w.d.l.length).map DRow.c)),.c (.v (.int .i64 (ts)))]) [.own 121 2 ((tableAt w ts).map DRow.o) true] (by simp only [erE_Row,go_sem]) (by simp only [List.all_cons,cloR,cloRows,List.all_nil,Bool.and_true]) (sKept_spec w _ ts hml (rowsUp_fit w ts hf (Nat.le_refl _))) fun _=>?_
  simp only [go_sem,nr_Row]
  try simp [OwnL,pureC]
end Go.Proofs.YthoeeoddgkjkkaaGreat
