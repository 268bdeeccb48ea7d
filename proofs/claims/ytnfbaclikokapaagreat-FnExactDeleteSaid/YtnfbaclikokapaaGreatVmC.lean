/- A part. -/
import Derived.WalkKit
set_option linter.unusedSimpArgs false
set_option linter.unusedVariables false
namespace Go.Vm
theorem ae:type_of% @List.length_map:=@List.length_map
theorem ag:type_of% @Bool.false_and:=@Bool.false_and
theorem ah:type_of% @Option.some.injEq:=@Option.some.injEq
theorem ai:type_of% @Bool.true_and:=@Bool.true_and
theorem aj:type_of% @List.getElem_mem:=@List.getElem_mem
theorem ak:type_of% @Bool.and_eq_true:=@Bool.and_eq_true
theorem au:type_of% @bne_self_eq_false:=@bne_self_eq_false
theorem ax:type_of% @Nat.zero_le:=@Nat.zero_le
theorem ay:type_of% @beq_self_eq_true:=@beq_self_eq_true
theorem az:type_of% @List.getElem?_eq_some_iff:=@List.getElem?_eq_some_iff
theorem aA:type_of% @List.getElem?_eq_getElem:=@List.getElem?_eq_getElem
theorem aB:type_of% @List.getElem?_cons_zero:=@List.getElem?_cons_zero
theorem aC:type_of% @Bool.false_eq_true:=@Bool.false_eq_true
theorem aF:type_of% @List.all_eq_true:=@List.all_eq_true
theorem aG:type_of% @List.drop_eq_getElem_cons:=@List.drop_eq_getElem_cons
theorem aH:type_of% @Bool.and_false:=@Bool.and_false
theorem aI:type_of% @List.nil_append:=@List.nil_append
theorem aJ:type_of% @Option.getD_some:=@Option.getD_some
theorem aK:type_of% @List.cons_append:=@List.cons_append
theorem aN:type_of% @Nat.le_refl:=@Nat.le_refl
theorem aO:type_of% @Bool.not_false:=@Bool.not_false
theorem aP:type_of% @Int.eq_ofNat_of_zero_le:=@Int.eq_ofNat_of_zero_le
theorem aQ:type_of% @Bool.not_true:=@Bool.not_true
theorem aS:type_of% @Bool.and_true:=@Bool.and_true
theorem aT:type_of% @if_false:=@if_false
theorem aU:type_of% @List.drop_length:=@List.drop_length
theorem aV:type_of% @if_neg:=@if_neg
theorem aW:type_of% @List.length_append:=@List.length_append
theorem aX:type_of% @List.getElem?_append_right:=@List.getElem?_append_right
theorem aY:type_of% @List.mem_of_getElem?:=@List.mem_of_getElem?
theorem aZ:type_of% @List.getElem?_append_left:=@List.getElem?_append_left
theorem bf:type_of% @decide_eq_true_eq:=@decide_eq_true_eq
theorem bi:type_of% @List.append_eq:=@List.append_eq
theorem bn:type_of% @Nat.lt_of_lt_of_le:=@Nat.lt_of_lt_of_le
theorem bu:type_of% @List.length_set:=@List.length_set
theorem bz:type_of% @if_pos:=@if_pos
theorem bC:type_of% @List.length_take:=@List.length_take
theorem bD:type_of% @if_true:=@if_true
theorem bF:type_of% @List.append_nil:=@List.append_nil
theorem bG:type_of% @List.take_length:=@List.take_length
theorem bH:type_of% @Array.getElem?_eq_some_iff:=@Array.getElem?_eq_some_iff
theorem bI:type_of% @Nat.lt_or_ge:=@Nat.lt_or_ge
theorem bJ:type_of% @Prod.mk.injEq:=@Prod.mk.injEq
theorem bK:type_of% @List.all_cons:=@List.all_cons
theorem bM:type_of% @List.append_assoc:=@List.append_assoc
theorem bP:type_of% @Option.map_some:=@Option.map_some
theorem bQ:type_of% @Bool.false_or:=@Bool.false_or
theorem bT:type_of% @List.flatten_cons:=@List.flatten_cons
theorem bU:type_of% @List.length_cons:=@List.length_cons
theorem bV:type_of% @List.map_take:=@List.map_take
theorem bW:type_of% @List.map_drop:=@List.map_drop
theorem bY:type_of% @Int.toNat_natCast:=@Int.toNat_natCast
theorem bZ:type_of% @List.getElem?_set:=@List.getElem?_set
theorem cu:type_of% @List.set_set:=@List.set_set
theorem cO:type_of% @Bool.true_or:=@Bool.true_or
theorem cZ:type_of% @List.mem_cons:=@List.mem_cons
theorem df:type_of% @Int.tdiv_eq_ediv_of_nonneg:=@Int.tdiv_eq_ediv_of_nonneg
theorem dh:type_of% @List.map_nil:=@List.map_nil
theorem di:type_of% @Option.map_none:=@Option.map_none
theorem dm:type_of% @List.all_nil:=@List.all_nil
theorem zt:type_of% @Int.mul_le_mul_of_nonneg_right:=@Int.mul_le_mul_of_nonneg_right
theorem W_:type_of% @Nat.lt_succ_self:=@Nat.lt_succ_self
theorem zu:type_of% @List.eq_nil_of_length_eq_zero:=@List.eq_nil_of_length_eq_zero
theorem Vp:type_of% @List.map_append:=@List.map_append
theorem nR:type_of% @List.getElem?_eq_none:=@List.getElem?_eq_none
theorem Zg:type_of% @of_decide_eq_true:=@of_decide_eq_true
theorem qx:type_of% @List.length_replicate:=@List.length_replicate
theorem X4:type_of% @Nat.min_eq_left:=@Nat.min_eq_left
theorem X5:type_of% @List.length_nil:=@List.length_nil
theorem zx:type_of% @Array.getElem?_append_left:=@Array.getElem?_append_left
theorem Zh:type_of% @List.flatten_nil:=@List.flatten_nil
theorem lD:type_of% @List.getElem?_map:=@List.getElem?_map
theorem v_:type_of% @List.sizeOf_lt_of_mem:=@List.sizeOf_lt_of_mem
theorem Zi:type_of% @List.all_append:=@List.all_append
theorem yQ:type_of% @Option.map_eq_some_iff:=@Option.map_eq_some_iff
theorem XA:type_of% @List.map_cons:=@List.map_cons
theorem WY:type_of% @List.mem_map:=@List.mem_map
theorem aas:type_of% @List.take_succ_eq_append_getElem:=@List.take_succ_eq_append_getElem
theorem aat:type_of% @Int.tmod_eq_emod_of_nonneg:=@Int.tmod_eq_emod_of_nonneg
theorem yR:type_of% @List.mem_of_mem_take:=@List.mem_of_mem_take
theorem zy:type_of% @Nat.le_of_ble_eq_true:=@Nat.le_of_ble_eq_true
theorem aaw:type_of% @Array.getD_eq_getD_getElem?:=@Array.getD_eq_getD_getElem?
theorem qy:type_of% @Option.getD_none:=@Option.getD_none
theorem z_:type_of% @Nat.pow_le_pow_right:=@Nat.pow_le_pow_right
theorem aaz:type_of% @List.mem_iff_getElem:=@List.mem_iff_getElem
theorem rC:type_of% @Option.some.inj:=@Option.some.inj
theorem yS:type_of% @List.getElem?_take:=@List.getElem?_take
theorem aaC:type_of% @List.take_of_length_le:=@List.take_of_length_le
theorem Zj:type_of% @Nat.zero_add:=@Nat.zero_add
theorem aaE:type_of% @Nat.mul_le_mul_right:=@Nat.mul_le_mul_right
theorem sV:type_of% @Bool.or_eq_true:=@Bool.or_eq_true
theorem dM:type_of% @Nat.sub_self:=@Nat.sub_self
theorem aaH:type_of% @List.mem_or_eq_of_mem_set:=@List.mem_or_eq_of_mem_set
theorem aaI:type_of% @List.getElem_of_mem:=@List.getElem_of_mem
theorem aaJ:type_of% @List.mem_of_mem_drop:=@List.mem_of_mem_drop
theorem yT:type_of% @List.length_drop:=@List.length_drop
theorem aaL:type_of% @Int.fdiv_eq_ediv_of_nonneg:=@Int.fdiv_eq_ediv_of_nonneg
theorem aaM:type_of% @List.map_congr_left:=@List.map_congr_left
theorem aaN:type_of% @decide_eq_false_iff_not:=@decide_eq_false_iff_not
theorem aaO:type_of% @Array.toList_append:=@Array.toList_append
theorem aaP:type_of% @List.flatten_append:=@List.flatten_append
theorem yU:type_of% @List.mem_append:=@List.mem_append
theorem ZZ:type_of% @beq_iff_eq:=@beq_iff_eq
theorem iW:type_of% @Nat.add_mul:=@Nat.add_mul
theorem aaT:type_of% @List.mem_singleton:=@List.mem_singleton
theorem aaU:type_of% @Nat.zero_lt_one:=@Nat.zero_lt_one
theorem yV:type_of% @Option.map_map:=@Option.map_map
theorem yX:type_of% @Int.pow_nonneg:=@Int.pow_nonneg
theorem aaX:type_of% @List.getElem?_cons_succ:=@List.getElem?_cons_succ
theorem aaY:type_of% @Int.mul_nonneg:=@Int.mul_nonneg
theorem aaZ:type_of% @Array.mapM_eq_mapM_toList:=@Array.mapM_eq_mapM_toList
theorem aa0:type_of% @List.length_pos_iff:=@List.length_pos_iff
theorem aa1:type_of% @Array.getElem?_replicate:=@Array.getElem?_replicate
theorem wB:type_of% @Int.pow_succ:=@Int.pow_succ
theorem aa3:type_of% @Bool.not_eq_true':=@Bool.not_eq_true'
theorem aa4:type_of% @List.drop_zero:=@List.drop_zero
theorem aa5:type_of% @List.set_append_right:=@List.set_append_right
theorem aa6:type_of% @List.map_set:=@List.map_set
theorem aa7:type_of% @List.mem_iff_getElem?:=@List.mem_iff_getElem?
theorem aa8:type_of% @List.getElem?_toArray:=@List.getElem?_toArray
theorem aa9:type_of% @Nat.sub_zero:=@Nat.sub_zero
theorem aba:type_of% @List.getElem?_drop:=@List.getElem?_drop
theorem abb:type_of% @List.getElem_set:=@List.getElem_set
theorem abd:type_of% @List.mem_flatten:=@List.mem_flatten
theorem abe:type_of% @Int.mul_le_mul_of_nonneg_left:=@Int.mul_le_mul_of_nonneg_left
theorem abf:type_of% @List.mem_cons_of_mem:=@List.mem_cons_of_mem
theorem abg:type_of% @Bool.and_eq_true_iff:=@Bool.and_eq_true_iff
theorem abh:type_of% @Nat.mul_le_mul:=@Nat.mul_le_mul
theorem abj:type_of% @List.take_zero:=@List.take_zero
theorem abk:type_of% @List.size_toArray:=@List.size_toArray
theorem wC:type_of% @Array.ext':=@Array.ext'
theorem abm:type_of% @List.getElem?_concat_length:=@List.getElem?_concat_length
theorem abn:type_of% @List.foldl_cons:=@List.foldl_cons
theorem abo:type_of% @Nat.eq_zero_or_pos:=@Nat.eq_zero_or_pos
theorem abp:type_of% @List.getElem?_eq_none_iff:=@List.getElem?_eq_none_iff
theorem abq:type_of% @List.getElem?_append:=@List.getElem?_append
theorem abr:type_of% @Bool.or_false:=@Bool.or_false
theorem abt:type_of% @List.take_succ_cons:=@List.take_succ_cons
theorem abu:type_of% @Option.bind_some:=@Option.bind_some
theorem abv:type_of% @List.getElem?_set_self:=@List.getElem?_set_self
theorem abw:type_of% @Nat.ne_of_beq_eq_false:=@Nat.ne_of_beq_eq_false
theorem abx:type_of% @List.getElem_cons_zero:=@List.getElem_cons_zero
theorem aby:type_of% @List.getElem_cons_succ:=@List.getElem_cons_succ
theorem abz:type_of% @List.pairwise_cons:=@List.pairwise_cons
theorem abA:type_of% @Int.le_refl:=@Int.le_refl
theorem abB:type_of% @Nat.add_zero:=@Nat.add_zero
theorem abC:type_of% @List.mem_range:=@List.mem_range
theorem yY:type_of% @and_true:=@and_true
theorem abE:type_of% @Nat.mod_eq_of_lt:=@Nat.mod_eq_of_lt
theorem abG:type_of% @Int.natCast_zero:=@Int.natCast_zero
theorem abH:type_of% @decide_false:=@decide_false
open Go.RowKit
inductive Cl where
 | v (x:Value)
 | sl (xs:List (List Cl))
 | ref (l:Nat)
 | ow (ty:TypeId) (sz:Nat) (xs:List (List Cl))
 deriving Inhabited
inductive AV where
 | c (x:Cl)
 | agg (xs:List Cl)
 | lp (l i off:Nat)
 | ip (xs:List Cl)
 | tup (xs:List AV)
 | undef
 | un
 | pin (x:AV) (u:Value)
 | clo (f:FuncId) (xs:List (List Cl))
 deriving Inhabited
structure Ob where
 ty:TypeId
 sz:Nat
 xs:List (List Cl)
 wr:Bool
 live:Bool
 deriving Inhabited
structure MS where
 n:Nat
 env:List (Nat×AV)
 st:List Ob
def BZ:List (Nat×AV)→Nat→AV
 | [],_=>.un
 | (k,v)::r,i=>if k=i then v else BZ r i
def MS.put (s:MS) (d:Option Nat) (v:AV):MS:=match d with
 | some d=>if d<s.n then⟨s.n,(d,v)::s.env,s.st⟩ else s
 | none=>s
def O9:Value→Bool
 | .agg _ | .tuple _=>false
 | .int k n=>(Lit.int k n).wf
 | .string s=>decide (s.size≤maxLen)
 | _=>true
theorem wE {x:Value} (h:O9 x=true):x.oneCell'=true:=by cases x<;>simp_all [O9,Value.oneCell']
mutual
def RdD (w:World) (St:Nat→Nat→Prop):Cl→Value→Prop
 | .v x,u=>u=x∧O9 x=true
 | .ref _,_=>False
 | .ow _ _ _,_=>False
 | .sl xs,u=>∃ a cap,u = .slice a xs.length cap∧xs.length≤cap∧cap≤maxLen∧(∃ sz,∀ x∈xs,x.length=sz)∧(xs = []∨∃ b off,a=some ⟨b,off,none⟩∧RdE w St xs b off)
def RdE (w:World) (St:Nat→Nat→Prop):List (List Cl)→Nat→Nat→Prop
 | [],_,_=>True
 | x::xs,b,off=>RdL w St x b off∧RdE w St xs b (off+x.length)
def RdL (w:World) (St:Nat→Nat→Prop):List Cl→Nat→Nat→Prop
 | [],_,_=>True
 | c::cs,b,off=>(St b off∧∃ u,w.cell? ⟨b,off,none⟩=some u∧RdD w St c u)∧RdL w St cs b (off+1)
end
mutual
theorem RdD.mono {w w':World} {St St':Nat→Nat→Prop} (hS:∀ b o,St b o→St' b o) (hw:∀ b o,St b o→w'.cell? ⟨b,o,none⟩=w.cell? ⟨b,o,none⟩) :
  ∀ (c:Cl) (u:Value),RdD w St c u→RdD w' St' c u
 | .v x,u,h=>by simp only[RdD] at h ⊢; exact h
 | .ref _,_,h=>by simp[RdD] at h
 | .ow _ _ _,_,h=>by simp[RdD] at h
 | .sl xs,u,h=>by
  simp only[RdD] at h ⊢
  obtain⟨a,cap,h1,h2,h3,h4,h5⟩:=h
  refine⟨a,cap,h1,h2,h3,h4, ?_⟩
  rcases h5 with h5 | ⟨b,off,h5,h6⟩
  ·exact .inl h5
  ·exact .inr ⟨b,off,h5,RdE.mono hS hw xs b off h6⟩
theorem RdE.mono {w w':World} {St St':Nat→Nat→Prop} (hS:∀ b o,St b o→St' b o) (hw:∀ b o,St b o→w'.cell? ⟨b,o,none⟩=w.cell? ⟨b,o,none⟩) :
  ∀ (xs:List (List Cl)) (b off:Nat),RdE w St xs b off→RdE w' St' xs b off
 | [],_,_,_=>by simp[RdE]
 | x::xs,b,off,h=>by
  simp only[RdE] at h ⊢
  exact⟨RdL.mono hS hw x b off h.1,RdE.mono hS hw xs b _ h.2⟩
theorem RdL.mono {w w':World} {St St':Nat→Nat→Prop} (hS:∀ b o,St b o→St' b o) (hw:∀ b o,St b o→w'.cell? ⟨b,o,none⟩=w.cell? ⟨b,o,none⟩) :
  ∀ (cs:List Cl) (b off:Nat),RdL w St cs b off→RdL w' St' cs b off
 | [],_,_,_=>by simp[RdL]
 | c::cs,b,off,h=>by
  simp only[RdL] at h ⊢
  obtain⟨⟨h1,u,h2,h3⟩,h4⟩:=h
  exact⟨⟨hS _ _ h1,u,by rw[hw _ _ h1]; exact h2,RdD.mono hS hw c u h3⟩,RdL.mono hS hw cs b _ h4⟩
end
theorem RdL.at {w:World} {St:Nat→Nat→Prop}:∀ {cs:List Cl} {b off:Nat},RdL w St cs b off→∀ j c,cs[j]?=some c →
  St b (off+j)∧∃ u,w.cell? ⟨b,off+j,none⟩=some u∧RdD w St c u
 | [],_,_,_,j,c,h=>by simp at h
 | c0::cs,b,off,h,j,c,hj=>by
  simp only[RdL] at h
  cases j with
  | zero=>simp only[aB,ah] at hj; subst hj; exact h.1
  | succ j =>
   simp only[aaX] at hj
   have:=RdL.at h.2 j c hj
   rwa [show off+1+j=off+(j+1) by omega] at this
theorem RdL.mk {w:World} {St:Nat→Nat→Prop}:∀ {cs:List Cl} {b off:Nat},(∀ j c,cs[j]?=some c→St b (off+j)∧∃ u,w.cell? ⟨b,off+j,none⟩=some u∧RdD w St c u)→RdL w St cs b off
 | [],_,_,_=>by simp[RdL]
 | c0::cs,b,off,h=>by
  simp only[RdL]
  refine⟨by simpa using h 0 c0 rfl,RdL.mk fun j c hj=>?_⟩
  have:=h (j+1) c (by simpa using hj)
  rwa [show off+(j+1)=off+1+j by omega] at this
theorem RdL.drop {w:World} {St:Nat→Nat→Prop} {cs:List Cl} {b off:Nat} (h:RdL w St cs b off) (n:Nat):RdL w St (cs.drop n) b (off+n):=
 RdL.mk fun j c hj=>by
  have:=h.at (n+j) c (by grind)
  grind
theorem RdL.take {w:World} {St:Nat→Nat→Prop} {cs:List Cl} {b off:Nat} (h:RdL w St cs b off) (n:Nat):RdL w St (cs.take n) b off:=
 RdL.mk fun j c hj=>by
  rw[yS] at hj
  split at hj
  ·exact h.at j c hj
  ·simp at hj
theorem RdE.at {w:World} {St:Nat→Nat→Prop} (sz:Nat):∀ {xs:List (List Cl)} {b off:Nat},RdE w St xs b off→(∀ x∈xs,x.length=sz)→∀ i x,xs[i]?=some x→RdL w St x b (off+i*sz)
 | [],_,_,_,_,i,x,h=>by simp at h
 | x0::xs,b,off,h,hl,i,x,hi=>by
  simp only[RdE] at h
  cases i with
  | zero=>simp only[aB,ah] at hi; subst hi; simpa using h.1
  | succ i =>
   simp only[aaX] at hi
   have:=RdE.at sz h.2 (fun y hy=>hl y (by simp[hy])) i x hi
   rw[hl x0 (by simp)] at this
   rwa [show off+sz+i*sz=off+(i+1)*sz by rw[iW]; omega] at this
theorem RdE.mk {w:World} {St:Nat→Nat→Prop} (sz:Nat):∀ {xs:List (List Cl)} {b off:Nat},(∀ x∈xs,x.length=sz)→(∀ i x,xs[i]?=some x→RdL w St x b (off+i*sz))→RdE w St xs b off
 | [],_,_,_,_=>by simp[RdE]
 | x0::xs,b,off,hl,h=>by
  simp only[RdE]
  refine⟨by simpa using h 0 x0 rfl,RdE.mk sz (fun y hy=>hl y (by simp[hy])) fun i x hi=>?_⟩
  have:=h (i+1) x (by grind)
  grind
def AO:Cl→Bool
 | .v (.slice _ _ _)=>false
 | .v (.agg _)=>false
 | .v (.tuple _)=>false
 | .v _=>true
 | .sl _=>true
 | .ref _=>false
 | .ow _ _ _=>false
def CB (cs:List Cl):Bool:=cs.all AO
def F5 (xs:List (List Cl)):Bool:=xs.all CB
def A_ (w:World) (st:List Ob) (β:Nat→Option Nat) (l:Nat) (u:Value):Prop:=
 match st[l]? with
 | none=>False
 | some ob=>u.oneCell'=true∧(ob.live=true→match β l with
  | none=>u = .slice none 0 0∧ob.xs = []
  | some b=>∃ cap cs,u = .slice (some ⟨b,0,none⟩) ob.xs.length cap∧ob.xs.length≤cap∧cap≤maxLen∧w.heap[b]?=some (.cells cs ob.ty (0,0))∧cs.size=cap*ob.sz)
def RdC (w:World) (St:Nat→Nat→Prop) (st:List Ob) (β:Nat→Option Nat):Cl→Value→Prop
 | .ref l,u=>A_ w st β l u
 | c,u=>RdD w St c u
mutual
def AVR (w:World) (St:Nat→Nat→Prop) (st:List Ob) (β:Nat→Option Nat):AV→Value→Prop
 | .c x,u=>RdC w St st β x u
 | .agg xs,u=>∃ us:List Value,u = .agg us.toArray∧us.length=xs.length∧∀ (k:Nat) (c:Cl),xs[k]?=some c→∃ y,us[k]?=some y∧RdC w St st β c y
 | .lp l i off,u=>match st[l]? with
  | none=>False
  | some ob=>ob.live=true→∃ b,β l=some b∧u = .pointer (some ⟨b,i*ob.sz+off,none⟩)
 | .ip xs,u=>∃ b off,u = .pointer (some ⟨b,off,none⟩)∧RdL w St xs b off
 | .tup xs,u=>∃ us:List Value,u = .tuple us.toArray∧AVRs w St st β xs us
 | .undef,u=>u=Go.undef
 | .un,_=>True
 | .pin x u0,u=>u=u0∧AVR w St st β x u
 | .clo f xs,u=>∃ us:List Value,u = .func (.func f) #[] us.toArray∧us.length=xs.length∧∀ (k:Nat) (c:List Cl),xs[k]?=some c→∃ b off,us[k]?=some (.pointer (some ⟨b,off,none⟩))∧RdL w St c b off
def AVRs (w:World) (St:Nat→Nat→Prop) (st:List Ob) (β:Nat→Option Nat):List AV→List Value→Prop
 | [],us=>us = []
 | x::xs,us=>∃ y ys,us=y::ys∧AVR w St st β x y∧AVRs w St st β xs ys
end
def RdB (w:World) (St:Nat→Nat→Prop) (st:List Ob) (β:Nat→Option Nat):Cl→Value→Prop
 | .ow _ _ _,u=>u.oneCell'=true
 | c,u=>RdC w St st β c u
def ObR (w:World) (St:Nat→Nat→Prop) (st:List Ob) (β:Nat→Option Nat) (ob:Ob) (b:Nat):Prop:=
 ∃ cs:Array Value,w.heap[b]?=some (.cells cs ob.ty (0,0))∧(∀ x∈ob.xs,x.length=ob.sz) ∧
  ∀ (k:Nat) (c:Cl),ob.xs.flatten[k]?=some c→∃ u,cs[k]?=some u∧RdB w St st β c u
def E8:Cl→Bool
 | .ow _ _ _=>true
 | _=>false
mutual
def RdO (w:World) (St:Nat→Nat→Prop):Cl→Value→(Nat→Prop)→Prop
 | .ow ty sz xs,u,F=>(u = .slice none 0 0∧xs = [])∨∃ (b cap:Nat) (cs:Array Value) (G:Nat→Nat→Prop),u = .slice (some ⟨b,0,none⟩) xs.length cap∧xs.length≤cap∧cap≤maxLen ∧
   w.heap[b]?=some (.cells cs ty (0,0))∧cs.size=cap*sz∧(∀ x∈xs,x.length=sz)∧F b∧(∀ k x,G k x→F x∧x≠b)∧(∀ k k' x,G k x→G k' x→k=k')∧RdOE w St xs 0 cs G
 | .v x,u,_=>u=x∧O9 x=true
 | .sl xs,u,_=>RdD w St (.sl xs) u
 | .ref _,_,_=>False
def RdOE (w:World) (St:Nat→Nat→Prop):List (List Cl)→Nat→Array Value→(Nat→Nat→Prop)→Prop
 | [],_,_,_=>True
 | x::xs,n,cs,G=>RdOL w St x n cs G∧RdOE w St xs (n+x.length) cs G
def RdOL (w:World) (St:Nat→Nat→Prop):List Cl→Nat→Array Value→(Nat→Nat→Prop)→Prop
 | [],_,_,_=>True
 | c::cl,n,cs,G=>(∃ y,cs[n]?=some y∧RdO w St c y (G n))∧RdOL w St cl (n+1) cs G
end
mutual
theorem RdO.mono {w w':World} {St St':Nat→Nat→Prop} (hS:∀ b o,St b o→St' b o) (hw:∀ b o,St b o→w'.cell? ⟨b,o,none⟩=w.cell? ⟨b,o,none⟩) :
  ∀ (c:Cl) (u:Value) (F F':Nat→Prop),(∀ x,F x→F' x)→(∀ x,F x→w'.heap[x]?=w.heap[x]?)→RdO w St c u F→RdO w' St' c u F'
 | .v x,u,F,F',_,_,h=>by simp only[RdO] at h ⊢; exact h
 | .ref _,_,_,_,_,_,h=>by simp[RdO] at h
 | .sl xs,u,F,F',_,_,h=>by simp only[RdO] at h ⊢; exact RdD.mono hS hw _ _ h
 | .ow ty sz xs,u,F,F',hF,hh,h=>by
  simp only[RdO] at h ⊢
  rcases h with h | ⟨b,cap,cs,G,h1,h2,h3,h4,h5,h6,h7,h8,h9,h10⟩
  ·exact .inl h
  ·exact .inr ⟨b,cap,cs,G,h1,h2,h3,by grind,h5,h6,hF b h7,fun k x hx=>⟨hF x (h8 k x hx).1,(h8 k x hx).2⟩,h9,RdOE.mono hS hw xs 0 cs G (fun k x hx=>hh x (h8 k x hx).1) h10⟩
theorem RdOE.mono {w w':World} {St St':Nat→Nat→Prop} (hS:∀ b o,St b o→St' b o) (hw:∀ b o,St b o→w'.cell? ⟨b,o,none⟩=w.cell? ⟨b,o,none⟩) :
  ∀ (xs:List (List Cl)) (n:Nat) (cs:Array Value) (G:Nat→Nat→Prop),(∀ k x,G k x→w'.heap[x]?=w.heap[x]?)→RdOE w St xs n cs G→RdOE w' St' xs n cs G
 | [],_,_,_,_,_=>by simp[RdOE]
 | x::xs,n,cs,G,hh,h=>by
  simp only[RdOE] at h ⊢
  exact⟨RdOL.mono hS hw x n cs G hh h.1,RdOE.mono hS hw xs _ cs G hh h.2⟩
theorem RdOL.mono {w w':World} {St St':Nat→Nat→Prop} (hS:∀ b o,St b o→St' b o) (hw:∀ b o,St b o→w'.cell? ⟨b,o,none⟩=w.cell? ⟨b,o,none⟩) :
  ∀ (cl:List Cl) (n:Nat) (cs:Array Value) (G:Nat→Nat→Prop),(∀ k x,G k x→w'.heap[x]?=w.heap[x]?)→RdOL w St cl n cs G→RdOL w' St' cl n cs G
 | [],_,_,_,_,_=>by simp[RdOL]
 | c::cl,n,cs,G,hh,h=>by
  simp only[RdOL] at h ⊢
  obtain⟨⟨y,h1,h2⟩,h3⟩:=h
  exact⟨⟨y,h1,RdO.mono hS hw c y (G n) (G n) (fun _ h=>h) (fun x hx=>hh n x hx) h2⟩,RdOL.mono hS hw cl _ cs G hh h3⟩
end
structure Bs where
 w:World
 own:Nat→Prop
 gs:Nat→Value
def Bs.heap (b:Bs):Array Obj:=b.w.heap
def Bs.may (b:Bs) (x:Nat):Prop:=b.heap.size≤x∨b.own x
def Ui (w:World) (k:Nat):Nat:=match w.heap[k]? with
 | some (.cells cs _ _)=>cs.size
 | _=>0
theorem sW {w w':World} {k:Nat} (h:w'.heap[k]?=w.heap[k]?):Ui w' k=Ui w k:=by simp only[Ui,h]
theorem iY {w w':World} {k:Nat} {cs cs':Array Value} {ty ty':TypeId} {x x':Nat×Nat} (h:w.heap[k]?=some (.cells cs ty x)) (h':w'.heap[k]?=some (.cells cs' ty' x')):Ui w' k=Ui w k↔cs'.size=cs.size:=by simp only[Ui,h,h']
structure BelowB (w0:Bs) (w:World):Prop where
 rest:Below 0 w0.w w
 blk:∀ k,k<w0.heap.size→¬ w0.own k→w.heap[k]?=w0.heap[k]?
 siz:∀ k,k<w0.heap.size→Ui w k=Ui w0.w k
theorem BelowB.size {w0:Bs} {w:World} (h:BelowB w0 w):w0.heap.size≤w.heap.size:=h.rest.size
theorem BelowB.refl (w:World) (O:Nat→Prop) {g:Nat→Value}:BelowB ⟨w,O,g⟩ w:=⟨Below.refl _ _,fun _ _ _=>rfl,fun _ _=>rfl⟩
theorem BelowB.step {w0:Bs} {w w':World} (h:BelowB w0 w) {n:Nat} (hb:Below n w w') (hk:∀ k,k<w0.heap.size→¬ w0.own k→w'.heap[k]?=w.heap[k]?) (hs:∀ k,k<w0.heap.size→Ui w' k=Ui w k):BelowB w0 w':=
 ⟨h.rest.trans (hb.mono (ax _)),fun k h1 h2=>(hk k h1 h2).trans (h.blk k h1 h2),fun k h1=>(hs k h1).trans (h.siz k h1)⟩
theorem BelowB.grow {w0:Bs} {w w':World} (h:BelowB w0 w) (hb:Below w.heap.size w w'):BelowB w0 w':=
 h.step hb (fun k h1 _=>hb.block k (bn h1 h.size)) fun k h1=>sW (hb.block k (bn h1 h.size))
theorem BelowB.plain {w w':World} (h:BelowB ⟨w,fun _=>False,fun _=>Go.undef⟩ w'):Below w.heap.size w w':=
 ⟨h.rest.os,h.rest.tape,h.rest.output,h.rest.size,fun k hk=>h.blk k hk fun h=>h⟩
def Na (w0:Bs) (R:Nat→Prop) (w:World) (St:Nat→Nat→Prop) (st:List Ob) (β:Nat→Option Nat) (x:Nat):Prop:=w0.may x∧¬ R x∧x<w.heap.size∧(∀ o,¬ St x o)∧∀ (l:Nat) (ob:Ob),st[l]?=some ob→ob.live=true→β l≠some x
def Own (w0:Bs) (R:Nat→Prop) (w:World) (St:Nat→Nat→Prop) (st:List Ob) (β:Nat→Option Nat):Prop:=∃ φ:Nat→Nat→Nat→Prop,
 (∀ (l:Nat) (ob:Ob) (b k:Nat) (c:Cl),st[l]?=some ob→ob.live=true→β l=some b→ob.xs.flatten[k]?=some c→E8 c=true→∃ u,w.cell? ⟨b,k,none⟩=some u∧RdO w St c u (φ l k)) ∧
 (∀ l k x,φ l k x→(∃ ob b,st[l]?=some ob∧ob.live=true∧β l=some b)∧Na w0 R w St st β x) ∧
 ∀ l l' k k' x,φ l k x→φ l' k' x→l=l'∧k=k'
theorem Own.move {w0:Bs} {R R':Nat→Prop} {w w':World} {St St':Nat→Nat→Prop} {st st':List Ob} {β β':Nat→Option Nat} (h:Own w0 R w St st β) (σ:Nat→Nat)
  (hx:∀ x,Na w0 R w St st β x→Na w0 R' w' St' st' β' x∧w'.heap[x]?=w.heap[x]?) (hS:∀ b o,St b o→St' b o) (hw:∀ b o,St b o→w'.cell? ⟨b,o,none⟩=w.cell? ⟨b,o,none⟩)
  (hob:∀ (l':Nat) (ob':Ob) (b k:Nat) (c:Cl),st'[l']?=some ob'→ob'.live=true→β' l'=some b→ob'.xs.flatten[k]?=some c→E8 c=true →
   ∃ ob b0,st[σ l']?=some ob∧ob.live=true∧β (σ l')=some b0∧ob.xs.flatten[k]?=some c∧w'.cell? ⟨b,k,none⟩=w.cell? ⟨b0,k,none⟩)
  (hσ:∀ (l1 l2:Nat) (o1 o2:Ob),st'[l1]?=some o1→st'[l2]?=some o2→o1.live=true→o2.live=true→σ l1=σ l2→l1=l2):Own w0 R' w' St' st' β':=by
 obtain⟨φ,h1,h2,h3⟩:=h
 refine⟨fun l k x=>(∃ ob b,st'[l]?=some ob∧ob.live=true∧β' l=some b)∧φ (σ l) k x, ?_, ?_, ?_⟩
 ·grind [RdO.mono]
 ·grind
 grind
def nm (w0:Bs) (a:Act) (i:Nat):Value:=if i<1000000 then a.tmps.getD i undef else w0.gs (i-1000000)
theorem X6 {w0:Bs} {a:Act} (h:a.tmps.size≤1000000) (hg:w0.gs=fun _=>undef) (i:Nat):nm w0 a i=a.tmps.getD i undef:=by
 unfold nm
 split
 ·rfl
 ·rw[hg]
  have:¬ i<a.tmps.size:=by omega
  simp[this]
theorem ADh {w0:Bs} {a:Act} {i:Nat} (h:¬ i<1000000):nm w0 a i=w0.gs (i-1000000):=aV h
theorem PU {w0:Bs} {a:Act} {i:Nat} (h:i<1000000):nm w0 a i=a.tmps.getD i undef:=bz h
structure Core (w0:Bs) (St0 St:Nat→Nat→Prop) (β:Nat→Option Nat) (s:MS) (a:Act) (w:World):Prop where
 defers:a.defers = []
 size:a.tmps.size=s.n
 lim:s.n≤1000000
 env:∀ i,AVR w St s.st β (BZ s.env i) (nm w0 a i)
 below:BelowB w0 w
 st0:∀ b o,St0 b o→St b o
 stOld:∀ b o,St b o→b<w0.heap.size→¬ w0.own b→St0 b o
 stIn:∀ b o,St b o→b<w.heap.size
 obs:∀ l ob b,s.st[l]?=some ob→ob.live=true→β l=some b→w0.may b∧b<w.heap.size∧ObR w St s.st β ob b
 nil:∀ l ob,s.st[l]?=some ob→ob.live=true→β l=none→ob.xs = []
 inj:∀ l l' ob ob' b,s.st[l]?=some ob→s.st[l']?=some ob'→ob.live=true→ob'.live=true→β l=some b→β l'=some b→l=l'
 sep:∀ l ob b o,s.st[l]?=some ob→ob.live=true→β l=some b→St b o→ob.wr=false∧o<ob.xs.length*ob.sz
 own:Own w0 (fun _=>False) w St s.st β
def Sim (w0:Bs) (St0:Nat→Nat→Prop) (s:MS) (a:Act) (w:World):Prop:=∃ St β,Core w0 St0 St β s a w
theorem RdC.mono {w w':World} {St St':Nat→Nat→Prop} {st st':List Ob} {β β':Nat→Option Nat} (hS:∀ b o,St b o→St' b o) (hw:∀ b o,St b o→w'.cell? ⟨b,o,none⟩=w.cell? ⟨b,o,none⟩)
  (hr:∀ l u,A_ w st β l u→A_ w' st' β' l u) (c:Cl) (u:Value) (h:RdC w St st β c u):RdC w' St' st' β' c u:=by
 cases c with
 | ref l=>exact hr l u h
 | v x=>exact RdD.mono hS hw _ _ h
 | sl xs=>exact RdD.mono hS hw _ _ h
 | ow ty sz xs=>simp[RdC,RdD] at h
theorem RdC.toB {w:World} {St:Nat→Nat→Prop} {st:List Ob} {β:Nat→Option Nat} {c:Cl} {u:Value} (h:RdC w St st β c u):RdB w St st β c u:=by
 cases c with
 | ow ty sz xs=>simp[RdC,RdD] at h
 | _=>exact h
theorem RdB.toC {w:World} {St:Nat→Nat→Prop} {st:List Ob} {β:Nat→Option Nat} {c:Cl} {u:Value} (hc:E8 c=false) (h:RdB w St st β c u):RdC w St st β c u:=by
 cases c with
 | ow ty sz xs=>simp[E8] at hc
 | _=>exact h
theorem RdC.notOw {w:World} {St:Nat→Nat→Prop} {st:List Ob} {β:Nat→Option Nat} {c:Cl} {u:Value} (h:RdC w St st β c u):E8 c=false:=by
 cases c with
 | ow ty sz xs=>simp[RdC,RdD] at h
 | _=>rfl
theorem RdB.mono {w w':World} {St St':Nat→Nat→Prop} {st st':List Ob} {β β':Nat→Option Nat} (hS:∀ b o,St b o→St' b o) (hw:∀ b o,St b o→w'.cell? ⟨b,o,none⟩=w.cell? ⟨b,o,none⟩)
  (hr:∀ l u,A_ w st β l u→A_ w' st' β' l u) (c:Cl) (u:Value) (h:RdB w St st β c u):RdB w' St' st' β' c u:=by
 cases c with
 | ow ty sz xs=>exact h
 | v x=>exact RdC.mono hS hw hr (.v x) u h
 | sl xs=>exact RdC.mono hS hw hr (.sl xs) u h
 | ref l=>exact RdC.mono hS hw hr (.ref l) u h
mutual
theorem AVR.mono {w w':World} {St St':Nat→Nat→Prop} {st st':List Ob} {β β':Nat→Option Nat} (hS:∀ b o,St b o→St' b o) (hw:∀ b o,St b o→w'.cell? ⟨b,o,none⟩=w.cell? ⟨b,o,none⟩)
  (hr:∀ l u,A_ w st β l u→A_ w' st' β' l u) (hp:∀ l i off u,AVR w St st β (.lp l i off) u→AVR w' St' st' β' (.lp l i off) u) :
  ∀ (x:AV) (u:Value),AVR w St st β x u→AVR w' St' st' β' x u
 | .c x,u,h=>by simp only[AVR] at h ⊢; exact RdC.mono hS hw hr x u h
 | .agg xs,u,h=>by
  simp only[AVR] at h ⊢
  obtain⟨us,h1,h2,h3⟩:=h
  refine⟨us,h1,h2,fun k c hk=>?_⟩
  obtain⟨y,hy,hc⟩:=h3 k c hk
  exact⟨y,hy,RdC.mono hS hw hr c y hc⟩
 | .lp l i off,u,h=>hp l i off u h
 | .ip xs,u,h=>by
  simp only[AVR] at h ⊢
  obtain⟨b,off,h1,h2⟩:=h
  exact⟨b,off,h1,RdL.mono hS hw xs b off h2⟩
 | .tup xs,u,h=>by
  simp only[AVR] at h ⊢
  obtain⟨us,h1,h2⟩:=h
  exact⟨us,h1,AVRs.mono hS hw hr hp xs us h2⟩
 | .undef,_,h=>by simp only[AVR] at h ⊢; exact h
 | .un,_,_=>by simp only[AVR]
 | .pin x u0,u,h=>by
  simp only[AVR] at h ⊢
  exact⟨h.1,AVR.mono hS hw hr hp x u h.2⟩
 | .clo f xs,u,h=>by
  simp only[AVR] at h ⊢
  obtain⟨us,h1,h2,h3⟩:=h
  refine⟨us,h1,h2,fun k c hk=>?_⟩
  obtain⟨b,off,hy,hc⟩:=h3 k c hk
  exact⟨b,off,hy,RdL.mono hS hw c b off hc⟩
theorem AVRs.mono {w w':World} {St St':Nat→Nat→Prop} {st st':List Ob} {β β':Nat→Option Nat} (hS:∀ b o,St b o→St' b o) (hw:∀ b o,St b o→w'.cell? ⟨b,o,none⟩=w.cell? ⟨b,o,none⟩)
  (hr:∀ l u,A_ w st β l u→A_ w' st' β' l u) (hp:∀ l i off u,AVR w St st β (.lp l i off) u→AVR w' St' st' β' (.lp l i off) u) :
  ∀ (xs:List AV) (us:List Value),AVRs w St st β xs us→AVRs w' St' st' β' xs us
 | [],us,h=>by simp only[AVRs] at h ⊢; exact h
 | x::xs,us,h=>by
  simp only[AVRs] at h ⊢
  obtain⟨y,ys,h1,h2,h3⟩:=h
  exact⟨y,ys,h1,AVR.mono hS hw hr hp x y h2,AVRs.mono hS hw hr hp xs ys h3⟩
end
theorem ObR.mono {w w':World} {St St':Nat→Nat→Prop} {st st':List Ob} {β β':Nat→Option Nat} (hS:∀ b o,St b o→St' b o) (hw:∀ b o,St b o→w'.cell? ⟨b,o,none⟩=w.cell? ⟨b,o,none⟩)
  (hr:∀ l u,A_ w st β l u→A_ w' st' β' l u) {ob:Ob} {b:Nat} (hb:w'.heap[b]?=w.heap[b]?) (h:ObR w St st β ob b):ObR w' St' st' β' ob b:=by
 obtain⟨cs,h1,h2,h3⟩:=h
 refine⟨cs,by grind,h2,fun k c hk=>?_⟩
 grind [RdB.mono]
theorem cell_of_block {w w':World} {b o:Nat} (h:w'.heap[b]?=w.heap[b]?):w'.cell? ⟨b,o,none⟩=w.cell? ⟨b,o,none⟩:=by simp[World.cell?,h]
theorem Own.grow {w0:Bs} {R R':Nat→Prop} {w w':World} {St St':Nat→Nat→Prop} {st:List Ob} {β:Nat→Option Nat} (h:Own w0 R w St st β) (hb:Below w.heap.size w w')
  (hS:∀ b o,St b o→St' b o) (hS':∀ b o,St' b o→b<w.heap.size→St b o) (hin:∀ b o,St b o→b<w.heap.size)
  (hob:∀ (l:Nat) (ob:Ob) (b:Nat),st[l]?=some ob→ob.live=true→β l=some b→b<w.heap.size) (hR:∀ x,x<w.heap.size→R' x→R x):Own w0 R' w' St' st β:=by
 refine h.move id (fun x hx=>?_) hS (fun b o hbo=>cell_of_block (hb.block b (hin b o hbo))) (fun l ob b k c h1 h2 h3 h4 h5=>?_) (fun _ _ _ _ _ _ _ _ e=>e)
 ·obtain⟨q1,q2,q3,q4,q5⟩:=hx
  exact⟨⟨q1,fun h=>q2 (hR x q3 h),bn q3 hb.size,fun o ho=>q4 o (hS' x o ho q3),q5⟩,hb.block x q3⟩
 ·exact⟨ob,b,h1,h2,h3,h4,cell_of_block (hb.block b (hob l ob b h1 h2 h3))⟩
theorem Core.grow {w0:Bs} {St0 St:Nat→Nat→Prop} {β:Nat→Option Nat} {s:MS} {a:Act} {w w':World} (h:Core w0 St0 St β s a w) (hb:Below w.heap.size w w')
  {St':Nat→Nat→Prop} (hS:∀ b o,St b o→St' b o) (hS':∀ b o,St' b o→b<w.heap.size→St b o) (hin:∀ b o,St' b o→b<w'.heap.size):Core w0 St0 St' β s a w':=by
 have hw0:w0.heap.size≤w.heap.size:=h.below.size
 have hblk:∀ k,k<w.heap.size→w'.heap[k]?=w.heap[k]?:=hb.block
 have hw:∀ b o,St b o→w'.cell? ⟨b,o,none⟩=w.cell? ⟨b,o,none⟩:=fun b o hbo=>cell_of_block (hblk b (h.stIn b o hbo))
 have hr:∀ l u,A_ w s.st β l u→A_ w' s.st β l u:=by
  intro l u hu
  unfold A_ at hu ⊢
  cases hl:s.st[l]? with
  | none=>grind
  | some ob =>
   grind
 have hp:∀ l i off u,AVR w St s.st β (.lp l i off) u→AVR w' St' s.st β (.lp l i off) u:=by
  intro l i off u hu; simpa only[AVR] using hu
 exact {
  defers:=h.defers
  size:=h.size
  lim:=h.lim
  env:=fun i=>AVR.mono hS hw hr hp _ _ (h.env i)
  below:=h.below.grow hb
  st0:=fun b o hbo=>hS b o (h.st0 b o hbo)
  stOld:=fun b o hbo hlt=>h.stOld b o (hS' b o hbo (bn hlt hw0)) hlt
  stIn:=hin
  obs:=fun l ob b hl hlive hβ=>by
   obtain⟨h1,h2,h3⟩:=h.obs l ob b hl hlive hβ
   grind [bn,ObR.mono]
  nil:=h.nil
  inj:=h.inj
  sep:=fun l ob b o hl hlive hβ hbo=>h.sep l ob b o hl hlive hβ (hS' b o hbo (h.obs l ob b hl hlive hβ).2.1)
  own:=h.own.grow hb hS hS' h.stIn (fun l ob b h1 h2 h3=>(h.obs l ob b h1 h2 h3).2.1) (fun _ _ h=>h) }
theorem Core.put {w0:Bs} {St0 St:Nat→Nat→Prop} {β:Nat→Option Nat} {s:MS} {a:Act} {w:World} (h:Core w0 St0 St β s a w) (d:Option Nat) {x:AV} {u:Value} (hx:AVR w St s.st β x u) :
  Core w0 St0 St β (s.put d x) (a.put d u) w:=by
 cases d with
 | none=>exact h
 | some d =>
  by_cases hd:d<s.n
  ·have e1:s.put (some d) x=⟨s.n,(d,x)::s.env,s.st⟩:=by simp[MS.put,hd]
   rw[e1]
   exact {
    defers:=h.defers
    size:=by simpa [Act.put] using h.size
    lim:=h.lim
    env:=fun i=>by
     simp only[BZ,Act.put]
     by_cases hi:d=i
     ·subst hi
      have:d<a.tmps.size:=by rw[h.size]; exact hd
      rw[PU (bn hd h.lim)]
      simpa [this] using hx
     ·have:=h.env i
      unfold nm at this ⊢
      simpa [hi,Array.getElem?_setIfInBounds] using this
    below:=h.below,st0:=h.st0,stOld:=h.stOld,stIn:=h.stIn,obs:=h.obs,nil:=h.nil,inj:=h.inj,sep:=h.sep,own:=h.own }
  ·have e1:s.put (some d) x=s:=by simp[MS.put,hd]
   rw[e1]
   have e2:a.put (some d) u=a:=by
    have:¬ d<a.tmps.size:=by rw[h.size]; exact hd
    cases a
    simp only[Act.put,Act.mk.injEq,yY]
    simp only at this
    exact Array.setIfInBounds_eq_of_size_le (by omega)
   grind
theorem AVR.un {w:World} {St:Nat→Nat→Prop} {st:List Ob} {β:Nat→Option Nat} {u:Value}:AVR w St st β .un u:=by simp only[AVR]
def AZ (P:Program) (t:TypeId):Option Nat:=(P.info? t).map (·.size)
def BR (P:Program) (t:TypeId):Option Bool:=(P.underlying t).map fun d=>match d with | .struct _ | .array _ _=>true | _=>false
def PV (P:Program) (t:TypeId):Option (List Value):=(P.info? t).bind fun i=>i.zero.map fun z=>z.cells.toList
def sZ (zs:List Value):Bool:=zs.all O9
def TQ (P:Program) (t:TypeId):Option (List Cl):=match PV P t with
 | some zs=>if sZ zs then some (zs.map .v) else none
 | none=>none
theorem PW {P:Program} {t:TypeId} {cs:List Cl} (h:TQ P t=some cs):∃ zs,PV P t=some zs∧sZ zs=true∧cs=zs.map .v:=by
 unfold TQ at h
 grind
def AB (P:Program) (t:TypeId) (f:Nat):Option (Nat×TypeId):=match P.underlying t with
 | some (.struct fs)=>(fs[f]?).map fun x=>(x.offset,x.type)
 | _=>none
def DZ (P:Program) (t:TypeId):Option TypeId:=match P.underlying t with
 | some (.slice e)=>some e
 | _=>none
theorem Ha {P:Program} {t:TypeId} {n:Nat} (h:AZ P t=some n) (w:World):(sizeOf t).run P w = .ok n w:=by
 unfold AZ at h
 cases hi:P.info? t with
 | none=>grind
 | some i=>simp[hi] at h; simp[sizeOf,typeInfo,hi,h]
theorem TR {P:Program} {t:TypeId} {g:Bool} (h:BR P t=some g) (w:World):(isAgg t).run P w = .ok g w:=by
 unfold BR at h
 cases hu:P.underlying t with
 | none=>grind
 | some d =>
  simp only[hu,bP,ah] at h
  subst h
  simp only[isAgg,Sem.run_bind,run_underlying hu,Result.andThen_ok]
  cases d<;>rfl
theorem TS {P:Program} {t:TypeId} {cs:List Value} (h:PV P t=some cs) (w:World):∃ z,(zeroValue t).run P w = .ok z w∧z.cells.toList=cs:=by
 unfold PV at h
 cases hi:P.info? t with
 | none=>grind
 | some i =>
  cases hz:i.zero with
  | none=>grind
  | some z=>simp[hi,hz] at h; exact⟨z,by simp[zeroValue,typeInfo,hi,hz],h⟩
def U0 (v:Value):AV:=match v with
 | .agg cs=>.agg (cs.toList.map .v)
 | .tuple vs=>if vs.toList.isEmpty then .undef else .un
 | v=>.c (.v v)
def iZ (v:Value):Bool:=match v with
 | .agg cs=>cs.toList.all O9
 | .tuple _=>true
 | v=>O9 v
def Ar:Operand→Bool
 | .tmp t=>decide (t<1000000)
 | .const v=>iZ v
 | _=>true
def unpin:AV→AV
 | .pin x _=>x
 | .c x=>.c x
 | .agg xs=>.agg xs
 | .lp l i off=>.lp l i off
 | .ip xs=>.ip xs
 | .tup xs=>.tup xs
 | .undef=>.undef
 | .un=>.un
 | .clo f xs=>.clo f xs
theorem AVR.unpin {w:World} {St:Nat→Nat→Prop} {st:List Ob} {β:Nat→Option Nat} {x:AV} {u:Value} (h:AVR w St st β x u):AVR w St st β (unpin x) u:=by
 cases x with
 | pin x u0=>simp only[AVR] at h; exact h.2
 | _=>exact h
def EC (s:MS):Operand→AV
 | .tmp t=>unpin (BZ s.env t)
 | .const v=>U0 v
 | .global g=>.c (.v (.pointer (some ⟨g,0,none⟩)))
 | .func f=>.c (.v (.func (.func f) #[] #[]))
theorem yZ {w:World} {St:Nat→Nat→Prop} {st:List Ob} {β:Nat→Option Nat} (v:Value) (hv:iZ v=true):AVR w St st β (U0 v) v:=by
 cases v with
 | agg cs =>
  simp only[U0,AVR]
  simp only[iZ] at hv
  refine⟨cs.toList,by simp,by simp,fun k c hk=>?_⟩
  simp only[lD,yQ] at hk
  obtain⟨y,hy,rfl⟩:=hk
  refine⟨y,hy, ?_⟩
  simp only[RdC,RdD,true_and]
  grind
 | tuple vs =>
  simp only[U0]
  split
  ·rename_i h
   have:vs = #[]:=by cases vs; simp_all
   subst this
   simp only[AVR]; rfl
  ·simp only[AVR]
 | _=>simp only[U0,AVR,RdC,RdD,true_and]; exact hv
theorem Bl {w0:Bs} {St0 St:Nat→Nat→Prop} {β:Nat→Option Nat} {s:MS} {a:Act} {w:World} (h:Core w0 St0 St β s a w) (x:Operand) (hx:Ar x=true):AVR w St s.st β (EC s x) (a.eval x):=by
 cases x with
 | tmp t =>
  have:=h.env t
  rw[PU (by simpa [Ar] using hx)] at this
  exact this.unpin
 | const v=>exact yZ v hx
 | global g=>simp[EC,AVR,RdC,RdD,Act.eval,O9]
 | func f=>simp[EC,AVR,RdC,RdD,Act.eval,O9]
def cellsA:AV→Option (List Cl)
 | .c x=>some [x]
 | .agg xs=>some xs
 | _=>none
theorem Qa {w:World} {St:Nat→Nat→Prop} {st:List Ob} {β:Nat→Option Nat} {x:AV} {u:Value} {cs:List Cl} (h:AVR w St st β x u) (hc:cellsA x=some cs) :
  u.cells.toList.length=cs.length∧∀ (k:Nat) (c:Cl),cs[k]?=some c→∃ y,u.cells.toList[k]?=some y∧RdC w St st β c y:=by
 cases x with
 | c x =>
  simp only[cellsA,ah] at hc
  subst hc
  simp only[AVR] at h
  have h1:u.oneCell'=true:=by
   cases x with
   | v y=>simp only[RdC,RdD] at h; grind [wE]
   | sl xs=>simp only[RdC,RdD] at h; obtain⟨a,cap,rfl,_⟩:=h; rfl
   | ref l=>simp only[RdC,A_] at h; grind
   | ow ty sz xs=>simp[RdC,RdD] at h
  have h2:u.cells = #[u]:=by cases u<;>first | rfl | simp[Value.oneCell'] at h1
  grind
 | agg xs =>
  simp only[cellsA,ah] at hc
  subst hc
  simp only[AVR] at h
  obtain⟨us,rfl,h2,h3⟩:=h
  exact⟨by simpa [Value.cells] using h2,fun k c hk=>by simpa [Value.cells] using h3 k c hk⟩
 | _=>simp[cellsA] at hc
theorem RdC.one {w:World} {St:Nat→Nat→Prop} {st:List Ob} {β:Nat→Option Nat} {x:Cl} {u:Value} (h:RdC w St st β x u):u.oneCell'=true:=by
 cases x with
 | v y=>simp only[RdC,RdD] at h; grind [wE]
 | sl xs=>simp only[RdC,RdD] at h; obtain⟨a,cap,rfl,_⟩:=h; rfl
 | ref l=>simp only[RdC,A_] at h; grind
 | ow ty sz xs=>simp[RdC,RdD] at h
theorem RdB.one {w:World} {St:Nat→Nat→Prop} {st:List Ob} {β:Nat→Option Nat} {x:Cl} {u:Value} (h:RdB w St st β x u):u.oneCell'=true:=by
 cases x with
 | ow ty sz xs=>exact h
 | v y=>exact RdC.one (w:=w) (St:=St) (st:=st) (β:=β) (x:=.v y) h
 | sl xs=>exact RdC.one (w:=w) (St:=St) (st:=st) (β:=β) (x:=.sl xs) h
 | ref l=>exact RdC.one (w:=w) (St:=St) (st:=st) (β:=β) (x:=.ref l) h
def CO (st:List Ob) (l:Nat):Option Ob:=match st[l]? with
 | some ob=>if ob.live then some ob else none
 | none=>none
theorem Aw {st:List Ob} {l:Nat} {ob:Ob} (h:CO st l=some ob):st[l]?=some ob∧ob.live=true:=by
 unfold CO at h
 grind
def Q7 (st:List Ob):Cl→Option (List (List Cl))
 | .v (.slice none 0 0)=>some []
 | .v _=>none
 | .sl xs=>some xs
 | .ref l=>(CO st l).map (·.xs)
 | .ow _ _ _=>none
def fzC (st:List Ob):Cl→Option Cl
 | .v (.slice none 0 0)=>some (.sl [])
 | .v (.slice _ _ _)=>none
 | .v x=>some (.v x)
 | .sl xs=>some (.sl xs)
 | .ref l=>match CO st l with
  | some ob=>if F5 ob.xs then some (.sl ob.xs) else none
  | none=>none
 | .ow _ _ _=>none
def O5 (st:List Ob) (l:Nat):List Ob:=st.modify l fun ob=>{ ob with wr:=false }
def nS (st:List Ob):Cl→List Ob
 | .ref l=>O5 st l
 | _=>st
theorem EL {xs:List (List Cl)} {sz:Nat} (hl:∀ x∈xs,x.length=sz):∀ (i j:Nat) (x:List Cl) (c:Cl),xs[i]?=some x→x[j]?=some c→xs.flatten[i*sz+j]?=some c:=by
 induction xs with
 | nil=>grind
 | cons x0 xs ih =>
  intro i j x c hi hj
  have h0:x0.length=sz:=hl x0 (by simp)
  simp only[bT]
  cases i with
  | zero =>
   grind
  | succ i =>
   grind
theorem Dp {xs:List (List Cl)} {sz:Nat} (hl:∀ x∈xs,x.length=sz):xs.flatten.length=xs.length*sz:=by
 induction xs with
 | nil=>simp
 | cons x xs ih =>
  grind
theorem PX {w:World} {St:Nat→Nat→Prop} {st:List Ob} {β:Nat→Option Nat} {c:Cl} {u:Value} (hp:AO c=true) (h:RdC w St st β c u):RdD w St c u:=by
 cases c with
 | ref l=>simp[AO] at hp
 | v x=>exact h
 | sl xs=>exact h
 | ow ty sz xs=>simp[AO] at hp
theorem F6 {c:Cl} (hp:AO c=true):E8 c=false:=by
 cases c<;>simp_all [AO,E8]
theorem U1 {w:World} {st:List Ob} {β:Nat→Option Nat} {l:Nat} (l':Nat) (u:Value):A_ w (O5 st l) β l' u↔A_ w st β l' u:=by
 unfold A_ O5
 grind
theorem Core.freeze {w0:Bs} {St0 St:Nat→Nat→Prop} {β:Nat→Option Nat} {s:MS} {a:Act} {w:World} (h:Core w0 St0 St β s a w) (l:Nat) {ob:Ob} (hl:CO s.st l=some ob) (hp:F5 ob.xs=true) :
  ∃ St',Core w0 St0 St' β ⟨s.n,s.env,O5 s.st l⟩ a w∧(∀ b o,St b o→St' b o)∧(∀ u,A_ w s.st β l u→RdD w St' (.sl ob.xs) u)∧∀ b,β l=some b→(∀ x∈ob.xs,x.length=ob.sz)∧RdE w St' ob.xs b 0:=by
 obtain⟨hl1,hlive⟩:=Aw hl
 refine⟨fun b o=>St b o∨(β l=some b∧o<ob.xs.length*ob.sz), ?_,fun b o hbo=>.inl hbo, ?_, ?_⟩
 ·have hget:∀ l' ob',(O5 s.st l)[l']?=some ob'→∃ ob'',s.st[l']?=some ob''∧ob'.ty=ob''.ty∧ob'.sz=ob''.sz∧ob'.xs=ob''.xs∧ob'.live=ob''.live∧(l=l'→ob'.wr=false)∧(l≠l'→ob'=ob''):=by
   intro l' ob' h'
   unfold O5 at h'
   rw[List.getElem?_modify] at h'
   simp only[Option.map_eq_map,yQ] at h'
   obtain⟨ob'',h1,h2⟩:=h'
   refine⟨ob'',h1, ?_⟩
   by_cases e:l=l'
   ·grind
   ·grind
  have hS:∀ b o,St b o→St b o∨(β l=some b∧o<ob.xs.length*ob.sz):=fun b o hbo=>.inl hbo
  have hr:∀ l' u,A_ w s.st β l' u→A_ w (O5 s.st l) β l' u:=fun l' u hu=>(U1 l' u).2 hu
  have hp':∀ l' i off u,AVR w St s.st β (.lp l' i off) u→AVR w (fun b o=>St b o∨(β l=some b∧o<ob.xs.length*ob.sz)) (O5 s.st l) β (.lp l' i off) u:=by
   intro l' i off u hu
   simp only[AVR] at hu ⊢
   cases hq:(O5 s.st l)[l']? with
   | none =>
    unfold O5 at hq
    grind
   | some ob' =>
    grind
  exact {
   defers:=h.defers
   size:=h.size
   lim:=h.lim
   env:=fun i=>AVR.mono hS (fun _ _ _=>rfl) hr hp' _ _ (h.env i)
   below:=h.below
   st0:=fun b o hbo=>.inl (h.st0 b o hbo)
   stOld:=fun b o hbo hlt hno=>by
    rcases hbo with hbo | ⟨hβ,_⟩
    ·exact h.stOld b o hbo hlt hno
    ·rcases(h.obs l ob b hl1 hlive hβ).1 with h' | h'
     ·omega
     grind
   stIn:=fun b o hbo=>by
    rcases hbo with hbo | ⟨hβ,_⟩
    ·exact h.stIn b o hbo
    ·exact(h.obs l ob b hl1 hlive hβ).2.1
   obs:=fun l' ob' b hl' hlive' hβ=>by
    obtain⟨ob'',h1,h2,h3,h4,h5,_⟩:=hget l' ob' hl'
    obtain⟨h6,h7,h8⟩:=h.obs l' ob'' b h1 (by grind) hβ
    refine⟨h6,h7, ?_⟩
    obtain⟨cs,g1,g2,g3⟩:=ObR.mono hS (fun _ _ _=>rfl) hr rfl h8
    exact⟨cs,by grind,by grind,by grind⟩
   nil:=fun l' ob' hl' hlive' hβ=>by
    obtain⟨ob'',h1,_,_,h4,h5,_⟩:=hget l' ob' hl'
    rw[h4]; exact h.nil l' ob'' h1 (by grind) hβ
   inj:=fun l1 l2 o1 o2 b h1 h2 h3 h4 h5 h6=>by
    obtain⟨p1,q1,_,_,_,r1,_⟩:=hget l1 o1 h1
    obtain⟨p2,q2,_,_,_,r2,_⟩:=hget l2 o2 h2
    exact h.inj l1 l2 p1 p2 b q1 q2 (by grind) (by grind) h5 h6
   sep:=fun l' ob' b o hl' hlive' hβ hbo=>by
    obtain⟨ob'',h1,_,h3,h4,h5,h6,h7⟩:=hget l' ob' hl'
    rcases hbo with hbo | ⟨hβl,ho⟩
    ·have:=h.sep l' ob'' b o h1 (by grind) hβ hbo
     grind
    ·have e:l=l':=h.inj l l' ob ob'' b hl1 h1 hlive (by grind) hβl hβ
     grind
   own:=by
    refine h.own.move id (fun x hx=>⟨⟨hx.1,hx.2.1,hx.2.2.1,fun o ho=>?_,fun l' o' hl' hlv=>by
     obtain⟨o2,g1,_,_,_,g5,_⟩:=hget l' o' hl'
     exact hx.2.2.2.2 l' o2 g1 (by grind)⟩,rfl⟩) hS (fun _ _ _=>rfl) (fun l' ob' b k c h1 h2 h3 h4 h5=>?_) (fun _ _ _ _ _ _ _ _ e=>e)
    ·rcases ho with ho | ⟨hβ,_⟩
     ·exact hx.2.2.2.1 o ho
     ·exact hx.2.2.2.2 l ob hl1 hlive hβ
    grind }
 ·intro u hu
  unfold A_ at hu
  simp only[hl1] at hu
  have hu2:=hu.2 hlive
  cases hβ:β l with
  | none =>
   simp only[hβ] at hu2
   obtain⟨rfl,hx⟩:=hu2
   simp only[RdD]
   exact⟨none,0,by simp[hx],by simp[hx],by simp[maxLen],⟨0,by simp[hx]⟩,.inl hx⟩
  | some b =>
   simp only[hβ] at hu2
   obtain⟨cap,cs,rfl,h2,h3,h4,h5⟩:=hu2
   obtain⟨_,_,cs',g1,g2,g3⟩:=h.obs l ob b hl1 hlive hβ
   simp only[RdD]
   refine⟨some ⟨b,0,none⟩,cap,rfl,h2,h3,⟨ob.sz,g2⟩,.inr ⟨b,0,rfl, ?_⟩⟩
   refine RdE.mk ob.sz g2 fun i x hi=>RdL.mk fun j c hj=>?_
   have hf:=EL g2 i j x c hi hj
   obtain⟨v,hv,hc⟩:=g3 _ c hf
   have hlt:i*ob.sz+j<ob.xs.length*ob.sz:=by
    rw[← Dp g2]
    rcases bI (i*ob.sz+j) ob.xs.flatten.length with h' | h'
    ·exact h'
    ·grind
   have hpc:AO c=true:=by
    have h1:CB x=true:=aF.1 hp x (aY hi)
    exact aF.1 h1 c (aY hj)
   refine⟨.inr ⟨rfl,by omega⟩,v, ?_, ?_⟩
   ·rw[World.cell?,g1]
    grind
   ·exact RdD.mono (fun b o hbo=>.inl hbo) (fun _ _ _=>rfl) _ _ (PX hpc (hc.toC (F6 hpc)))
 ·intro b hβ
  obtain⟨_,_,cs',g1,g2,g3⟩:=h.obs l ob b hl1 hlive hβ
  refine⟨g2, ?_⟩
  refine RdE.mk ob.sz g2 fun i x hi=>RdL.mk fun j c hj=>?_
  have hf:=EL g2 i j x c hi hj
  obtain⟨v,hv,hc⟩:=g3 _ c hf
  have hlt:i*ob.sz+j<ob.xs.length*ob.sz:=by
   rw[← Dp g2]
   rcases bI (i*ob.sz+j) ob.xs.flatten.length with h' | h'
   ·exact h'
   ·grind
  have hpc:AO c=true:=by
   have h1:CB x=true:=aF.1 hp x (aY hi)
   exact aF.1 h1 c (aY hj)
  refine⟨.inr ⟨hβ,by omega⟩,v, ?_, ?_⟩
  ·rw[World.cell?,g1]
   grind
  ·exact RdD.mono (fun b o hbo=>.inl hbo) (fun _ _ _=>rfl) _ _ (PX hpc (hc.toC (F6 hpc)))
end Go.Vm
