/- A part. -/
import Derived.WalkKit
set_option linter.unusedSimpArgs false
set_option linter.unusedVariables false
namespace Go.Vm
theorem ae:type_of% @List.length_map:=@List.length_map
theorem ag:type_of% @Option.some.injEq:=@Option.some.injEq
theorem ah:type_of% @List.getElem?_append_left:=@List.getElem?_append_left
theorem ai:type_of% @List.getElem?_cons_zero:=@List.getElem?_cons_zero
theorem aj:type_of% @Option.isSome_none:=@Option.isSome_none
theorem ak:type_of% @List.getElem?_append_right:=@List.getElem?_append_right
theorem au:type_of% @List.getElem_mem:=@List.getElem_mem
theorem ax:type_of% @bne_self_eq_false:=@bne_self_eq_false
theorem ay:type_of% @Option.getD_some:=@Option.getD_some
theorem az:type_of% @List.getElem?_eq_some_iff:=@List.getElem?_eq_some_iff
theorem aA:type_of% @List.all_eq_true:=@List.all_eq_true
theorem aB:type_of% @beq_self_eq_true:=@beq_self_eq_true
theorem aC:type_of% @Bool.false_and:=@Bool.false_and
theorem aF:type_of% @List.drop_eq_getElem_cons:=@List.drop_eq_getElem_cons
theorem aG:type_of% @Option.isSome_some:=@Option.isSome_some
theorem aH:type_of% @Bool.and_true:=@Bool.and_true
theorem aI:type_of% @Bool.and_eq_true:=@Bool.and_eq_true
theorem aJ:type_of% @Nat.zero_le:=@Nat.zero_le
theorem aK:type_of% @if_false:=@if_false
theorem aN:type_of% @Bool.false_eq_true:=@Bool.false_eq_true
theorem aO:type_of% @List.length_append:=@List.length_append
theorem aP:type_of% @List.drop_length:=@List.drop_length
theorem aQ:type_of% @Nat.le_refl:=@Nat.le_refl
theorem aS:type_of% @List.all_cons:=@List.all_cons
theorem aT:type_of% @List.mem_of_getElem?:=@List.mem_of_getElem?
theorem aU:type_of% @Bool.true_and:=@Bool.true_and
theorem aV:type_of% @List.getElem?_take:=@List.getElem?_take
theorem aW:type_of% @List.getElem?_eq_getElem:=@List.getElem?_eq_getElem
theorem aX:type_of% @Nat.lt_or_ge:=@Nat.lt_or_ge
theorem aY:type_of% @List.append_assoc:=@List.append_assoc
theorem aZ:type_of% @List.all_nil:=@List.all_nil
theorem bf:type_of% @List.take_succ_cons:=@List.take_succ_cons
theorem bi:type_of% @Array.getElem?_eq_some_iff:=@Array.getElem?_eq_some_iff
theorem bn:type_of% @Nat.lt_of_lt_of_le:=@Nat.lt_of_lt_of_le
theorem bu:type_of% @List.length_set:=@List.length_set
theorem bz:type_of% @List.eq_nil_of_length_eq_zero:=@List.eq_nil_of_length_eq_zero
theorem bC:type_of% @if_true:=@if_true
theorem bD:type_of% @Bool.not_false:=@Bool.not_false
theorem bF:type_of% @Bool.and_false:=@Bool.and_false
theorem bG:type_of% @List.take_zero:=@List.take_zero
theorem bH:type_of% @Prod.mk.injEq:=@Prod.mk.injEq
theorem bI:type_of% @Array.getElem?_append_left:=@Array.getElem?_append_left
theorem bJ:type_of% @Bool.not_true:=@Bool.not_true
theorem bK:type_of% @List.getElem?_set:=@List.getElem?_set
theorem bM:type_of% @List.flatten_cons:=@List.flatten_cons
theorem bP:type_of% @List.nil_append:=@List.nil_append
theorem bQ:type_of% @List.length_cons:=@List.length_cons
theorem bT:type_of% @List.getD_eq_getElem?_getD:=@List.getD_eq_getElem?_getD
theorem bU:type_of% @List.append_nil:=@List.append_nil
theorem bV:type_of% @List.all_append:=@List.all_append
theorem bW:type_of% @List.take_append_drop:=@List.take_append_drop
theorem bY:type_of% @List.getElem?_drop:=@List.getElem?_drop
theorem bZ:type_of% @List.set_set:=@List.set_set
theorem cu:type_of% @Option.map_eq_some_iff:=@Option.map_eq_some_iff
theorem cO:type_of% @List.mem_map:=@List.mem_map
theorem cZ:type_of% @List.getElem?_map:=@List.getElem?_map
theorem df:type_of% @List.getElem?_eq_none:=@List.getElem?_eq_none
theorem dh:type_of% @List.getElem?_toArray:=@List.getElem?_toArray
theorem di:type_of% @Option.some.inj:=@Option.some.inj
theorem dm:type_of% @decide_eq_true_eq:=@decide_eq_true_eq
theorem eu:type_of% @List.sizeOf_lt_of_mem:=@List.sizeOf_lt_of_mem
theorem ED:type_of% @if_pos:=@if_pos
theorem U8:type_of% @List.mem_append:=@List.mem_append
theorem Vf:type_of% @List.length_nil:=@List.length_nil
theorem mP:type_of% @Array.getD_eq_getD_getElem?:=@Array.getD_eq_getD_getElem?
theorem Eh:type_of% @if_neg:=@if_neg
theorem Pj:type_of% @Nat.add_mul:=@Nat.add_mul
theorem jU:type_of% @List.length_replicate:=@List.length_replicate
theorem U9:type_of% @List.map_cons:=@List.map_cons
theorem mQ:type_of% @List.length_filterMap_le:=@List.length_filterMap_le
theorem ZV:type_of% @List.length_take:=@List.length_take
theorem TZ:type_of% @Bool.true_or:=@Bool.true_or
theorem Yk:type_of% @List.map_append:=@List.map_append
theorem mV:type_of% @List.getElem?_cons_succ:=@List.getElem?_cons_succ
theorem XQ:type_of% @Bool.false_or:=@Bool.false_or
theorem fA:type_of% @List.cons_append:=@List.cons_append
theorem fB:type_of% @List.flatten_nil:=@List.flatten_nil
theorem Vg:type_of% @Nat.sub_self:=@Nat.sub_self
theorem mW:type_of% @List.set_append_right:=@List.set_append_right
theorem Xz:type_of% @List.mem_cons:=@List.mem_cons
theorem lC:type_of% @Array.toList_append:=@Array.toList_append
theorem gW:type_of% @Nat.lt_succ_self:=@Nat.lt_succ_self
theorem jV:type_of% @List.size_toArray:=@List.size_toArray
theorem mX:type_of% @Nat.mul_le_mul_right:=@Nat.mul_le_mul_right
theorem mY:type_of% @Nat.pow_le_pow_right:=@Nat.pow_le_pow_right
theorem qg:type_of% @Array.getElem?_replicate:=@Array.getElem?_replicate
theorem gX:type_of% @Nat.zero_lt_one:=@Nat.zero_lt_one
theorem fC:type_of% @List.drop_left:=@List.drop_left
theorem og:type_of% @List.pairwise_append:=@List.pairwise_append
theorem Yl:type_of% @Nat.zero_add:=@Nat.zero_add
theorem qh:type_of% @List.Perm.append_right:=@List.Perm.append_right
theorem jW:type_of% @Bool.or_eq_true:=@Bool.or_eq_true
theorem oh:type_of% @List.length_pos_iff:=@List.length_pos_iff
theorem ZW:type_of% @Nat.le_trans:=@Nat.le_trans
theorem jX:type_of% @List.drop_drop:=@List.drop_drop
theorem sQ:type_of% @Int.eq_ofNat_of_zero_le:=@Int.eq_ofNat_of_zero_le
theorem oq:type_of% @List.mem_singleton:=@List.mem_singleton
theorem qi:type_of% @List.mem_of_mem_take:=@List.mem_of_mem_take
theorem mZ:type_of% @List.length_drop:=@List.length_drop
theorem qj:type_of% @List.map_congr_left:=@List.map_congr_left
theorem vC:type_of% @Array.mapM_eq_mapM_toList:=@Array.mapM_eq_mapM_toList
theorem sS:type_of% @List.length_filter_le:=@List.length_filter_le
theorem mf:type_of% @Int.natCast_one:=@Int.natCast_one
theorem sU:type_of% @List.mem_iff_getElem?:=@List.mem_iff_getElem?
theorem sV:type_of% @List.getElem?_modify:=@List.getElem?_modify
theorem vF:type_of% @decide_eq_false_iff_not:=@decide_eq_false_iff_not
theorem mg:type_of% @List.take_left:=@List.take_left
theorem sW:type_of% @List.flatten_append:=@List.flatten_append
theorem vG:type_of% @List.take_of_length_le:=@List.take_of_length_le
theorem fD:type_of% @Array.ext':=@Array.ext'
theorem ql:type_of% @List.mem_flatten:=@List.mem_flatten
theorem qm:type_of% @Option.bind_some:=@Option.bind_some
theorem lF:type_of% @List.map_nil:=@List.map_nil
theorem lG:type_of% @Nat.add_zero:=@Nat.add_zero
theorem vH:type_of% @Nat.le_of_ble_eq_true:=@Nat.le_of_ble_eq_true
theorem ou:type_of% @List.drop_zero:=@List.drop_zero
theorem xJ:type_of% @List.mem_or_eq_of_mem_set:=@List.mem_or_eq_of_mem_set
theorem vI:type_of% @List.mem_iff_getElem:=@List.mem_iff_getElem
theorem xK:type_of% @List.eq_of_mem_replicate:=@List.eq_of_mem_replicate
theorem mi:type_of% @Nat.sub_zero:=@Nat.sub_zero
theorem qo:type_of% @List.Perm.refl:=@List.Perm.refl
theorem xM:type_of% @List.length_eq_one_iff:=@List.length_eq_one_iff
theorem sZ:type_of% @Option.map_some:=@Option.map_some
theorem ZX:type_of% @and_true:=@and_true
theorem vJ:type_of% @of_decide_eq_true:=@of_decide_eq_true
theorem su:type_of% @List.mem_range:=@List.mem_range
theorem tC:type_of% @Bool.or_false:=@Bool.or_false
theorem gY:type_of% @and_self:=@and_self
theorem tH:type_of% @Nat.add_assoc:=@Nat.add_assoc
theorem qp:type_of% @Int.le_refl:=@Int.le_refl
theorem lH:type_of% @true_and:=@true_and
open Go.RowKit
inductive Cl where
 | v (x:Value)
 | sl (xs:List (List Cl))
 | ref (l:Nat)
 | ow (ty:TypeId) (sz:Nat) (xs:List (List Cl))
 deriving Inhabited
inductive AV where
 | c (x:Cl)
 | agg (xs:List Cl)
 | lp (l i off:Nat)
 | ip (xs:List Cl)
 | tup (xs:List AV)
 | undef
 | un
 | pin (x:AV) (u:Value)
 | clo (f:FuncId) (xs:List (List Cl))
 deriving Inhabited
structure Ob where
 ty:TypeId
 sz:Nat
 xs:List (List Cl)
 wr:Bool
 live:Bool
 deriving Inhabited
structure MS where
 n:Nat
 env:List (Nat×AV)
 st:List Ob
def BK:List (Nat×AV)→Nat→AV
 | [],_=>.un
 | (k,v)::r,i=>if k=i then v else BK r i
def MS.put (s:MS) (d:Option Nat) (v:AV):MS:=match d with
 | some d=>if d<s.n then⟨s.n,(d,v)::s.env,s.st⟩ else s
 | none=>s
def Kz:Value→Bool
 | .agg _ | .tuple _=>false
 | .int k n=>(Lit.int k n).wf
 | .string s=>decide (s.size≤maxLen)
 | _=>true
theorem ZY {x:Value} (h:Kz x=true):x.oneCell'=true:=by cases x<;>simp_all [Kz,Value.oneCell']
mutual
def RdD (w:World) (St:Nat→Nat→Prop):Cl→Value→Prop
 | .v x,u=>u=x∧Kz x=true
 | .ref _,_=>False
 | .ow _ _ _,_=>False
 | .sl xs,u=>∃ a cap,u = .slice a xs.length cap∧xs.length≤cap∧cap≤maxLen∧(∃ sz,∀ x∈xs,x.length=sz)∧(xs = []∨∃ b off,a=some ⟨b,off,none⟩∧RdE w St xs b off)
def RdE (w:World) (St:Nat→Nat→Prop):List (List Cl)→Nat→Nat→Prop
 | [],_,_=>True
 | x::xs,b,off=>RdL w St x b off∧RdE w St xs b (off+x.length)
def RdL (w:World) (St:Nat→Nat→Prop):List Cl→Nat→Nat→Prop
 | [],_,_=>True
 | c::cs,b,off=>(St b off∧∃ u,w.cell? ⟨b,off,none⟩=some u∧RdD w St c u)∧RdL w St cs b (off+1)
end
mutual
theorem RdD.mono {w w':World} {St St':Nat→Nat→Prop} (hS:∀ b o,St b o→St' b o) (hw:∀ b o,St b o→w'.cell? ⟨b,o,none⟩=w.cell? ⟨b,o,none⟩) :
  ∀ (c:Cl) (u:Value),RdD w St c u→RdD w' St' c u
 | .v x,u,h=>by simp only[RdD] at h ⊢; exact h
 | .ref _,_,h=>by simp[RdD] at h
 | .ow _ _ _,_,h=>by simp[RdD] at h
 | .sl xs,u,h=>by
  simp only[RdD] at h ⊢
  obtain⟨a,cap,h1,h2,h3,h4,h5⟩:=h
  refine⟨a,cap,h1,h2,h3,h4, ?_⟩
  rcases h5 with h5 | ⟨b,off,h5,h6⟩
  ·exact .inl h5
  ·exact .inr ⟨b,off,h5,RdE.mono hS hw xs b off h6⟩
theorem RdE.mono {w w':World} {St St':Nat→Nat→Prop} (hS:∀ b o,St b o→St' b o) (hw:∀ b o,St b o→w'.cell? ⟨b,o,none⟩=w.cell? ⟨b,o,none⟩) :
  ∀ (xs:List (List Cl)) (b off:Nat),RdE w St xs b off→RdE w' St' xs b off
 | [],_,_,_=>by simp[RdE]
 | x::xs,b,off,h=>by
  simp only[RdE] at h ⊢
  exact⟨RdL.mono hS hw x b off h.1,RdE.mono hS hw xs b _ h.2⟩
theorem RdL.mono {w w':World} {St St':Nat→Nat→Prop} (hS:∀ b o,St b o→St' b o) (hw:∀ b o,St b o→w'.cell? ⟨b,o,none⟩=w.cell? ⟨b,o,none⟩) :
  ∀ (cs:List Cl) (b off:Nat),RdL w St cs b off→RdL w' St' cs b off
 | [],_,_,_=>by simp[RdL]
 | c::cs,b,off,h=>by
  simp only[RdL] at h ⊢
  obtain⟨⟨h1,u,h2,h3⟩,h4⟩:=h
  exact⟨⟨hS _ _ h1,u,by rw[hw _ _ h1]; exact h2,RdD.mono hS hw c u h3⟩,RdL.mono hS hw cs b _ h4⟩
end
theorem RdL.at {w:World} {St:Nat→Nat→Prop}:∀ {cs:List Cl} {b off:Nat},RdL w St cs b off→∀ j c,cs[j]?=some c →
  St b (off+j)∧∃ u,w.cell? ⟨b,off+j,none⟩=some u∧RdD w St c u
 | [],_,_,_,j,c,h=>by simp at h
 | c0::cs,b,off,h,j,c,hj=>by
  simp only[RdL] at h
  cases j with
  | zero=>simp only[ai,ag] at hj; subst hj; exact h.1
  | succ j =>
   simp only[mV] at hj
   have:=RdL.at h.2 j c hj
   rwa [show off+1+j=off+(j+1) by omega] at this
theorem RdL.mk {w:World} {St:Nat→Nat→Prop}:∀ {cs:List Cl} {b off:Nat},(∀ j c,cs[j]?=some c→St b (off+j)∧∃ u,w.cell? ⟨b,off+j,none⟩=some u∧RdD w St c u)→RdL w St cs b off
 | [],_,_,_=>by simp[RdL]
 | c0::cs,b,off,h=>by
  simp only[RdL]
  refine⟨by simpa using h 0 c0 rfl,RdL.mk fun j c hj=>?_⟩
  have:=h (j+1) c (by simpa using hj)
  rwa [show off+(j+1)=off+1+j by omega] at this
theorem RdL.drop {w:World} {St:Nat→Nat→Prop} {cs:List Cl} {b off:Nat} (h:RdL w St cs b off) (n:Nat):RdL w St (cs.drop n) b (off+n):=
 RdL.mk fun j c hj=>by
  have:=h.at (n+j) c (by simpa using hj)
  rwa [show off+(n+j)=off+n+j by omega] at this
theorem RdL.take {w:World} {St:Nat→Nat→Prop} {cs:List Cl} {b off:Nat} (h:RdL w St cs b off) (n:Nat):RdL w St (cs.take n) b off:=
 RdL.mk fun j c hj=>by
  rw[aV] at hj
  split at hj
  ·exact h.at j c hj
  ·simp at hj
theorem RdE.at {w:World} {St:Nat→Nat→Prop} (sz:Nat):∀ {xs:List (List Cl)} {b off:Nat},RdE w St xs b off→(∀ x∈xs,x.length=sz)→∀ i x,xs[i]?=some x→RdL w St x b (off+i*sz)
 | [],_,_,_,_,i,x,h=>by simp at h
 | x0::xs,b,off,h,hl,i,x,hi=>by
  simp only[RdE] at h
  cases i with
  | zero=>simp only[ai,ag] at hi; subst hi; simpa using h.1
  | succ i =>
   simp only[mV] at hi
   have:=RdE.at sz h.2 (fun y hy=>hl y (by simp[hy])) i x hi
   rw[hl x0 (by simp)] at this
   rwa [show off+sz+i*sz=off+(i+1)*sz by rw[Pj]; omega] at this
theorem RdE.mk {w:World} {St:Nat→Nat→Prop} (sz:Nat):∀ {xs:List (List Cl)} {b off:Nat},(∀ x∈xs,x.length=sz)→(∀ i x,xs[i]?=some x→RdL w St x b (off+i*sz))→RdE w St xs b off
 | [],_,_,_,_=>by simp[RdE]
 | x0::xs,b,off,hl,h=>by
  simp only[RdE]
  refine⟨by simpa using h 0 x0 rfl,RdE.mk sz (fun y hy=>hl y (by simp[hy])) fun i x hi=>?_⟩
  have:=h (i+1) x (by simpa using hi)
  rw[hl x0 (by simp)]
  rwa [show off+(i+1)*sz=off+sz+i*sz by rw[Pj]; omega] at this
def AO:Cl→Bool
 | .v (.slice _ _ _)=>false
 | .v (.agg _)=>false
 | .v (.tuple _)=>false
 | .v _=>true
 | .sl _=>true
 | .ref _=>false
 | .ow _ _ _=>false
def BI (cs:List Cl):Bool:=cs.all AO
def E5 (xs:List (List Cl)):Bool:=xs.all BI
def Aq (w:World) (st:List Ob) (β:Nat→Option Nat) (l:Nat) (u:Value):Prop:=
 match st[l]? with
 | none=>False
 | some ob=>u.oneCell'=true∧(ob.live=true→match β l with
  | none=>u = .slice none 0 0∧ob.xs = []
  | some b=>∃ cap cs,u = .slice (some ⟨b,0,none⟩) ob.xs.length cap∧ob.xs.length≤cap∧cap≤maxLen∧w.heap[b]?=some (.cells cs ob.ty (0,0))∧cs.size=cap*ob.sz)
def RdC (w:World) (St:Nat→Nat→Prop) (st:List Ob) (β:Nat→Option Nat):Cl→Value→Prop
 | .ref l,u=>Aq w st β l u
 | c,u=>RdD w St c u
mutual
def AVR (w:World) (St:Nat→Nat→Prop) (st:List Ob) (β:Nat→Option Nat):AV→Value→Prop
 | .c x,u=>RdC w St st β x u
 | .agg xs,u=>∃ us:List Value,u = .agg us.toArray∧us.length=xs.length∧∀ (k:Nat) (c:Cl),xs[k]?=some c→∃ y,us[k]?=some y∧RdC w St st β c y
 | .lp l i off,u=>match st[l]? with
  | none=>False
  | some ob=>ob.live=true→∃ b,β l=some b∧u = .pointer (some ⟨b,i*ob.sz+off,none⟩)
 | .ip xs,u=>∃ b off,u = .pointer (some ⟨b,off,none⟩)∧RdL w St xs b off
 | .tup xs,u=>∃ us:List Value,u = .tuple us.toArray∧AVRs w St st β xs us
 | .undef,u=>u=Go.undef
 | .un,_=>True
 | .pin x u0,u=>u=u0∧AVR w St st β x u
 | .clo f xs,u=>∃ us:List Value,u = .func (.func f) #[] us.toArray∧us.length=xs.length∧∀ (k:Nat) (c:List Cl),xs[k]?=some c→∃ b off,us[k]?=some (.pointer (some ⟨b,off,none⟩))∧RdL w St c b off
def AVRs (w:World) (St:Nat→Nat→Prop) (st:List Ob) (β:Nat→Option Nat):List AV→List Value→Prop
 | [],us=>us = []
 | x::xs,us=>∃ y ys,us=y::ys∧AVR w St st β x y∧AVRs w St st β xs ys
end
def RdB (w:World) (St:Nat→Nat→Prop) (st:List Ob) (β:Nat→Option Nat):Cl→Value→Prop
 | .ow _ _ _,u=>u.oneCell'=true
 | c,u=>RdC w St st β c u
def ObR (w:World) (St:Nat→Nat→Prop) (st:List Ob) (β:Nat→Option Nat) (ob:Ob) (b:Nat):Prop:=
 ∃ cs:Array Value,w.heap[b]?=some (.cells cs ob.ty (0,0))∧(∀ x∈ob.xs,x.length=ob.sz) ∧
  ∀ (k:Nat) (c:Cl),ob.xs.flatten[k]?=some c→∃ u,cs[k]?=some u∧RdB w St st β c u
def Dj:Cl→Bool
 | .ow _ _ _=>true
 | _=>false
mutual
def RdO (w:World) (St:Nat→Nat→Prop):Cl→Value→(Nat→Prop)→Prop
 | .ow ty sz xs,u,F=>(u = .slice none 0 0∧xs = [])∨∃ (b cap:Nat) (cs:Array Value) (G:Nat→Nat→Prop),u = .slice (some ⟨b,0,none⟩) xs.length cap∧xs.length≤cap∧cap≤maxLen ∧
   w.heap[b]?=some (.cells cs ty (0,0))∧cs.size=cap*sz∧(∀ x∈xs,x.length=sz)∧F b∧(∀ k x,G k x→F x∧x≠b)∧(∀ k k' x,G k x→G k' x→k=k')∧RdOE w St xs 0 cs G
 | .v x,u,_=>u=x∧Kz x=true
 | .sl xs,u,_=>RdD w St (.sl xs) u
 | .ref _,_,_=>False
def RdOE (w:World) (St:Nat→Nat→Prop):List (List Cl)→Nat→Array Value→(Nat→Nat→Prop)→Prop
 | [],_,_,_=>True
 | x::xs,n,cs,G=>RdOL w St x n cs G∧RdOE w St xs (n+x.length) cs G
def RdOL (w:World) (St:Nat→Nat→Prop):List Cl→Nat→Array Value→(Nat→Nat→Prop)→Prop
 | [],_,_,_=>True
 | c::cl,n,cs,G=>(∃ y,cs[n]?=some y∧RdO w St c y (G n))∧RdOL w St cl (n+1) cs G
end
mutual
theorem RdO.mono {w w':World} {St St':Nat→Nat→Prop} (hS:∀ b o,St b o→St' b o) (hw:∀ b o,St b o→w'.cell? ⟨b,o,none⟩=w.cell? ⟨b,o,none⟩) :
  ∀ (c:Cl) (u:Value) (F F':Nat→Prop),(∀ x,F x→F' x)→(∀ x,F x→w'.heap[x]?=w.heap[x]?)→RdO w St c u F→RdO w' St' c u F'
 | .v x,u,F,F',_,_,h=>by simp only[RdO] at h ⊢; exact h
 | .ref _,_,_,_,_,_,h=>by simp[RdO] at h
 | .sl xs,u,F,F',_,_,h=>by simp only[RdO] at h ⊢; exact RdD.mono hS hw _ _ h
 | .ow ty sz xs,u,F,F',hF,hh,h=>by
  simp only[RdO] at h ⊢
  rcases h with h | ⟨b,cap,cs,G,h1,h2,h3,h4,h5,h6,h7,h8,h9,h10⟩
  ·exact .inl h
  ·exact .inr ⟨b,cap,cs,G,h1,h2,h3,by rw[hh b h7]; exact h4,h5,h6,hF b h7,fun k x hx=>⟨hF x (h8 k x hx).1,(h8 k x hx).2⟩,h9,RdOE.mono hS hw xs 0 cs G (fun k x hx=>hh x (h8 k x hx).1) h10⟩
theorem RdOE.mono {w w':World} {St St':Nat→Nat→Prop} (hS:∀ b o,St b o→St' b o) (hw:∀ b o,St b o→w'.cell? ⟨b,o,none⟩=w.cell? ⟨b,o,none⟩) :
  ∀ (xs:List (List Cl)) (n:Nat) (cs:Array Value) (G:Nat→Nat→Prop),(∀ k x,G k x→w'.heap[x]?=w.heap[x]?)→RdOE w St xs n cs G→RdOE w' St' xs n cs G
 | [],_,_,_,_,_=>by simp[RdOE]
 | x::xs,n,cs,G,hh,h=>by
  simp only[RdOE] at h ⊢
  exact⟨RdOL.mono hS hw x n cs G hh h.1,RdOE.mono hS hw xs _ cs G hh h.2⟩
theorem RdOL.mono {w w':World} {St St':Nat→Nat→Prop} (hS:∀ b o,St b o→St' b o) (hw:∀ b o,St b o→w'.cell? ⟨b,o,none⟩=w.cell? ⟨b,o,none⟩) :
  ∀ (cl:List Cl) (n:Nat) (cs:Array Value) (G:Nat→Nat→Prop),(∀ k x,G k x→w'.heap[x]?=w.heap[x]?)→RdOL w St cl n cs G→RdOL w' St' cl n cs G
 | [],_,_,_,_,_=>by simp[RdOL]
 | c::cl,n,cs,G,hh,h=>by
  simp only[RdOL] at h ⊢
  obtain⟨⟨y,h1,h2⟩,h3⟩:=h
  exact⟨⟨y,h1,RdO.mono hS hw c y (G n) (G n) (fun _ h=>h) (fun x hx=>hh n x hx) h2⟩,RdOL.mono hS hw cl _ cs G hh h3⟩
end
structure Bs where
 w:World
 own:Nat→Prop
def Bs.heap (b:Bs):Array Obj:=b.w.heap
def Bs.may (b:Bs) (x:Nat):Prop:=b.heap.size≤x∨b.own x
def OW (w:World) (k:Nat):Nat:=match w.heap[k]? with
 | some (.cells cs _ _)=>cs.size
 | _=>0
theorem Ym {w w':World} {k:Nat} (h:w'.heap[k]?=w.heap[k]?):OW w' k=OW w k:=by simp only[OW,h]
theorem U_ {w w':World} {k:Nat} {cs cs':Array Value} {ty ty':TypeId} {x x':Nat×Nat} (h:w.heap[k]?=some (.cells cs ty x)) (h':w'.heap[k]?=some (.cells cs' ty' x')):OW w' k=OW w k↔cs'.size=cs.size:=by simp only[OW,h,h']
structure BelowB (w0:Bs) (w:World):Prop where
 rest:Below 0 w0.w w
 blk:∀ k,k<w0.heap.size→¬ w0.own k→w.heap[k]?=w0.heap[k]?
 siz:∀ k,k<w0.heap.size→OW w k=OW w0.w k
theorem BelowB.size {w0:Bs} {w:World} (h:BelowB w0 w):w0.heap.size≤w.heap.size:=h.rest.size
theorem BelowB.refl (w:World) (O:Nat→Prop):BelowB ⟨w,O⟩ w:=⟨Below.refl _ _,fun _ _ _=>rfl,fun _ _=>rfl⟩
theorem BelowB.step {w0:Bs} {w w':World} (h:BelowB w0 w) {n:Nat} (hb:Below n w w') (hk:∀ k,k<w0.heap.size→¬ w0.own k→w'.heap[k]?=w.heap[k]?) (hs:∀ k,k<w0.heap.size→OW w' k=OW w k):BelowB w0 w':=
 ⟨h.rest.trans (hb.mono (aJ _)),fun k h1 h2=>(hk k h1 h2).trans (h.blk k h1 h2),fun k h1=>(hs k h1).trans (h.siz k h1)⟩
theorem BelowB.grow {w0:Bs} {w w':World} (h:BelowB w0 w) (hb:Below w.heap.size w w'):BelowB w0 w':=
 h.step hb (fun k h1 _=>hb.block k (bn h1 h.size)) fun k h1=>Ym (hb.block k (bn h1 h.size))
theorem BelowB.plain {w w':World} (h:BelowB ⟨w,fun _=>False⟩ w'):Below w.heap.size w w':=
 ⟨h.rest.os,h.rest.tape,h.rest.output,h.rest.size,fun k hk=>h.blk k hk fun h=>h⟩
def I7 (w0:Bs) (R:Nat→Prop) (w:World) (St:Nat→Nat→Prop) (st:List Ob) (β:Nat→Option Nat) (x:Nat):Prop:=w0.may x∧¬ R x∧x<w.heap.size∧(∀ o,¬ St x o)∧∀ (l:Nat) (ob:Ob),st[l]?=some ob→ob.live=true→β l≠some x
def Own (w0:Bs) (R:Nat→Prop) (w:World) (St:Nat→Nat→Prop) (st:List Ob) (β:Nat→Option Nat):Prop:=∃ φ:Nat→Nat→Nat→Prop,
 (∀ (l:Nat) (ob:Ob) (b k:Nat) (c:Cl),st[l]?=some ob→ob.live=true→β l=some b→ob.xs.flatten[k]?=some c→Dj c=true→∃ u,w.cell? ⟨b,k,none⟩=some u∧RdO w St c u (φ l k)) ∧
 (∀ l k x,φ l k x→(∃ ob b,st[l]?=some ob∧ob.live=true∧β l=some b)∧I7 w0 R w St st β x) ∧
 ∀ l l' k k' x,φ l k x→φ l' k' x→l=l'∧k=k'
theorem Own.move {w0:Bs} {R R':Nat→Prop} {w w':World} {St St':Nat→Nat→Prop} {st st':List Ob} {β β':Nat→Option Nat} (h:Own w0 R w St st β) (σ:Nat→Nat)
  (hx:∀ x,I7 w0 R w St st β x→I7 w0 R' w' St' st' β' x∧w'.heap[x]?=w.heap[x]?) (hS:∀ b o,St b o→St' b o) (hw:∀ b o,St b o→w'.cell? ⟨b,o,none⟩=w.cell? ⟨b,o,none⟩)
  (hob:∀ (l':Nat) (ob':Ob) (b k:Nat) (c:Cl),st'[l']?=some ob'→ob'.live=true→β' l'=some b→ob'.xs.flatten[k]?=some c→Dj c=true →
   ∃ ob b0,st[σ l']?=some ob∧ob.live=true∧β (σ l')=some b0∧ob.xs.flatten[k]?=some c∧w'.cell? ⟨b,k,none⟩=w.cell? ⟨b0,k,none⟩)
  (hσ:∀ (l1 l2:Nat) (o1 o2:Ob),st'[l1]?=some o1→st'[l2]?=some o2→o1.live=true→o2.live=true→σ l1=σ l2→l1=l2):Own w0 R' w' St' st' β':=by
 obtain⟨φ,h1,h2,h3⟩:=h
 refine⟨fun l k x=>(∃ ob b,st'[l]?=some ob∧ob.live=true∧β' l=some b)∧φ (σ l) k x, ?_, ?_, ?_⟩
 ·intro l ob b k c hl hlive hβ hk hc
  obtain⟨ob0,b0,g1,g2,g3,g4,g5⟩:=hob l ob b k c hl hlive hβ hk hc
  obtain⟨u,hu,hr⟩:=h1 _ ob0 b0 k c g1 g2 g3 g4 hc
  exact⟨u,by rw[g5]; exact hu,RdO.mono hS hw c u _ _ (fun x hxx=>⟨⟨ob,b,hl,hlive,hβ⟩,hxx⟩) (fun x hxx=>(hx x (h2 _ _ x hxx).2).2) hr⟩
 ·rintro l k x ⟨hl,hxx⟩
  exact⟨hl,(hx x (h2 _ _ x hxx).2).1⟩
 ·rintro l l' k k' x ⟨⟨o1,b1,q1,q2,_⟩,hxx⟩ ⟨⟨o2,b2,r1,r2,_⟩,hxx'⟩
  obtain⟨e1,e2⟩:=h3 _ _ _ _ x hxx hxx'
  exact⟨hσ l l' o1 o2 q1 r1 q2 r2 e1,e2⟩
structure Core (w0:Bs) (St0 St:Nat→Nat→Prop) (β:Nat→Option Nat) (s:MS) (a:Act) (w:World):Prop where
 defers:a.defers = []
 size:a.tmps.size=s.n
 env:∀ i,AVR w St s.st β (BK s.env i) (a.tmps.getD i undef)
 below:BelowB w0 w
 st0:∀ b o,St0 b o→St b o
 stOld:∀ b o,St b o→b<w0.heap.size→¬ w0.own b→St0 b o
 stIn:∀ b o,St b o→b<w.heap.size
 obs:∀ l ob b,s.st[l]?=some ob→ob.live=true→β l=some b→w0.may b∧b<w.heap.size∧ObR w St s.st β ob b
 nil:∀ l ob,s.st[l]?=some ob→ob.live=true→β l=none→ob.xs = []
 inj:∀ l l' ob ob' b,s.st[l]?=some ob→s.st[l']?=some ob'→ob.live=true→ob'.live=true→β l=some b→β l'=some b→l=l'
 sep:∀ l ob b o,s.st[l]?=some ob→ob.live=true→β l=some b→St b o→ob.wr=false∧o<ob.xs.length*ob.sz
 own:Own w0 (fun _=>False) w St s.st β
def Sim (w0:Bs) (St0:Nat→Nat→Prop) (s:MS) (a:Act) (w:World):Prop:=∃ St β,Core w0 St0 St β s a w
theorem RdC.mono {w w':World} {St St':Nat→Nat→Prop} {st st':List Ob} {β β':Nat→Option Nat} (hS:∀ b o,St b o→St' b o) (hw:∀ b o,St b o→w'.cell? ⟨b,o,none⟩=w.cell? ⟨b,o,none⟩)
  (hr:∀ l u,Aq w st β l u→Aq w' st' β' l u) (c:Cl) (u:Value) (h:RdC w St st β c u):RdC w' St' st' β' c u:=by
 cases c with
 | ref l=>exact hr l u h
 | v x=>exact RdD.mono hS hw _ _ h
 | sl xs=>exact RdD.mono hS hw _ _ h
 | ow ty sz xs=>simp[RdC,RdD] at h
theorem RdC.toB {w:World} {St:Nat→Nat→Prop} {st:List Ob} {β:Nat→Option Nat} {c:Cl} {u:Value} (h:RdC w St st β c u):RdB w St st β c u:=by
 cases c with
 | ow ty sz xs=>simp[RdC,RdD] at h
 | _=>exact h
theorem RdB.toC {w:World} {St:Nat→Nat→Prop} {st:List Ob} {β:Nat→Option Nat} {c:Cl} {u:Value} (hc:Dj c=false) (h:RdB w St st β c u):RdC w St st β c u:=by
 cases c with
 | ow ty sz xs=>simp[Dj] at hc
 | _=>exact h
theorem RdC.notOw {w:World} {St:Nat→Nat→Prop} {st:List Ob} {β:Nat→Option Nat} {c:Cl} {u:Value} (h:RdC w St st β c u):Dj c=false:=by
 cases c with
 | ow ty sz xs=>simp[RdC,RdD] at h
 | _=>rfl
theorem RdB.mono {w w':World} {St St':Nat→Nat→Prop} {st st':List Ob} {β β':Nat→Option Nat} (hS:∀ b o,St b o→St' b o) (hw:∀ b o,St b o→w'.cell? ⟨b,o,none⟩=w.cell? ⟨b,o,none⟩)
  (hr:∀ l u,Aq w st β l u→Aq w' st' β' l u) (c:Cl) (u:Value) (h:RdB w St st β c u):RdB w' St' st' β' c u:=by
 cases c with
 | ow ty sz xs=>exact h
 | v x=>exact RdC.mono hS hw hr (.v x) u h
 | sl xs=>exact RdC.mono hS hw hr (.sl xs) u h
 | ref l=>exact RdC.mono hS hw hr (.ref l) u h
mutual
theorem AVR.mono {w w':World} {St St':Nat→Nat→Prop} {st st':List Ob} {β β':Nat→Option Nat} (hS:∀ b o,St b o→St' b o) (hw:∀ b o,St b o→w'.cell? ⟨b,o,none⟩=w.cell? ⟨b,o,none⟩)
  (hr:∀ l u,Aq w st β l u→Aq w' st' β' l u) (hp:∀ l i off u,AVR w St st β (.lp l i off) u→AVR w' St' st' β' (.lp l i off) u) :
  ∀ (x:AV) (u:Value),AVR w St st β x u→AVR w' St' st' β' x u
 | .c x,u,h=>by simp only[AVR] at h ⊢; exact RdC.mono hS hw hr x u h
 | .agg xs,u,h=>by
  simp only[AVR] at h ⊢
  obtain⟨us,h1,h2,h3⟩:=h
  refine⟨us,h1,h2,fun k c hk=>?_⟩
  obtain⟨y,hy,hc⟩:=h3 k c hk
  exact⟨y,hy,RdC.mono hS hw hr c y hc⟩
 | .lp l i off,u,h=>hp l i off u h
 | .ip xs,u,h=>by
  simp only[AVR] at h ⊢
  obtain⟨b,off,h1,h2⟩:=h
  exact⟨b,off,h1,RdL.mono hS hw xs b off h2⟩
 | .tup xs,u,h=>by
  simp only[AVR] at h ⊢
  obtain⟨us,h1,h2⟩:=h
  exact⟨us,h1,AVRs.mono hS hw hr hp xs us h2⟩
 | .undef,_,h=>by simp only[AVR] at h ⊢; exact h
 | .un,_,_=>by simp only[AVR]
 | .pin x u0,u,h=>by
  simp only[AVR] at h ⊢
  exact⟨h.1,AVR.mono hS hw hr hp x u h.2⟩
 | .clo f xs,u,h=>by
  simp only[AVR] at h ⊢
  obtain⟨us,h1,h2,h3⟩:=h
  refine⟨us,h1,h2,fun k c hk=>?_⟩
  obtain⟨b,off,hy,hc⟩:=h3 k c hk
  exact⟨b,off,hy,RdL.mono hS hw c b off hc⟩
theorem AVRs.mono {w w':World} {St St':Nat→Nat→Prop} {st st':List Ob} {β β':Nat→Option Nat} (hS:∀ b o,St b o→St' b o) (hw:∀ b o,St b o→w'.cell? ⟨b,o,none⟩=w.cell? ⟨b,o,none⟩)
  (hr:∀ l u,Aq w st β l u→Aq w' st' β' l u) (hp:∀ l i off u,AVR w St st β (.lp l i off) u→AVR w' St' st' β' (.lp l i off) u) :
  ∀ (xs:List AV) (us:List Value),AVRs w St st β xs us→AVRs w' St' st' β' xs us
 | [],us,h=>by simp only[AVRs] at h ⊢; exact h
 | x::xs,us,h=>by
  simp only[AVRs] at h ⊢
  obtain⟨y,ys,h1,h2,h3⟩:=h
  exact⟨y,ys,h1,AVR.mono hS hw hr hp x y h2,AVRs.mono hS hw hr hp xs ys h3⟩
end
theorem ObR.mono {w w':World} {St St':Nat→Nat→Prop} {st st':List Ob} {β β':Nat→Option Nat} (hS:∀ b o,St b o→St' b o) (hw:∀ b o,St b o→w'.cell? ⟨b,o,none⟩=w.cell? ⟨b,o,none⟩)
  (hr:∀ l u,Aq w st β l u→Aq w' st' β' l u) {ob:Ob} {b:Nat} (hb:w'.heap[b]?=w.heap[b]?) (h:ObR w St st β ob b):ObR w' St' st' β' ob b:=by
 obtain⟨cs,h1,h2,h3⟩:=h
 refine⟨cs,by rw[hb]; exact h1,h2,fun k c hk=>?_⟩
 obtain⟨u,hu,hc⟩:=h3 k c hk
 exact⟨u,hu,RdB.mono hS hw hr c u hc⟩
theorem cell_of_block {w w':World} {b o:Nat} (h:w'.heap[b]?=w.heap[b]?):w'.cell? ⟨b,o,none⟩=w.cell? ⟨b,o,none⟩:=by simp[World.cell?,h]
theorem Own.grow {w0:Bs} {R R':Nat→Prop} {w w':World} {St St':Nat→Nat→Prop} {st:List Ob} {β:Nat→Option Nat} (h:Own w0 R w St st β) (hb:Below w.heap.size w w')
  (hS:∀ b o,St b o→St' b o) (hS':∀ b o,St' b o→b<w.heap.size→St b o) (hin:∀ b o,St b o→b<w.heap.size)
  (hob:∀ (l:Nat) (ob:Ob) (b:Nat),st[l]?=some ob→ob.live=true→β l=some b→b<w.heap.size) (hR:∀ x,x<w.heap.size→R' x→R x):Own w0 R' w' St' st β:=by
 refine h.move id (fun x hx=>?_) hS (fun b o hbo=>cell_of_block (hb.block b (hin b o hbo))) (fun l ob b k c h1 h2 h3 h4 h5=>?_) (fun _ _ _ _ _ _ _ _ e=>e)
 ·obtain⟨q1,q2,q3,q4,q5⟩:=hx
  exact⟨⟨q1,fun h=>q2 (hR x q3 h),bn q3 hb.size,fun o ho=>q4 o (hS' x o ho q3),q5⟩,hb.block x q3⟩
 ·exact⟨ob,b,h1,h2,h3,h4,cell_of_block (hb.block b (hob l ob b h1 h2 h3))⟩
theorem Core.grow {w0:Bs} {St0 St:Nat→Nat→Prop} {β:Nat→Option Nat} {s:MS} {a:Act} {w w':World} (h:Core w0 St0 St β s a w) (hb:Below w.heap.size w w')
  {St':Nat→Nat→Prop} (hS:∀ b o,St b o→St' b o) (hS':∀ b o,St' b o→b<w.heap.size→St b o) (hin:∀ b o,St' b o→b<w'.heap.size):Core w0 St0 St' β s a w':=by
 have hw0:w0.heap.size≤w.heap.size:=h.below.size
 have hblk:∀ k,k<w.heap.size→w'.heap[k]?=w.heap[k]?:=hb.block
 have hw:∀ b o,St b o→w'.cell? ⟨b,o,none⟩=w.cell? ⟨b,o,none⟩:=fun b o hbo=>cell_of_block (hblk b (h.stIn b o hbo))
 have hr:∀ l u,Aq w s.st β l u→Aq w' s.st β l u:=by
  intro l u hu
  unfold Aq at hu ⊢
  cases hl:s.st[l]? with
  | none=>simp[hl] at hu
  | some ob =>
   simp only[hl] at hu ⊢
   refine⟨hu.1,fun hlive=>?_⟩
   have hu2:=hu.2 hlive
   cases hβ:β l with
   | none=>simpa [hβ] using hu2
   | some b =>
    simp only[hβ] at hu2 ⊢
    obtain⟨cap,cs,h1,h2,h3,h4,h5⟩:=hu2
    exact⟨cap,cs,h1,h2,h3,by rw[hblk b (h.obs l ob b hl hlive hβ).2.1]; exact h4,h5⟩
 have hp:∀ l i off u,AVR w St s.st β (.lp l i off) u→AVR w' St' s.st β (.lp l i off) u:=by
  intro l i off u hu; simpa only[AVR] using hu
 exact {
  defers:=h.defers
  size:=h.size
  env:=fun i=>AVR.mono hS hw hr hp _ _ (h.env i)
  below:=h.below.grow hb
  st0:=fun b o hbo=>hS b o (h.st0 b o hbo)
  stOld:=fun b o hbo hlt=>h.stOld b o (hS' b o hbo (bn hlt hw0)) hlt
  stIn:=hin
  obs:=fun l ob b hl hlive hβ=>by
   obtain⟨h1,h2,h3⟩:=h.obs l ob b hl hlive hβ
   exact⟨h1,bn h2 hb.size,ObR.mono hS hw hr (hblk b h2) h3⟩
  nil:=h.nil
  inj:=h.inj
  sep:=fun l ob b o hl hlive hβ hbo=>h.sep l ob b o hl hlive hβ (hS' b o hbo (h.obs l ob b hl hlive hβ).2.1)
  own:=h.own.grow hb hS hS' h.stIn (fun l ob b h1 h2 h3=>(h.obs l ob b h1 h2 h3).2.1) (fun _ _ h=>h) }
theorem Core.put {w0:Bs} {St0 St:Nat→Nat→Prop} {β:Nat→Option Nat} {s:MS} {a:Act} {w:World} (h:Core w0 St0 St β s a w) (d:Option Nat) {x:AV} {u:Value} (hx:AVR w St s.st β x u) :
  Core w0 St0 St β (s.put d x) (a.put d u) w:=by
 cases d with
 | none=>exact h
 | some d =>
  by_cases hd:d<s.n
  ·have e1:s.put (some d) x=⟨s.n,(d,x)::s.env,s.st⟩:=by simp[MS.put,hd]
   rw[e1]
   exact {
    defers:=h.defers
    size:=by simpa [Act.put] using h.size
    env:=fun i=>by
     simp only[BK,Act.put]
     by_cases hi:d=i
     ·subst hi
      have:d<a.tmps.size:=by rw[h.size]; exact hd
      simpa [this] using hx
     ·have:=h.env i
      simpa [hi,Array.getElem?_setIfInBounds] using this
    below:=h.below,st0:=h.st0,stOld:=h.stOld,stIn:=h.stIn,obs:=h.obs,nil:=h.nil,inj:=h.inj,sep:=h.sep,own:=h.own }
  ·have e1:s.put (some d) x=s:=by simp[MS.put,hd]
   rw[e1]
   have e2:a.put (some d) u=a:=by
    have:¬ d<a.tmps.size:=by rw[h.size]; exact hd
    cases a
    simp only[Act.put,Act.mk.injEq,ZX]
    simp only at this
    exact Array.setIfInBounds_eq_of_size_le (by omega)
   rw[e2]
   exact h
theorem AVR.un {w:World} {St:Nat→Nat→Prop} {st:List Ob} {β:Nat→Option Nat} {u:Value}:AVR w St st β .un u:=by simp only[AVR]
end Go.Vm
