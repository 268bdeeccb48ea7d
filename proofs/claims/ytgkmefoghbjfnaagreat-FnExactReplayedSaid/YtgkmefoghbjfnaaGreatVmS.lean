/- A part. -/
import Derived.Test.YtgkmefoghbjfnaaGreatVmR
set_option linter.unusedSimpArgs false
set_option linter.unusedVariables false
namespace Go.Vm
open Go.RowKit
variable {P:Program} {w0:Bs} {St0 St:Nat→Nat→Prop} {β:Nat→Option Nat} {s:MS} {a:Act} {w:World}
theorem Sim.congr {s s':MS} (h:Sim w0 St0 s a w) (hn:s'.n=s.n) (hst:s'.st=s.st) (he:∀ t,BK s'.env t=BK s.env t):Sim w0 St0 s' a w:=by
 obtain⟨St,β,h⟩:=h
 exact⟨St,β,h.congr hn hst he⟩
theorem PH {ops:Array Oper} {env env':List (Nat×AV)} {o:Oper} (h:∀ t∈JY ops o,BK env' t=BK env t):VT ops env' o.guard=VT ops env o.guard:=by
 unfold VT
 split
 ·rfl
 ·rename_i j want hg
  split
  ·rename_i d hd
   rw[h d (by simp only[JY,hg,hd,Option.toList]; simp)]
  ·rfl
theorem EF {listed:Array Bool} {i j:Nat} (hi:i<listed.size):(listed.setIfInBounds i true).getD j false=if i=j then true else listed.getD j false:=by
 by_cases e:i=j
 ·subst e; simp[hi]
 ·simp only[e,aK]; exact getD_set_ne false e
theorem Gq {ops:Array Oper} (h:(ops.toList.all fun o=>o.op.operands.toList.all Af)=true) {i:Nat} {o:Oper} (ho:ops[i]?=some o):o.op.operands.toList.all Af=true:=
 aA.1 h o (by
  have:=aT (l:=ops.toList) (i:=i) (by simpa using ho)
  exact this)
theorem kD {ops:Array Oper} {n:Nat} (hok:DU n ops=true) (hops:(ops.toList.all fun o=>o.op.operands.toList.all Af)=true) (env:List (Nat×AV)) (st:List Ob) (R:Nat→AV)
  (hR:∀ (i:Nat) (o:Oper),ops[i]?=some o→∃ b,VT ops (A8 ops R env (fun _=>true) i) o.guard=some b∧(b=true→BD P ⟨n,A8 ops R env (fun _=>true) i,st⟩ o.op (R i))∧(b=false→R i = .undef))
  (Q:Exit→Act→World→Prop) (hQ:∀ a w,Sim w0 St0 ⟨n,A8 ops R env (fun _=>true) ops.size,st⟩ a w→Q .normal a w) :
  ∀ (fuel:Nat) (listed:Array Bool) (a:Act) (w:World),listed.size=ops.size→listed.toList.countP (fun b=>!b)≤fuel →
   (∀ (i:Nat) (o:Oper),listed.getD i false=true→ops[i]?=some o→∀ e∈o.after,Region.binds .any e=true→listed.getD e.on false=true) →
   Sim w0 St0 ⟨n,A8 ops R env (fun i=>listed.getD i false) ops.size,st⟩ a w→wpAny P .any ops Q fuel listed a w:=by
 have hdst:=R_ hok
 have hall:∀ (listed:Array Bool) (a:Act) (w:World),(∀ i,i<ops.size→listed.getD i false=true)→Sim w0 St0 ⟨n,A8 ops R env (fun i=>listed.getD i false) ops.size,st⟩ a w→Q .normal a w:=by
  intro listed a w hl hs
  refine hQ a w (hs.congr rfl rfl fun t=>?_)
  have key:∀ m,m≤ops.size→A8 ops R env (fun _=>true) m=A8 ops R env (fun i=>listed.getD i false) m:=by
   intro m
   induction m with
   | zero=>intro _; rfl
   | succ m ih=>intro hm; simp only[A8,ih (by omega),hl m (by omega)]
  rw[key ops.size (aQ _)]
 have hready:∀ (listed:Array Bool),Region.ready .any ops listed = []→listed.size=ops.size→∀ i,i<ops.size→listed.getD i false=true:=by
  intro listed hr hsz i
  induction i using Nat.strongRecOn with
  | _ i ih =>
   intro hi
   cases hc:listed.getD i false with
   | true=>rfl
   | false =>
    exfalso
    have:i∈Region.ready .any ops listed:=by
     rw[mem_ready]
     refine⟨?_,ops[i],by simp[hi],fun e he hb=>?_⟩
     ·have hi':i<listed.size:=by omega
      simp[hi'] at hc ⊢
      exact hc
     ·have:=(Df hok (i:=i) (o:=ops[i]) (by simp[hi])).1 e he hb
      exact ih e.on this (by omega)
    rw[hr] at this
    cases this
 intro fuel
 induction fuel with
 | zero =>
  intro listed a w hsz hcnt hcl hs
  have hl:∀ i,i<ops.size→listed.getD i false=true:=by
   intro i hi
   have h0:listed.toList.countP (fun b=>!b)=0:=by omega
   rw[List.countP_eq_zero] at h0
   have hi':i<listed.size:=by omega
   have:=h0 listed[i] (by simp)
   simp[hi'] at this ⊢
   exact this
  refine⟨?_,hall listed a w hl hs⟩
  apply List.eq_nil_iff_forall_not_mem.2
  intro i hi
  rw[mem_ready] at hi
  obtain⟨h1,o,ho,_⟩:=hi
  have hi':i<ops.size:=(bi.1 ho).1
  have h2:=hl i hi'
  have hi2:i<listed.size:=by omega
  simp[hi2] at h1 h2
  rw[h1] at h2; cases h2
 | succ fuel ih =>
  intro listed a w hsz hcnt hcl hs
  refine⟨fun hr=>hall listed a w (hready listed hr hsz) hs,fun i hi=>?_⟩
  rw[mem_ready] at hi
  obtain⟨hun,o,ho,hafter⟩:=hi
  have hi':i<ops.size:=(bi.1 ho).1
  have hi2:i<listed.size:=by omega
  have hun':listed.getD i false=false:=by
   simp[hi2] at hun ⊢
   exact hun
  have hread:∀ t∈JY ops o,BK (A8 ops R env (fun i=>listed.getD i false) ops.size) t=BK (A8 ops R env (fun _=>true) i) t:=by
   intro t ht
   by_cases hj:∃ (j:Nat),(ops[j]?).bind (·.dst)=some t
   ·obtain⟨j,hj⟩:=hj
    cases hoj:ops[j]? with
    | none=>simp[hoj] at hj
    | some oj =>
     have hjd:oj.dst=some t:=by simpa [hoj] using hj
     have hjs:j<ops.size:=(bi.1 hoj).1
     rcases Nat.lt_trichotomy j i with h1 | h1 | h1
     ·have hb:=(Ib hok hoj ho hjd ht (by omega)).1 h1
      have hl:=BU hb hafter
      rw[CG (X:=fun i=>listed.getD i false) hdst hj hl ops.size hjs,CG (X:=fun _=>true) hdst hj rfl i h1]
     ·subst h1
      rw[Ae (X:=fun i=>listed.getD i false) ops.size (fun k _ hk=>by have:=hdst k j t hk hj; subst this; exact hun'),
       Ae (X:=fun _=>true) j (fun k hk hkd=>by have:=hdst k j t hkd hj; omega)]
     ·have hb:=(Ib hok hoj ho hjd ht (by omega)).2 h1
      have hl:listed.getD j false=false:=by
       cases hc:listed.getD j false with
       | false=>rfl
       | true =>
        have:=BU hb (hcl j oj hc hoj)
        rw[this] at hun'; cases hun'
      rw[Ae (X:=fun i=>listed.getD i false) ops.size (fun k _ hk=>by have:=hdst k j t hk hj; subst this; exact hl),
       Ae (X:=fun _=>true) i (fun k hk hkd=>by have:=hdst k j t hkd hj; omega)]
   ·rw[Ae (X:=fun i=>listed.getD i false) ops.size (fun k _ hk=>(hj ⟨k,hk⟩).elim),Ae (X:=fun _=>true) i (fun k _ hk=>(hj ⟨k,hk⟩).elim)]
  obtain⟨b,hb1,hb2,hb3⟩:=hR i o ho
  rw[← PH hread] at hb1
  obtain⟨St,β,hcore⟩:=hs
  have hwant:=VU hcore (o:=o) hb1
  have hnext:∀ (r:AV) (a':Act) (w':World),r=R i→Sim w0 St0 (MS.put ⟨n,A8 ops R env (fun i=>listed.getD i false) ops.size,st⟩ o.dst r) a' w'→wpAny P .any ops Q fuel (listed.setIfInBounds i true) a' w':=by
   intro r a' w' hr hsim
   subst hr
   refine ih _ a' w' (by simpa using hsz) ?_ ?_ ?_
   ·have hset:(listed.setIfInBounds i true).toList=listed.toList.set i true:=by simp
    rw[hset,List.countP_set (by simpa using hi2)]
    have hv:listed.toList[i]'(by simpa using hi2)=false:=by simpa [hi2] using hun'
    rw[hv]
    have hpos:0<listed.toList.countP (fun b=>!b):=List.countP_pos_iff.2 ⟨listed.toList[i]'(by simpa using hi2),au _,by rw[hv]; rfl⟩
    simp only[bD,bC,bJ,aN,aK]
    omega
   ·intro j oj hj hoj e he hbd
    rw[EF hi2] at hj ⊢
    by_cases e1:i=j
    ·subst e1
     rw[ho] at hoj
     simp only[ag] at hoj
     subst hoj
     have:=hafter e he hbd
     rw[this]; simp
    ·simp only[e1,aK] at hj
     have:=hcl j oj hj hoj e he hbd
     rw[this]; simp
   ·refine hsim.congr ?_ ?_ fun t=>?_
    ·cases o.dst<;>simp[MS.put]; split<;>rfl
    ·cases o.dst<;>simp[MS.put]; split<;>rfl
    ·have hX:(fun j=>(listed.setIfInBounds i true).getD j false)=fun j=>if i=j then true else listed.getD j false:=funext fun j=>EF hi2
     rw[hX]
     cases hd:o.dst with
     | none =>
      simp only[MS.put]
      by_cases hj:∃ (j:Nat),(ops[j]?).bind (·.dst)=some t
      ·obtain⟨j,hj⟩:=hj
       have hjs:j<ops.size:=by
        cases hoj:ops[j]? with
        | none=>simp[hoj] at hj
        | some oj=>exact(bi.1 hoj).1
       have hne:i≠j:=fun e=>by subst e; simp[ho,hd] at hj
       cases hl:listed.getD j false with
       | true=>rw[CG (X:=fun j=>if i=j then true else listed.getD j false) hdst hj (by simp only[hne,aK]; exact hl) ops.size hjs,CG (X:=fun j=>listed.getD j false) hdst hj hl ops.size hjs]
       | false=>rw[Ae (X:=fun j=>if i=j then true else listed.getD j false) ops.size (fun k _ hk=>by have:=hdst k j t hk hj; subst this; simp only[hne,aK]; exact hl),Ae (X:=fun j=>listed.getD j false) ops.size (fun k _ hk=>by have:=hdst k j t hk hj; subst this; exact hl)]
      ·rw[Ae (X:=fun j=>if i=j then true else listed.getD j false) ops.size (fun k _ hk=>(hj ⟨k,hk⟩).elim),Ae (X:=fun j=>listed.getD j false) ops.size (fun k _ hk=>(hj ⟨k,hk⟩).elim)]
     | some d =>
      have hdn:=(Df hok ho).2 d hd
      have hid:(ops[i]?).bind (·.dst)=some d:=by simp[ho,hd]
      simp only[MS.put,hdn,bC,BK]
      by_cases e1:d=t
      ·subst e1
       simp only[bC]
       rw[CG (X:=fun j=>if i=j then true else listed.getD j false) hdst hid (by simp) ops.size hi']
      ·simp only[e1,aK]
       by_cases hj:∃ (j:Nat),(ops[j]?).bind (·.dst)=some t
       ·obtain⟨j,hj⟩:=hj
        have hjs:j<ops.size:=by
         cases hoj:ops[j]? with
         | none=>simp[hoj] at hj
         | some oj=>exact(bi.1 hoj).1
        have hne:i≠j:=fun e=>by subst e; rw[hid] at hj; exact e1 (di hj)
        cases hl:listed.getD j false with
        | true=>rw[CG (X:=fun j=>if i=j then true else listed.getD j false) hdst hj (by simp only[hne,aK]; exact hl) ops.size hjs,CG (X:=fun j=>listed.getD j false) hdst hj hl ops.size hjs]
        | false=>rw[Ae (X:=fun j=>if i=j then true else listed.getD j false) ops.size (fun k _ hk=>by have:=hdst k j t hk hj; subst this; simp only[hne,aK]; exact hl),Ae (X:=fun j=>listed.getD j false) ops.size (fun k _ hk=>by have:=hdst k j t hk hj; subst this; exact hl)]
       ·rw[Ae (X:=fun j=>if i=j then true else listed.getD j false) ops.size (fun k _ hk=>(hj ⟨k,hk⟩).elim),Ae (X:=fun j=>listed.getD j false) ops.size (fun k _ hk=>(hj ⟨k,hk⟩).elim)]
  unfold wpOp
  simp only[ho,hwant]
  cases b with
  | true =>
   simp only[bC]
   left
   have hstep:=JX (P:=P) (s:=⟨n,A8 ops R env (fun _=>true) i,st⟩) (s':=⟨n,A8 ops R env (fun i=>listed.getD i false) ops.size,st⟩) rfl o.op (fun t ht=>hread t (by
    simp only[JY,U8]
    left
    rw[List.mem_filterMap]
    exact⟨.tmp t,ht,rfl⟩)) (R i) (hb2 rfl)
   exact Oper.wp_mono (fun a' w' hs=>hnext (R i) a' w' rfl hs) (PG hcore o (Gq hops ho) hstep Q)
  | false =>
   simp only[aN,aK]
   refine hnext .undef _ _ (hb3 rfl).symm ⟨St,β,hcore.put o.dst ?_⟩
   simp only[AVR]
theorem Xi {ops:Array Oper} (hok:DU s.n ops=true) (hops:(ops.toList.all fun o=>o.op.operands.toList.all Af)=true) (h:Core w0 St0 St β s a w) {K:MS→Prop} (hK:kC P ops K ops.toList s) :
  wpAny P .any ops (fun e a' w'=>e = .normal∧∃ s',K s'∧s'.n=s.n∧Sim w0 St0 s' a' w') ops.size (Array.replicate ops.size false) a { w with drawn:=w.drawn+1 }:=by
 obtain⟨R,_,hKs,hR⟩:=SA (K:=K) hok rfl ops.toList 0 (fun _=>.un) (fun j=>by simp) (by simp) (by simpa [A8] using hK)
 have hgrow:Core w0 St0 St β s a { w with drawn:=w.drawn+1 }:=h.grow (w':={ w with drawn:=w.drawn+1 }) ⟨rfl,rfl,rfl,aQ _,fun _ _=>rfl⟩ (fun _ _ h=>h) (fun _ _ h _=>h) h.stIn
 refine kD (P:=P) (n:=s.n) hok hops s.env s.st R (fun i o ho=>hR i o (aJ _) ho) _ (fun a w hs=>⟨rfl,_,hKs,rfl,hs⟩) ops.size (Array.replicate ops.size false) a _ (by simp) ?_ ?_ ?_
 ·have:(Array.replicate ops.size false).toList.countP (fun b=>!b)≤(Array.replicate ops.size false).toList.length:=List.countP_le_length
  simpa using this
 ·intro i o hi
  have:(Array.replicate ops.size false).getD i false=false:=by
   simp[qg]
   split<;>rfl
  rw[this] at hi; cases hi
 ·refine⟨St,β,hgrow.congr rfl rfl fun t=>?_⟩
  rw[Ae ops.size (fun k _ _=>by simp[qg]; split<;>rfl)]
end Go.Vm
