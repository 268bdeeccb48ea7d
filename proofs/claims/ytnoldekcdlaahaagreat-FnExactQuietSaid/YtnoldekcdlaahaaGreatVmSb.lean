/- A part. -/
import Derived.Test.YtnoldekcdlaahaaGreatVmR
set_option linter.unusedSimpArgs false
set_option linter.unusedVariables false
namespace Go.Vm
open Go.RowKit
variable {P:Program} {w0:Bs} {St0 St:Nat→Nat→Prop} {β:Nat→Option Nat} {s:MS} {a:Act} {w:World}
theorem Sim.congr {s s':MS} (h:Sim w0 St0 s a w) (hn:s'.n=s.n) (hst:s'.st=s.st) (he:∀ t,Cb s'.env t=Cb s.env t):Sim w0 St0 s' a w:=by
 obtain⟨St,β,h⟩:=h
 exact⟨St,β,h.congr hn hst he⟩
theorem XN {ops:Array Oper} {env env':List (Nat×AV)} {o:Oper} (h:∀ t∈RF ops o,Cb env' t=Cb env t):pF ops env' o.guard=pF ops env o.guard:=by
 unfold pF
 split
 ·rfl
 ·rename_i j want hg
  split
  ·rename_i d hd
   rw[h d (by simp only[RF,hg,hd,Option.toList]; simp)]
  ·rfl
theorem Ij {listed:Array Bool} {i j:Nat} (hi:i<listed.size):(listed.setIfInBounds i true).getD j false=if i=j then true else listed.getD j false:=by
 by_cases e:i=j
 ·simp_all
 simp_all
theorem Lj {ops:Array Oper} (h:(ops.toList.all fun o=>o.op.operands.toList.all Au)=true) {i:Nat} {o:Oper} (ho:ops[i]?=some o):o.op.operands.toList.all Au=true:=
 aP.1 h o (by
  grind)
theorem AEB {ops:Array Oper} {n:Nat} (hok:FP n ops=true) (hops:(ops.toList.all fun o=>o.op.operands.toList.all Au)=true) (env:List (Nat×AV)) (st:List Ob) (R:Nat→AV)
  (hR:∀ (i:Nat) (o:Oper),ops[i]?=some o→∃ b,pF ops (Bi ops R env (fun _=>true) i) o.guard=some b∧(b=true→CU P ⟨n,Bi ops R env (fun _=>true) i,st⟩ o.op (R i))∧(b=false→R i = .undef))
  (Q:Exit→Act→World→Prop) (hQ:∀ a w,Sim w0 St0 ⟨n,Bi ops R env (fun _=>true) ops.size,st⟩ a w→Q .normal a w) :
  ∀ (fuel:Nat) (listed:Array Bool) (a:Act) (w:World),listed.size=ops.size→listed.toList.countP (fun b=>!b)≤fuel →
   (∀ (i:Nat) (o:Oper),listed.getD i false=true→ops[i]?=some o→∀ e∈o.after,Region.binds .any e=true→listed.getD e.on false=true) →
   Sim w0 St0 ⟨n,Bi ops R env (fun i=>listed.getD i false) ops.size,st⟩ a w→wpAny P .any ops Q fuel listed a w:=by
 have hdst:=dw hok
 have hall:∀ (listed:Array Bool) (a:Act) (w:World),(∀ i,i<ops.size→listed.getD i false=true)→Sim w0 St0 ⟨n,Bi ops R env (fun i=>listed.getD i false) ops.size,st⟩ a w→Q .normal a w:=by
  intro listed a w hl hs
  refine hQ a w (hs.congr rfl rfl fun t=>?_)
  exact ALi
 have hready:∀ (listed:Array Bool),Region.ready .any ops listed = []→listed.size=ops.size→∀ i,i<ops.size→listed.getD i false=true:=by
  intro listed hr hsz i
  exact AKc
 intro fuel
 induction fuel with
 | zero =>
  intro listed a w hsz hcnt hcl hs
  have hl:∀ i,i<ops.size→listed.getD i false=true:=by
   exact AL8
  refine⟨?_,hall listed a w hl hs⟩
  apply List.eq_nil_iff_forall_not_mem.2
  grind [mem_ready,bJ]
 | succ fuel ih =>
  intro listed a w hsz hcnt hcl hs
  refine⟨fun hr=>hall listed a w (hready listed hr hsz) hs,fun i hi=>?_⟩
  rw[mem_ready] at hi
  obtain⟨hun,o,ho,hafter⟩:=hi
  have hi':i<ops.size:=(bJ.1 ho).1
  have hi2:i<listed.size:=AOh
  have hun':listed.getD i false=false:=by
   exact AOR
  have hread:∀ t∈RF ops o,Cb (Bi ops R env (fun i=>listed.getD i false) ops.size) t=Cb (Bi ops R env (fun _=>true) i) t:=by
   intro t ht
   by_cases hj:∃ (j:Nat),(ops[j]?).bind (·.dst)=some t
   ·obtain⟨j,hj⟩:=hj
    cases hoj:ops[j]? with
    | none=>grind
    | some oj =>
     have hjd:oj.dst=some t:=by simpa [hoj] using hj
     have hjs:j<ops.size:=(bJ.1 hoj).1
     rcases Nat.lt_trichotomy j i with h1 | h1 | h1
     ·have hb:=(OO hok hoj ho hjd ht AOh).1 h1
      grind [DZ,Fb]
     ·grind [BV]
     ·have hb:=(OO hok hoj ho hjd ht AOh).2 h1
      grind [DZ,BV]
   ·grind [BV]
  obtain⟨b,hb1,hb2,hb3⟩:=hR i o ho
  rw[← XN hread] at hb1
  obtain⟨St,β,hcore⟩:=hs
  have hwant:=pG hcore (o:=o) hb1
  have hnext:∀ (r:AV) (a':Act) (w':World),r=R i→Sim w0 St0 (MS.put ⟨n,Bi ops R env (fun i=>listed.getD i false) ops.size,st⟩ o.dst r) a' w'→wpAny P .any ops Q fuel (listed.setIfInBounds i true) a' w':=by
   intro r a' w' hr hsim
   subst hr
   refine ih _ a' w' AOk ?_ ?_ ?_
   ·have hset:(listed.setIfInBounds i true).toList=listed.toList.set i true:=by simp
    rw[hset,List.countP_set AOh]
    have hv:listed.toList[i]' AOh=false:=by simpa [hi2] using hun'
    grind
   ·grind [Ij,ak]
   ·refine hsim.congr ?_ ?_ fun t=>?_
    ·exact AMI
    ·exact AMI
    ·have hX:(fun j=>(listed.setIfInBounds i true).getD j false)=fun j=>if i=j then true else listed.getD j false:=funext fun j=>Ij hi2
     rw[hX]
     cases hd:o.dst with
     | none =>
      simp only[MS.put]
      by_cases hj:∃ (j:Nat),(ops[j]?).bind (·.dst)=some t
      ·grind [bJ,Fb,BV]
      grind [BV]
     | some d =>
      have hdn:=(GL hok ho).2 d hd
      have hid:(ops[i]?).bind (·.dst)=some d:=by simp[ho,hd]
      simp only[MS.put,hdn,aX,Cb]
      grind [Fb,bJ,uV,BV]
  unfold wpOp
  simp only[ho,hwant]
  cases b with
  | true =>
   simp only[aX]
   left
   have hstep:=P_ (P:=P) (s:=⟨n,Bi ops R env (fun _=>true) i,st⟩) (s':=⟨n,Bi ops R env (fun i=>listed.getD i false) ops.size,st⟩) rfl o.op (fun t ht=>hread t (by
    simp only[RF,aaY]
    grind)) (R i) (hb2 rfl)
   exact Oper.wp_mono (fun a' w' hs=>hnext (R i) a' w' rfl hs) (XM hcore o (Lj hops ho) hstep Q)
  | false =>
   simp only[aC,aW]
   refine hnext .undef _ _ (hb3 rfl).symm ⟨St,β,hcore.put o.dst ?_⟩
   simp only[AVR]
theorem YM {ops:Array Oper} (hok:FP s.n ops=true) (hops:(ops.toList.all fun o=>o.op.operands.toList.all Au)=true) (h:Core w0 St0 St β s a w) {K:MS→Prop} (hK:vpD P ops K ops.toList s) :
  wpAny P .any ops (fun e a' w'=>e = .normal∧∃ s',K s'∧s'.n=s.n∧Sim w0 St0 s' a' w') ops.size (Array.replicate ops.size false) a { w with drawn:=w.drawn+1 }:=by
 obtain⟨R,_,hKs,hR⟩:=d_ (K:=K) hok rfl ops.toList 0 (fun _=>.un) (fun j=>AOi) AOi (by simpa [Bi] using hK)
 have hgrow:Core w0 St0 St β s a { w with drawn:=w.drawn+1 }:=h.grow (w':={ w with drawn:=w.drawn+1 }) ⟨rfl,rfl,rfl,aT _,fun _ _=>rfl⟩ (fun _ _ h=>h) (fun _ _ h _=>h) h.stIn
 refine AEB (P:=P) (n:=s.n) hok hops s.env s.st R (fun i o ho=>hR i o (az _) ho) _ (fun a w hs=>⟨rfl,_,hKs,rfl,hs⟩) ops.size (Array.replicate ops.size false) a _ AOi ?_ ?_ ?_
 ·grind [List.countP_le_length]
 ·intro i o hi
  have:(Array.replicate ops.size false).getD i false=false:=by
   simp[aa1]
   split<;>rfl
  grind
 ·refine⟨St,β,hgrow.congr rfl rfl fun t=>?_⟩
  rw[BV ops.size (fun k _ _=>by simp_all)]
def OwnL (st:List Ob):List Cl→List Cl→List Nat→(List Nat→Prop)→Prop
 | [],[],us,K=>K us
 | x::xs,.ow ty sz ys::rs,us,K=>match x with
  | .ref l=>match DT st l with
   | some ob=>ob.ty=ty∧ob.sz=sz∧ob.xs=ys∧ob.wr=true∧DI ys=true∧l∉us∧OwnL st xs rs (l::us) K
   | none=>False
  | .v (.slice none 0 0)=>ys = []∧OwnL st xs rs us K
  | _=>False
 | x::xs,y::rs,us,K=>x=y∧AB y=true∧OwnL st xs rs us K
 | _,_,_,_=>False
section owns
variable {φ:Nat→Nat→Nat→Prop}
theorem pI (h:Core w0 St0 St β s a w) (hφ:VZ w0 w St s.st β φ):∀ (xs ys:List Cl) (vs:List Value) (used:List Nat) (K:List Nat→Prop),vs.length=xs.length→(∀ (k:Nat) (c:Cl),xs[k]?=some c→∃ y,vs[k]?=some y∧RdC w St s.st β c y)→OwnL s.st xs ys used K →
  ∃ (used':List Nat) (Φ:Nat→Nat→Prop),K used'∧(∀ l∈used,l∈used')∧ys.length=xs.length∧(∀ (k:Nat) (c:Cl),ys[k]?=some c→∃ y,vs[k]?=some y∧RdO w St c y (Φ k)) ∧
   (∀ k x,Φ k x→∃ l,l∉used∧l∈used'∧Fp s.st β φ l x∧∀ ob,s.st[l]?=some ob→ob.wr=true)∧∀ k k' x,Φ k x→Φ k' x→k=k'
 | [],ys,vs,used,K,hl,hc,ho=>by
  cases ys with
  | nil=>exact⟨used,fun _ _=>False,ho,fun _ h=>h,rfl,fun k c hk=>APM,fun _ _ h=>h.elim,fun _ _ _ h=>h.elim⟩
  | cons y ys=>cases y<;>simp[OwnL] at ho
 | x::xs,[],vs,used,K,hl,hc,ho=>AP6
 | x::xs,y::ys,[],used,K,hl,hc,ho=>APw
 | x::xs,y::ys,v::vs,used,K,hl,hc,ho=>by
  have hl':vs.length=xs.length:=APR
  have hc':∀ (k:Nat) (c:Cl),xs[k]?=some c→∃ y,vs[k]?=some y∧RdC w St s.st β c y:=fun k c hk=>by simpa using hc (k+1) c AOk
  obtain⟨v0,hv0,hx⟩:=hc 0 x rfl
  simp only[aQ,ak] at hv0
  subst hv0
  have cons:∀ (used1:List Nat) (F:Nat→Prop),(∀ l∈used,l∈used1)→RdO w St y v F→(∀ x,F x→∃ l,l∉used∧l∈used1∧Fp s.st β φ l x∧∀ ob,s.st[l]?=some ob→ob.wr=true)→OwnL s.st xs ys used1 K →
    ∃ (used':List Nat) (Φ:Nat→Nat→Prop),K used'∧(∀ l∈used,l∈used')∧(y::ys).length=(x::xs).length∧(∀ (k:Nat) (c:Cl),(y::ys)[k]?=some c→∃ z,(v::vs)[k]?=some z∧RdO w St c z (Φ k)) ∧
     (∀ k x,Φ k x→∃ l,l∉used∧l∈used'∧Fp s.st β φ l x∧∀ ob,s.st[l]?=some ob→ob.wr=true)∧∀ k k' x,Φ k x→Φ k' x→k=k':=by
   intro used1 F hu hr hF hrest
   obtain⟨used',Φ,r1,r2,r3,r4,r5,r6⟩:=pI h hφ xs ys vs used1 K hl' hc' hrest
   refine⟨used',fun k x=>match k with | 0=>F x | k+1=>Φ k x,r1,fun l hl=>r2 l (hu l hl),by simp[r3],fun k c hk=>?_,fun k x hx=>?_,fun k k' x hx hx'=>?_⟩
   ·cases k with
    | zero =>
     grind
    | succ k=>grind
   ·grind
   ·grind [JQ]
  have plain:x=y∧AB y=true∧OwnL s.st xs ys used K→∃ (used':List Nat) (Φ:Nat→Nat→Prop),K used'∧(∀ l∈used,l∈used')∧(y::ys).length=(x::xs).length∧(∀ (k:Nat) (c:Cl),(y::ys)[k]?=some c→∃ z,(v::vs)[k]?=some z∧RdO w St c z (Φ k)) ∧
     (∀ k x,Φ k x→∃ l,l∉used∧l∈used'∧Fp s.st β φ l x∧∀ ob,s.st[l]?=some ob→ob.wr=true)∧∀ k k' x,Φ k x→Φ k' x→k=k':=by
   rintro⟨rfl,hp,hrest⟩
   exact cons used (fun _=>False) (fun _ h=>h) ((RdO.plain (Lc hp)).2 (VT hp hx)) (fun _ h=>h.elim) hrest
  cases y with
  | v z=>exact plain AOu
  | sl z=>exact plain AOu
  | ref z=>exact plain AOu
  | ow ty sz zs =>
   simp only[OwnL] at ho
   split at ho
   ·rename_i l
    split at ho
    ·rename_i ob hob
     obtain⟨rfl,rfl,rfl,hwr,hnr,hnu,hrest⟩:=ho
     obtain⟨hl0,hlive⟩:=CS hob
     refine cons (l::used) (Fp s.st β φ l) (fun l' hl'=>by simp[hl']) ?_ (fun x hx=>⟨l,hnu,AOi,hx,fun ob' hob'=>AOk⟩) hrest
     simp only[RdC,BN,hl0] at hx
     have hx2:=hx.2 hlive
     simp only[RdO]
     cases hβ:β l with
     | none=>grind
     | some b =>
      simp only[hβ] at hx2
      obtain⟨cap,cs,e1,e2,e3,e4,e5⟩:=hx2
      obtain⟨_,_,_,_,g2,_⟩:=h.obs l ob b hl0 hlive hβ
      refine .inr ⟨b,cap,cs,φ l,e1,e2,e3,e4,e5,g2,⟨ob,hl0,hlive,.inl hβ⟩,fun k x hk=>⟨⟨ob,hl0,hlive,.inr ⟨k,hk⟩⟩,fun e=>?_⟩,fun k k' x hk hk'=>(hφ.2.2 l l k k' x hk hk').2,RdOE.mk fun k c hk=>?_⟩
      ·exact(hφ.2.1 l k x hk).2.2.2.2.2 l ob hl0 hlive (by rw[hβ,e])
      grind [dW]
    grind
   ·obtain⟨rfl,hrest⟩:=ho
    refine cons used (fun _=>False) (fun _ h=>h) ?_ (fun _ h=>h.elim) hrest
    simp only[RdC,RdD] at hx
    simp only[RdO]
    grind
   grind
end owns
structure RdL2 (w:World) (St:Nat→Nat→Prop) (cl:List Cl) (us:List Value) (G:Nat→Nat→Prop):Prop where
 len:us.length=cl.length
 dis:∀ k k' x,G k x→G k' x→k=k'
 rd:∀ (k:Nat) (c:Cl),cl[k]?=some c→∃ y,us[k]?=some y∧RdO w St c y (G k)
def mkV (g:Bool) (us:List Value):Value:=if g=true then .agg us.toArray else us.headD Go.undef
def mkA (g:Bool) (cl:List Cl):AV:=if g=true then .agg cl else .c (cl.headD (.v (.bool false)))
def MCtr (P:Program) (f:FuncId) (g:Bool) (cl:List Cl) (args:List AV) (Q:List Cl→List AV→Prop):Prop:=
 CallsIn P f∧(g=true∨cl.length=1)∧∀ (w:World) (St:Nat→Nat→Prop) (us:List Value) (G:Nat→Nat→Prop) (vs:List Value),(∀ b o,St b o→b<w.heap.size)→(∀ k x,G k x→x<w.heap.size∧∀ o,¬ St x o)→RdL2 w St cl us G→RdAs w St args vs →
  Calls P f (mkV g us::vs).toArray w fun e w'=>∃ cl' rs rv G',Q cl' rs∧e = .returned (XK rv)∧Below 0 w w'∧(∀ k,k<w.heap.size→(∀ j,¬ G j k)→w'.heap[k]?=w.heap[k]?)∧(∀ k,k<w.heap.size→qx w' k=qx w k) ∧
   RdAs w' St rs rv∧RdL2 w' St cl' us G'∧∀ k x,G' k x→(∃ j,G j x)∨(w.heap.size≤x∧x<w'.heap.size)
def JI (st:List Ob):List Cl→List Cl→List Ob
 | .ref l::zs,.ow ty sz xs::ys=>JI (st.set l ⟨ty,sz,xs,true,true⟩) zs ys
 | .ref _::zs,_::ys=>JI st zs ys
 | .v _::zs,_::ys=>JI st zs ys
 | .sl _::zs,_::ys=>JI st zs ys
 | .ow _ _ _::zs,_::ys=>JI st zs ys
 | [],_=>st
 | _::_,[]=>st
def Yz:List Cl→List Cl→Prop
 | [],[]=>True
 | .ow ty sz _::a,d::b=>(match d with | .ow ty' sz' _=>ty'=ty∧sz'=sz | _=>False)∧Yz a b
 | c::a,d::b=>d=c∧Yz a b
 | _,_=>False
theorem Vh:∀ (zs ys:List Cl) (st:List Ob),(JI st zs ys).length=st.length
 | [],ys,st=>by cases ys<;>rfl
 | z::zs,[],st=>by cases z<;>rfl
 | z::zs,y::ys,st=>by
  cases z with
  | ref l=>cases y<;>simp[JI,Vh zs ys]
  | _=>simp[JI,Vh zs ys]
theorem ZJ:∀ (zs ys:List Cl) (st:List Ob),(∀ (k k' l:Nat),zs[k]?=some (.ref l)→zs[k']?=some (.ref l)→k=k')→∀ (l:Nat) (ob:Ob),(JI st zs ys)[l]?=some ob →
  (st[l]?=some ob∧∀ (k ty sz:Nat) (xs:List (List Cl)),zs[k]?=some (.ref l)→ys[k]?≠some (.ow ty sz xs))∨∃ (k ty sz:Nat) (xs:List (List Cl)),zs[k]?=some (.ref l)∧ys[k]?=some (.ow ty sz xs)∧ob=⟨ty,sz,xs,true,true⟩
 | [],ys,st,hd,l,ob,h=>by
  have:JI st [] ys=st:=by cases ys<;>rfl
  grind
 | z::zs,[],st,hd,l,ob,h=>by
  have:JI st (z::zs) []=st:=by cases z<;>rfl
  grind
 | z::zs,y::ys,st,hd,l,ob,h=>by
  have hd':∀ (k k' l:Nat),zs[k]?=some (.ref l)→zs[k']?=some (.ref l)→k=k':=fun k k' l h1 h2=>by
   have:=hd (k+1) (k'+1) l AOk AOk
   omega
  have skip:(JI st zs ys)[l]?=some ob→(∀ (ty sz:Nat) (xs:List (List Cl)),z = .ref l→y≠ .ow ty sz xs)→(st[l]?=some ob∧∀ (k ty sz:Nat) (xs:List (List Cl)),(z::zs)[k]?=some (.ref l)→(y::ys)[k]?≠some (.ow ty sz xs))∨∃ (k ty sz:Nat) (xs:List (List Cl)),(z::zs)[k]?=some (.ref l)∧(y::ys)[k]?=some (.ow ty sz xs)∧ob=⟨ty,sz,xs,true,true⟩:=by
   intro h hz
   rcases ZJ zs ys st hd' l ob h with ⟨q1,q2⟩ | ⟨k,ty,sz,xs,q1,q2,q3⟩
   ·grind
   ·exact .inr ⟨k+1,ty,sz,xs,AOk,AOk,q3⟩
  cases z with
  | v x=>exact skip APb (fun _ _ _ e=>by cases e)
  | sl x=>exact skip APb (fun _ _ _ e=>by cases e)
  | ow t n x=>exact skip APb (fun _ _ _ e=>by cases e)
  | ref l0 =>
   cases y with
   | v x=>exact skip APb (fun _ _ _ _ e=>by cases e)
   | sl x=>exact skip APb (fun _ _ _ _ e=>by cases e)
   | ref x=>exact skip APb (fun _ _ _ _ e=>by cases e)
   | ow ty sz xs =>
    simp only[JI] at h
    rcases ZJ zs ys _ hd' l ob h with ⟨q1,q2⟩ | ⟨k,t,n,x,q1,q2,q3⟩
    ·grind [aQ,ak,Cl.ref.injEq]
    ·exact .inr ⟨k+1,t,n,x,AOk,AOk,q3⟩
theorem ZK:∀ (zs ys:List Cl) (st:List Ob) (l:Nat) (ob:Ob),(∀ (k k' l:Nat),zs[k]?=some (.ref l)→zs[k']?=some (.ref l)→k=k')→st[l]?=some ob →
  ∃ ob',(JI st zs ys)[l]?=some ob'∧(ob'=ob∨∃ (k ty sz:Nat) (xs:List (List Cl)),zs[k]?=some (.ref l)∧ys[k]?=some (.ow ty sz xs)∧ob'=⟨ty,sz,xs,true,true⟩):=by
 grind [Vh,aF,au,ZJ,uV]
theorem OQ {st:List Ob}:∀ (xs ys:List Cl) (us:List Nat) (K:List Nat→Prop),OwnL st xs ys us K→∀ (k l:Nat),xs[k]?=some (.ref l)→l∉us∧∃ ob,DT st l=some ob∧ob.wr=true∧DI ob.xs=true∧ys[k]?=some (.ow ob.ty ob.sz ob.xs)
 | [],ys,us,K,ho,k,l,hk=>APM
 | x::xs,[],us,K,ho,k,l,hk=>AP6
 | x::xs,y::ys,us,K,ho,k,l,hk=>by
  have plain:x=y∧AB y=true∧OwnL st xs ys us K→l∉us∧∃ ob,DT st l=some ob∧ob.wr=true∧DI ob.xs=true∧(y::ys)[k]?=some (.ow ob.ty ob.sz ob.xs):=by
   rintro⟨rfl,hp,hrest⟩
   cases k with
   | zero=>simp only[aQ,ak] at hk; subst hk; simp[AB] at hp
   | succ k=>simpa using OQ xs ys us K hrest k l AOk
  cases y with
  | v z=>exact plain AOu
  | sl z=>exact plain AOu
  | ref z=>exact plain AOu
  | ow ty sz zs =>
   simp only[OwnL] at ho
   split at ho
   ·rename_i l0
    split at ho
    ·rename_i ob hob
     obtain⟨rfl,rfl,rfl,hwr,hnr,hnu,hrest⟩:=ho
     cases k with
     | zero =>
      grind
     | succ k =>
      obtain⟨q1,q2⟩:=OQ xs ys _ K hrest k l AOk
      grind
    grind
   ·cases k with
    | zero=>simp at hk
    | succ k=>simpa using OQ xs ys us K ho.2 k l AOk
   grind
theorem XO {st:List Ob}:∀ (xs ys:List Cl) (us:List Nat) (K:List Nat→Prop),OwnL st xs ys us K→∀ (k k' l:Nat),xs[k]?=some (.ref l)→xs[k']?=some (.ref l)→k=k'
 | [],ys,us,K,ho,k,k',l,hk,_=>APM
 | x::xs,[],us,K,ho,k,k',l,hk,_=>AP6
 | x::xs,y::ys,us,K,ho,k,k',l,hk,hk'=>by
  have key:∀ us',OwnL st xs ys us' K→(x = .ref l→l∈us')→k=k':=by
   intro us' hrest hx
   cases k with
   | zero =>
    grind [aQ,ak,OQ]
   | succ k =>
    cases k' with
    | zero =>
     grind [aQ,ak,OQ]
    | succ k' =>
     have:=XO xs ys us' K hrest k k' l AOk AOk
     omega
  have plain:x=y∧AB y=true∧OwnL st xs ys us K→k=k':=by
   rintro⟨rfl,hp,hrest⟩
   exact key us hrest fun e=>by subst e; simp[AB] at hp
  cases y with
  | v z=>exact plain AOu
  | sl z=>exact plain AOu
  | ref z=>exact plain AOu
  | ow ty sz zs =>
   simp only[OwnL] at ho
   grind
theorem pJ:∀ {a b:List Cl},Yz a b→∀ (k:Nat) (ty sz:Nat) (xs:List (List Cl)),a[k]?=some (.ow ty sz xs)→∃ xs',b[k]?=some (.ow ty sz xs')
 | [],[],h,k,ty,sz,xs,hk=>APM
 | [],d::b,h,k,ty,sz,xs,hk=>APM
 | c::a,[],h,k,ty,sz,xs,hk=>by cases c<;>simp[Yz] at h
 | c::a,d::b,h,k,ty,sz,xs,hk=>by
  have tl:Yz a b→∀ (k:Nat),a[k]?=some (Cl.ow ty sz xs)→∃ xs',b[k]?=some (Cl.ow ty sz xs'):=fun h k hk=>pJ h k ty sz xs hk
  cases c with
  | ow t n x =>
   simp only[Yz] at h
   grind
  | v x =>
   simp only[Yz] at h
   grind
  | sl x =>
   simp only[Yz] at h
   grind
  | ref x =>
   simp only[Yz] at h
   grind
theorem AEC (h:Core w0 St0 St β s a w) {φ:Nat→Nat→Nat→Prop} (hφ:VZ w0 w St s.st β φ) {zs cl cl':List Cl} {us:List Value} {G G':Nat→Nat→Prop} {w':World} {St':Nat→Nat→Prop} {K:List Nat→Prop}
  (ho:OwnL s.st zs cl [] K) (hz:∀ (k:Nat) (c:Cl),zs[k]?=some c→∃ y,us[k]?=some y∧RdC w St s.st β c y)
  (hG:∀ k x,G k x→∃ l,zs[k]?=some (.ref l)∧Fp s.st β φ l x) (hsh:Yz cl cl')
  (hb:Below 0 w w') (hblk:∀ k,k<w.heap.size→(∀ j,¬ G j k)→w'.heap[k]?=w.heap[k]?) (hbs:∀ k,k<w.heap.size→qx w' k=qx w k) (hS:∀ b o,St b o→St' b o) (hSo:∀ b o,St' b o→b<w.heap.size→St b o) (hSi:∀ b o,St' b o→b<w'.heap.size)
  (hr:RdL2 w' St' cl' us G') (hG':∀ k x,G' k x→(∃ j,G j x)∨(w.heap.size≤x∧x<w'.heap.size∧∀ o,¬ St' x o)):Core w0 St0 St' β ⟨s.n,s.env,JI s.st zs cl'⟩ a w':=by
 have hd:=XO zs cl [] K ho
 have hwr:∀ (k l:Nat) (ob:Ob),zs[k]?=some (.ref l)→s.st[l]?=some ob→ob.wr=true∧ob.live=true∧cl[k]?=some (.ow ob.ty ob.sz ob.xs):=fun k l ob hk hl=>by
  obtain⟨_,ob',h1,h2,_,h4⟩:=OQ zs cl [] K ho k l hk
  obtain⟨h5,h6⟩:=CS h1
  rw[hl] at h5; cases h5
  exact⟨h2,h6,h4⟩
 have hGf:∀ k x,G k x→w0.may x∧x<w.heap.size∧∀ o,¬ St x o:=fun k x hx=>by
  obtain⟨l,q1,q2⟩:=hG k x hx
  exact Va h hφ q2 fun ob hob=>(hwr k l ob q1 hob).1
 have hG'f:∀ k x,G' k x→w0.may x∧x<w'.heap.size∧∀ o,¬ St' x o:=fun k x hx=>by
  rcases hG' k x hx with ⟨j,hj⟩ | ⟨q1,q2,q3⟩
  ·obtain⟨p1,p2,p3⟩:=hGf j x hj
   exact⟨p1,bP p2 hb.size,fun o ho=>p3 o (hSo x o ho p2)⟩
  ·exact⟨.inl (Nat.le_trans h.below.size q1),q2,q3⟩
 have hkeep:∀ (l:Nat) (x:Nat),Fp s.st β φ l x→x<w.heap.size→(∀ k:Nat,zs[k]?≠some (.ref l))→w'.heap[x]?=w.heap[x]?:=fun l x hx hlt hno=>hblk x hlt fun j hj=>by
  obtain⟨l2,q1,q2⟩:=hG j x hj
  have:=JQ h hφ hx q2
  subst this
  exact hno j q1
 have hcell:∀ b o,St b o→w'.cell? ⟨b,o,none⟩=w.cell? ⟨b,o,none⟩:=fun b o hbo=>cell_of_block (hblk b (h.stIn b o hbo) fun j hj=>(hGf j b hj).2.2 o hbo)
 have hnew:∀ (k l ty sz:Nat) (xs:List (List Cl)) (ob:Ob),zs[k]?=some (.ref l)→cl'[k]?=some (.ow ty sz xs)→s.st[l]?=some ob→ty=ob.ty∧sz=ob.sz∧xs.length=ob.xs.length∧(β l=none→xs = []) ∧
   ∀ b,β l=some b→∃ (cs cs':Array Value) (H:Nat→Nat→Prop),w.heap[b]?=some (.cells cs ob.ty (0,0))∧w'.heap[b]?=some (.cells cs' ob.ty (0,0))∧(∀ x∈xs,x.length=ob.sz)∧(∃ cap,cs.size=cap*ob.sz∧cs'.size=cap*ob.sz)∧G' k b ∧
    (∀ m x,H m x→G' k x∧x≠b)∧(∀ m m' x,H m x→H m' x→m=m')∧∀ (m:Nat) (c:Cl),xs.flatten[m]?=some c→∃ y,cs'[m]?=some y∧RdO w' St' c y (H m):=by
  intro k l ty sz xs ob hk hk' hl
  obtain⟨_,hlv,hcl⟩:=hwr k l ob hk hl
  obtain⟨xs2,hxs2⟩:=pJ hsh k _ _ _ hcl
  rw[hk'] at hxs2
  simp only[ak,Cl.ow.injEq] at hxs2
  obtain⟨rfl,rfl,rfl⟩:=hxs2
  obtain⟨y,hy,hyr⟩:=hz k _ hk
  obtain⟨y2,hy2,hro⟩:=hr.rd k _ hk'
  rw[hy] at hy2; cases hy2
  simp only[RdC,BN,hl] at hyr
  have hyr2:=hyr.2 hlv
  simp only[RdO] at hro
  cases hβ:β l with
  | none =>
   simp only[hβ] at hyr2
   obtain⟨rfl,hox⟩:=hyr2
   rcases hro with ⟨_,rfl⟩ | ⟨b,cap,cs,H,e1,_⟩
   ·exact⟨rfl,rfl,by rw[hox],fun _=>rfl,(fun b hb=>by cases hb)⟩
   ·cases e1
  | some b =>
   simp only[hβ] at hyr2
   obtain⟨cap0,cs0,e0,_,_,c4,c5⟩:=hyr2
   rcases hro with ⟨e1,_⟩ | ⟨b',cap,cs,H,e1,e2,e3,e4,e5,e6,e7,e8,e9,e10⟩
   ·rw[e0] at e1; cases e1
   ·rw[e0] at e1
    simp only[Value.slice.injEq,ak,Addr.mk.injEq,abG] at e1
    obtain⟨rfl,e11,rfl⟩:=e1
    refine⟨rfl,rfl,e11.symm,(fun h=>APk),fun b2 hb2=>?_⟩
    cases hb2
    exact⟨cs0,cs,H,c4,e4,e6,⟨cap0,c5,e5⟩,e7,e8,e9,fun m c hm=>by simpa using e10.at hm⟩
 have hold:∀ (l:Nat) (o2:Ob),s.st[l]?=some o2→∃ o3,(JI s.st zs cl')[l]?=some o3∧o3.sz=o2.sz∧o3.ty=o2.ty∧o3.xs.length=o2.xs.length∧(o3.live=true→o2.live=true):=by
  intro l o2 hl
  obtain⟨o3,q1,q2⟩:=ZK zs cl' s.st l o2 hd hl
  rcases q2 with rfl | ⟨k,ty,sz,xs,p1,p2,rfl⟩
  ·exact⟨o3,q1,rfl,rfl,rfl,id⟩
  ·obtain⟨r1,r2,r3,_⟩:=hnew k l ty sz xs o2 p1 p2 hl
   exact⟨_,q1,r2,r1,r3,fun _=>(hwr k l o2 p1 hl).2.1⟩
 have hback:∀ (l:Nat) (o3:Ob),(JI s.st zs cl')[l]?=some o3→∃ o2,s.st[l]?=some o2∧((o3=o2∧∀ k:Nat,zs[k]?≠some (.ref l))∨∃ (k ty sz:Nat) (xs:List (List Cl)),zs[k]?=some (.ref l)∧cl'[k]?=some (.ow ty sz xs)∧o3=⟨ty,sz,xs,true,true⟩):=by
  intro l o3 h3
  have hl:l<s.st.length:=by
   have:=(aF.1 h3).1
   rwa [Vh] at this
  refine⟨s.st[l],au hl, ?_⟩
  rcases ZJ zs cl' s.st hd l o3 h3 with ⟨q1,q2⟩ | q
  ·refine .inl ⟨by rw[au hl] at q1; exact(uV q1).symm,fun k hk=>?_⟩
   obtain⟨_,_,hcl⟩:=hwr k l _ hk (au hl)
   obtain⟨xs',hxs'⟩:=pJ hsh k _ _ _ hcl
   exact q2 k _ _ _ hk hxs'
  ·exact .inr q
 have hr':∀ (l:Nat) (u:Value),BN w s.st β l u→BN w' (JI s.st zs cl') β l u:=by
  intro l u hu
  unfold BN at hu ⊢
  cases hq:s.st[l]? with
  | none=>simp[hq] at hu
  | some o2 =>
   simp only[hq] at hu
   obtain⟨o3,q1,q2⟩:=ZK zs cl' s.st l o2 hd hq
   simp only[q1]
   rcases q2 with rfl | ⟨k,ty,sz,xs,p1,p2,rfl⟩
   ·refine⟨hu.1,fun hlv=>?_⟩
    have h2:=hu.2 hlv
    obtain⟨o2',t1,t2⟩:=hback l o3 q1
    rw[hq] at t1; cases t1
    cases hβ:β l with
    | none=>simpa only[hβ] using h2
    | some b =>
     simp only[hβ] at h2 ⊢
     rcases t2 with ⟨_,hno⟩ | ⟨k,ty,sz,xs,p1,p2,e⟩
     ·rw[hkeep l b ⟨o3,hq,hlv,.inl hβ⟩ (h.obs l o3 b hq hlv hβ).2.1 hno]
      exact h2
     ·obtain⟨r1,r2,r3,r4,r5⟩:=hnew k l ty sz xs o3 p1 p2 hq
      obtain⟨cs,cs',H,c1,c2,c3,⟨cap,c4,c5⟩,_⟩:=r5 b hβ
      obtain⟨cap0,cs0,e1,e2,e3,e4,e5⟩:=h2
      rw[c1] at e4; cases e4
      exact⟨cap0,cs',e1,e2,e3,c2,by rw[c5,← c4,e5]⟩
   ·refine⟨hu.1,fun _=>?_⟩
    obtain⟨r1,r2,r3,r4,r5⟩:=hnew k l ty sz xs o2 p1 p2 hq
    subst r1 r2
    have h2:=hu.2 (hwr k l o2 p1 hq).2.1
    cases hβ:β l with
    | none=>simp only[hβ] at h2 ⊢; exact⟨h2.1,r4 hβ⟩
    | some b =>
     simp only[hβ] at h2 ⊢
     obtain⟨cs,cs',H,c1,c2,c3,⟨cap,c4,c5⟩,_⟩:=r5 b hβ
     obtain⟨cap0,cs0,e1,e2,e3,e4,e5⟩:=h2
     rw[c1] at e4; cases e4
     exact⟨cap0,cs',by rw[r3]; exact e1,by rw[r3]; exact e2,e3,c2,by rw[c5,← c4,e5]⟩
 have hp':∀ (l i off:Nat) (u:Value),AVR w St s.st β (.lp l i off) u→AVR w' St' (JI s.st zs cl') β (.lp l i off) u:=by
  intro l i off u hu
  simp only[AVR] at hu ⊢
  cases hq:s.st[l]? with
  | none=>simp[hq] at hu
  | some o2 =>
   obtain⟨o3,p1,p2,_,_,p5⟩:=hold l o2 hq
   simp only[hq] at hu
   simp only[p1,p2]
   exact fun hlv=>hu (p5 hlv)
 have hBB:∀ (c:Cl) (u:Value),RdB w St s.st β c u→RdB w' St' (JI s.st zs cl') β c u:=fun c u hu=>RdB.mono hS hcell hr' c u hu
 have hFpw:∀ (l:Nat) (ob:Ob) (b:Nat),s.st[l]?=some ob→ob.live=true→β l=some b→b<w.heap.size:=fun l ob b h1 h2 h3=>(h.obs l ob b h1 h2 h3).2.1
 exact {
  defers:=h.defers
  size:=h.size
  lim:=h.lim
  env:=fun i=>AVR.mono hS hcell hr' hp' _ _ (h.env i)
  below:=h.below.step hb (fun k h1 h2=>hblk k (bP h1 h.below.size) fun j hj=>by
   rcases(hGf j k hj).1 with h3 | h3
   ·omega
   ·exact h2 h3) fun k hk=>hbs k (bP hk h.below.size)
  st0:=fun b o hbo=>hS b o (h.st0 b o hbo)
  stOld:=fun b o hbo hlt hno=>h.stOld b o (hSo b o hbo (bP hlt h.below.size)) hlt hno
  stIn:=hSi
  obs:=fun l o3 b h3 hlv hβ=>by
   obtain⟨o2,q1,q2⟩:=hback l o3 h3
   rcases q2 with ⟨rfl,hno⟩ | ⟨k,ty,sz,xs,p1,p2,rfl⟩
   ·obtain⟨t1,t2,cs,g1,g2,g3⟩:=h.obs l o3 b q1 hlv hβ
    refine⟨t1,bP t2 hb.size,cs,by rw[hkeep l b ⟨o3,q1,hlv,.inl hβ⟩ t2 hno]; exact g1,g2,fun m c hm=>?_⟩
    obtain⟨u,hu,hc⟩:=g3 m c hm
    exact⟨u,hu,hBB c u hc⟩
   ·obtain⟨hw1,hlv1,_⟩:=hwr k l o2 p1 q1
    obtain⟨r1,r2,r3,r4,r5⟩:=hnew k l ty sz xs o2 p1 p2 q1
    subst r1 r2
    obtain⟨t1,t2,_⟩:=h.obs l o2 b q1 hlv1 hβ
    obtain⟨cs,cs',H,c1,c2,c3,_,_,_,_,c8⟩:=r5 b hβ
    refine⟨t1,bP t2 hb.size,cs',c2,c3,fun m c hm=>?_⟩
    obtain⟨y,hy,hc⟩:=c8 m c hm
    exact⟨y,hy,hc.toB⟩
  nil:=fun l o3 h3 hlv hβ=>by
   obtain⟨o2,q1,q2⟩:=hback l o3 h3
   rcases q2 with ⟨rfl,hno⟩ | ⟨k,ty,sz,xs,p1,p2,rfl⟩
   ·exact h.nil l o3 q1 hlv hβ
   ·exact(hnew k l ty sz xs o2 p1 p2 q1).2.2.2.1 hβ
  inj:=fun l l' o1 o2 b h1 h2 h3 h4 h5 h6=>by
   have key:∀ (l:Nat) (o3:Ob),(JI s.st zs cl')[l]?=some o3→o3.live=true→∃ o2,s.st[l]?=some o2∧o2.live=true:=by
    intro l o3 h3 hlv
    obtain⟨o2,q1,q2⟩:=hback l o3 h3
    rcases q2 with ⟨rfl,hno⟩ | ⟨k,ty,sz,xs,p1,p2,rfl⟩
    ·exact⟨o3,q1,hlv⟩
    ·exact⟨o2,q1,(hwr k l o2 p1 q1).2.1⟩
   exact ANC
  sep:=fun l o3 b o h3 hlv hβ hbo=>by
   obtain⟨o2,q1,q2⟩:=hback l o3 h3
   rcases q2 with ⟨rfl,hno⟩ | ⟨k,ty,sz,xs,p1,p2,rfl⟩
   ·exact h.sep l o3 b o q1 hlv hβ (hSo b o hbo (hFpw l o3 b q1 hlv hβ))
   ·obtain⟨hw1,hlv1,_⟩:=hwr k l o2 p1 q1
    have:=(h.sep l o2 b o q1 hlv1 hβ (hSo b o hbo (hFpw l o2 b q1 hlv1 hβ))).1
    rw[hw1] at this
    cases this
  own:=by
   have hH:∀ l,∃ Hl:Nat→Nat→Prop,∀ (k ty sz:Nat) (xs:List (List Cl)) (ob:Ob) (b:Nat),zs[k]?=some (.ref l)→cl'[k]?=some (.ow ty sz xs)→s.st[l]?=some ob→β l=some b →
     ∃ cs':Array Value,w'.heap[b]?=some (.cells cs' ob.ty (0,0))∧G' k b∧(∀ m x,Hl m x→G' k x∧x≠b)∧(∀ m m' x,Hl m x→Hl m' x→m=m')∧∀ (m:Nat) (c:Cl),xs.flatten[m]?=some c→∃ y,cs'[m]?=some y∧RdO w' St' c y (Hl m):=by
    intro l
    by_cases hex:∃ (k ty sz:Nat) (xs:List (List Cl)) (ob:Ob) (b:Nat),zs[k]?=some (.ref l)∧cl'[k]?=some (.ow ty sz xs)∧s.st[l]?=some ob∧β l=some b
    ·obtain⟨k,ty,sz,xs,ob,b,h1,h2,h3,h4⟩:=hex
     obtain⟨_,_,_,_,r5⟩:=hnew k l ty sz xs ob h1 h2 h3
     obtain⟨cs,cs',H,c1,c2,c3,c4,c5,c6,c7,c8⟩:=r5 b h4
     refine⟨H,fun k2 ty2 sz2 xs2 ob2 b2 g1 g2 g3 g4=>?_⟩
     have:=hd k k2 l h1 g1
     subst this
     rw[h2] at g2; cases g2
     rw[h3] at g3; cases g3
     rw[h4] at g4; cases g4
     exact⟨cs',c2,c5,c6,c7,c8⟩
    ·exact⟨fun _ _=>False,fun k ty sz xs ob b h1 h2 h3 h4=>(hex ⟨k,ty,sz,xs,ob,b,h1,h2,h3,h4⟩).elim⟩
   obtain⟨HH,hHH⟩:=Classical.axiomOfChoice hH
   have hwrit:∀ (l:Nat),(∃ (k ty sz:Nat) (xs:List (List Cl)) (ob:Ob) (b:Nat),zs[k]?=some (.ref l)∧cl'[k]?=some (.ow ty sz xs)∧s.st[l]?=some ob∧β l=some b)→∀ m x,HH l m x→∃ k b,zs[k]?=some (.ref l)∧β l=some b∧G' k b∧G' k x∧x≠b:=by
    rintro l ⟨k,ty,sz,xs,ob,b,h1,h2,h3,h4⟩ m x hx
    obtain⟨cs',q1,q2,q3,q4,q5⟩:=hHH l k ty sz xs ob b h1 h2 h3 h4
    exact⟨k,b,h1,h4,q2,(q3 m x hx).1,(q3 m x hx).2⟩
   refine⟨fun l m x=>((∃ (k ty sz:Nat) (xs:List (List Cl)) (ob:Ob) (b:Nat),zs[k]?=some (.ref l)∧cl'[k]?=some (.ow ty sz xs)∧s.st[l]?=some ob∧β l=some b)∧HH l m x)∨((∀ k:Nat,zs[k]?≠some (.ref l))∧φ l m x), ?_, ?_, ?_⟩
   ·intro l o3 b m c h3 hlv hβ hm hc
    obtain⟨o2,q1,q2⟩:=hback l o3 h3
    rcases q2 with ⟨rfl,hno⟩ | ⟨k,ty,sz,xs,p1,p2,rfl⟩
    ·obtain⟨u,hu,hro⟩:=hφ.1 l o3 b m c q1 hlv hβ hm hc
     have hlt:=hFpw l o3 b q1 hlv hβ
     refine⟨u,by rw[cell_of_block (hkeep l b ⟨o3,q1,hlv,.inl hβ⟩ hlt hno)]; exact hu,RdO.mono hS hcell c u _ _ (fun x hx=>.inr ⟨hno,hx⟩) (fun x hx=>?_) hro⟩
     exact hkeep l x ⟨o3,q1,hlv,.inr ⟨m,hx⟩⟩ (hφ.2.1 l m x hx).2.2.2.1 hno
    ·obtain⟨cs',t1,t2,t3,t4,t5⟩:=hHH l k ty sz xs o2 b p1 p2 q1 hβ
     obtain⟨y,hy,hro⟩:=t5 m c hm
     exact⟨y,by simp[World.cell?,t1,hy],RdO.mono (fun _ _ h=>h) (fun _ _ _=>rfl) c y _ _ (fun x hx=>.inl ⟨⟨k,ty,sz,xs,o2,b,p1,p2,q1,hβ⟩,hx⟩) (fun _ _=>rfl) hro⟩
   ·rintro l m x (⟨hex,hx⟩ | ⟨hno,hx⟩)
    ·obtain⟨k,b,p1,p2,p3,p4,p5⟩:=hwrit l hex m x hx
     obtain⟨k2,ty,sz,xs,ob,b2,g1,g2,g3,g4⟩:=hex
     obtain⟨t1,t2,t3⟩:=hG'f k x p4
     obtain⟨o3,s1,s2⟩:=ZK zs cl' s.st l ob hd g3
     have hlv3:o3.live=true:=by
      rcases s2 with rfl | ⟨_,_,_,_,_,_,rfl⟩
      ·exact(hwr k2 l o3 g1 g3).2.1
      ·rfl
     refine⟨⟨o3,b2,s1,hlv3,g4⟩,t1,fun h=>h,t2,t3,fun l' o4 h4 hlv hb'=>?_⟩
     obtain⟨o5,u1,u2⟩:=hback l' o4 h4
     rcases u2 with ⟨rfl,hno'⟩ | ⟨k',ty',sz',xs',v1,v2,rfl⟩
     ·rcases hG' k x p4 with ⟨j,hj⟩ | ⟨q1,_⟩
      ·obtain⟨l2,w1,w2⟩:=hG j x hj
       have:=JQ h hφ ⟨o4,u1,hlv,.inl hb'⟩ w2
       subst this
       exact hno' j w1
      ·have:=hFpw l' o4 x u1 hlv hb'
       omega
     ·obtain⟨cs',z1,z2,_⟩:=hHH l' k' ty' sz' xs' o5 x v1 v2 u1 hb'
      have:=hr.dis k k' x p4 z2
      subst this
      rw[p1] at v1
      simp only[ak,Cl.ref.injEq] at v1
      subst v1
      rw[p2] at hb'
      exact p5 (uV hb').symm
    ·obtain⟨⟨o2,b,p1,p2,p3⟩,q1,_,q3,q4,q5⟩:=hφ.2.1 l m x hx
     obtain⟨o3,s1,s2⟩:=ZK zs cl' s.st l o2 hd p1
     have hlv3:o3.live=true:=by
      rcases s2 with rfl | ⟨_,_,_,_,_,_,rfl⟩
      ·exact p2
      ·rfl
     refine⟨⟨o3,b,s1,hlv3,p3⟩,q1,fun h=>h,bP q3 hb.size,fun o ho'=>q4 o (hSo x o ho' q3),fun l' o4 h4 hlv=>?_⟩
     obtain⟨o5,u1,u2⟩:=hback l' o4 h4
     rcases u2 with ⟨rfl,_⟩ | ⟨k',ty',sz',xs',v1,v2,rfl⟩
     ·exact q5 l' o4 u1 hlv
     ·exact q5 l' o5 u1 (hwr k' l' o5 v1 u1).2.1
   ·rintro l l' m m' x (⟨hex,hx⟩ | ⟨hno,hx⟩) (⟨hex',hx'⟩ | ⟨hno',hx'⟩)
    ·obtain⟨k,b,p1,p2,p3,p4,p5⟩:=hwrit l hex m x hx
     obtain⟨k',b',p1',p2',p3',p4',p5'⟩:=hwrit l' hex' m' x hx'
     have:=hr.dis k k' x p4 p4'
     subst this
     rw[p1] at p1'
     simp only[ak,Cl.ref.injEq] at p1'
     subst p1'
     obtain⟨k2,ty,sz,xs,ob,b2,g1,g2,g3,g4⟩:=hex
     obtain⟨cs',z1,z2,z3,z4,z5⟩:=hHH l k2 ty sz xs ob b2 g1 g2 g3 g4
     exact⟨rfl,z4 m m' x hx hx'⟩
    ·obtain⟨k,b,p1,p2,p3,p4,p5⟩:=hwrit l hex m x hx
     obtain⟨⟨o2,b2,t1,t2,t3⟩,_,_,q3,_⟩:=hφ.2.1 l' m' x hx'
     rcases hG' k x p4 with ⟨j,hj⟩ | ⟨q1,_⟩
     ·obtain⟨l2,w1,w2⟩:=hG j x hj
      have:=JQ h hφ ⟨o2,t1,t2,.inr ⟨m',hx'⟩⟩ w2
      subst this
      exact absurd w1 (hno' j)
     ·omega
    ·obtain⟨k,b,p1,p2,p3,p4,p5⟩:=hwrit l' hex' m' x hx'
     obtain⟨⟨o2,b2,t1,t2,t3⟩,_,_,q3,_⟩:=hφ.2.1 l m x hx
     rcases hG' k x p4 with ⟨j,hj⟩ | ⟨q1,_⟩
     ·obtain⟨l2,w1,w2⟩:=hG j x hj
      have:=JQ h hφ ⟨o2,t1,t2,.inr ⟨m,hx⟩⟩ w2
      subst this
      exact absurd w1 (hno j)
     ·omega
    ·exact hφ.2.2 l l' m m' x hx hx' }
theorem eF {st:List Ob}:∀ (xs ys:List Cl) (us:List Nat) (K:List Nat→Prop),OwnL st xs ys us K→ys.length=xs.length∧∀ (k:Nat) (x:Cl),xs[k]?=some x →
  (∃ l ob,x = .ref l∧DT st l=some ob∧ob.wr=true∧DI ob.xs=true∧ys[k]?=some (.ow ob.ty ob.sz ob.xs))∨(ys[k]?=some x∧AB x=true)∨(x = .v (.slice none 0 0)∧∃ ty sz,ys[k]?=some (.ow ty sz []))
 | [],ys,us,K,ho=>by
  cases ys with
  | nil=>grind
  | cons y ys=>cases y<;>simp[OwnL] at ho
 | x::xs,[],us,K,ho=>AP6
 | x::xs,y::ys,us,K,ho=>by
  have cons:∀ us',OwnL st xs ys us' K→((∃ l ob,x = .ref l∧DT st l=some ob∧ob.wr=true∧DI ob.xs=true∧y = .ow ob.ty ob.sz ob.xs)∨(y=x∧AB x=true)∨(x = .v (.slice none 0 0)∧∃ ty sz,y = .ow ty sz [])) →
    (y::ys).length=(x::xs).length∧∀ (k:Nat) (x2:Cl),(x::xs)[k]?=some x2→(∃ l ob,x2 = .ref l∧DT st l=some ob∧ob.wr=true∧DI ob.xs=true∧(y::ys)[k]?=some (.ow ob.ty ob.sz ob.xs))∨((y::ys)[k]?=some x2∧AB x2=true)∨(x2 = .v (.slice none 0 0)∧∃ ty sz,(y::ys)[k]?=some (.ow ty sz [])):=by
   intro us' hrest hx
   obtain⟨q1,q2⟩:=eF xs ys us' K hrest
   refine⟨by simp[q1],fun k x2 hk=>?_⟩
   cases k with
   | zero =>
    grind
   | succ k=>grind
  cases y with
  | v z=>simp only[OwnL] at ho; grind
  | sl z=>simp only[OwnL] at ho; grind
  | ref z=>simp only[OwnL] at ho; grind
  | ow ty sz zs =>
   simp only[OwnL] at ho
   split at ho
   ·rename_i l
    split at ho
    ·grind
    grind
   ·grind
   grind
theorem AAy (h:Core w0 St0 St β s a w) {φ:Nat→Nat→Nat→Prop} (hφ:VZ w0 w St s.st β φ) {zs cl:List Cl} {K:List Nat→Prop} {us:List Value} (ho:OwnL s.st zs cl [] K) (hlen:us.length=zs.length)
  (hz:∀ (k:Nat) (c:Cl),zs[k]?=some c→∃ y,us[k]?=some y∧RdC w St s.st β c y):RdL2 w St cl us (fun k x=>∃ l,zs[k]?=some (.ref l)∧Fp s.st β φ l x):=by
 obtain⟨q1,q2⟩:=eF zs cl [] K ho
 refine⟨AOh,fun k k' x ⟨l,h1,h2⟩ ⟨l',h1',h2'⟩=>?_,fun k c hk=>?_⟩
 ·grind [JQ,XO]
 ·have hkz:k<zs.length:=by rw[← q1]; exact(aF.1 hk).1
  obtain⟨y,hy,hr⟩:=hz k _ (au hkz)
  refine⟨y,hy, ?_⟩
  rcases q2 k _ (au hkz) with ⟨l,ob,e1,e2,_,e4,e5⟩ | ⟨e1,e2⟩ | ⟨e1,ty,sz,e2⟩
  ·rw[hk] at e5
   cases e5
   rw[e1] at hr
   exact RdO.mono (fun _ _ h=>h) (fun _ _ _=>rfl) _ y _ _ (fun x hx=>⟨l,AOk,hx⟩) (fun _ _=>rfl) (zD h hφ e2 e4 hr)
  ·grind [RdO.plain,Lc,VT]
  ·rw[hk] at e2
   cases e2
   rw[e1] at hr
   simp only[RdC,RdD] at hr
   simp only[RdO]
   grind
section
variable {P:Program} {Q:Exit→Act→World→Prop}
def Hw (ops:Array Oper):Array Bool→List Nat→Prop
 | listed,[]=>Region.ready .any ops listed = []
 | listed,i::L=>i∈Region.ready .any ops listed∧Hw ops (listed.setIfInBounds i true) L
theorem QA {ops:Array Oper}:∀ (L:List Nat) (fuel:Nat) (listed:Array Bool) (a:Act) (w:World),wpAny P .any ops Q fuel listed a w→Hw ops listed L→wpOps P ops Q L a w
 | [],0,listed,a,w,h,hv=>by simpa [wpOps] using h.2
 | [],fuel+1,listed,a,w,h,hv=>by simpa [wpOps] using h.1 hv
 | i::L,0,listed,a,w,h,hv=>by
  have:=hv.1
  rw[h.1] at this; cases this
 | i::L,fuel+1,listed,a,w,h,hv=>by
  rw[wpOps_cons]
  exact wpOp_mono (fun a w hh=>QA L fuel _ a w hh hv.2) (h.2 i hv.1)
theorem eG {ops:Array Oper} {listed:Array Bool} (hl:∀ i,i<ops.size→listed.getD i false=true) (hsz:listed.size=ops.size):Region.ready .any ops listed = []:=by
 apply List.eq_nil_iff_forall_not_mem.2
 grind [mem_ready,bJ]
theorem ACG {ops:Array Oper} {n:Nat} (hok:FP n ops=true) {listed:Array Bool} (hr:Region.ready .any ops listed = []) (hsz:listed.size=ops.size):∀ i,i<ops.size→listed.getD i false=true:=by
 intro i
 exact AKc
theorem vC {ops:Array Oper}:∀ (fuel t:Nat) (listed:Array Bool),listed.size=ops.size→listed.toList.countP (fun b=>!b)≤fuel→Hw ops listed (Region.linearise.go .any ops fuel t listed [])
 | 0,t,listed,hsz,hcnt=>by
  simp only[Region.linearise.go,List.reverse_nil,Hw]
  refine eG (fun i hi=>?_) hsz
  have h0:listed.toList.countP (fun b=>!b)=0:=AOh
  rw[List.countP_eq_zero] at h0
  have hi':i<listed.size:=AOh
  have:=h0 listed[i] AOi
  simp_all
 | fuel+1,t,listed,hsz,hcnt=>by
  simp only[Region.linearise.go]
  change Hw ops listed (match (Region.ready .any ops listed)[t%(Region.ready .any ops listed).length]? with
   | some i=>Region.linearise.go .any ops fuel (t/(Region.ready .any ops listed).length) (listed.setIfInBounds i true) [i]
   | none=>[].reverse)
  cases hi:(Region.ready .any ops listed)[t%(Region.ready .any ops listed).length]? with
  | none =>
   have hnil:Region.ready .any ops listed = []:=by
    cases hr:Region.ready .any ops listed with
    | nil=>rfl
    | cons x xs =>
     grind [Nat.mod_lt]
   simpa [Hw] using hnil
  | some i =>
   have hm:=bF hi
   simp only[]
   rw[linearise_go_acc,List.reverse_singleton,List.singleton_append]
   refine⟨hm,vC fuel _ _ AOk ?_⟩
   rw[mem_ready] at hm
   obtain⟨hun,o,ho,_⟩:=hm
   have hi':i<ops.size:=(bJ.1 ho).1
   have hi2:i<listed.size:=AOh
   have hun':listed.getD i false=false:=by
    exact AOR
   have hset:(listed.setIfInBounds i true).toList=listed.toList.set i true:=AOi
   rw[hset,List.countP_set AOh]
   simp_all
theorem Y0 {id:Nat} {ops:Array Oper} {a:Act} {w:World} (hm:P.follows .mixedOrders=true)
  (h:∀ L,Hw ops (Array.replicate ops.size false) L→wpOps P ops Q L a { w with drawn:=w.drawn+1 }):(Code.region id ops true).wp P Q a w:=
 wp_region_draw fun t=>by
  simp only[Region.schedule,hm,cZ,aX]
  refine h _ (vC ops.size t _ AOi ?_)
  grind [List.countP_le_length]
def MB:List Nat→Nat→Nat
 | [],_=>0
 | x::xs,i=>match Nat.beq x i with
  | true=>0
  | false=>MB xs i+1
def rnE (σ:List Nat) (e:Edge):Edge:=⟨MB σ e.on,e.ground⟩
def vF (σ:List Nat):List Edge→List Edge
 | []=>[]
 | e::es=>rnE σ e::vF σ es
theorem vG {σ:List Nat} {e':Edge}:∀ {l:List Edge},e'∈vF σ l→∃ e∈l,e'=rnE σ e
 | [],h=>APk
 | e::es,h=>by
  simp only[vF,dh] at h
  rcases h with rfl | h
  ·grind
  ·obtain⟨x,hx,rfl⟩:=vG h
   grind
def rnG (σ:List Nat):Option (Nat×Bool)→Option (Nat×Bool)
 | none=>none
 | some (j,b)=>some (MB σ j,b)
def AED (e1 e2 i:Nat) (l:List Edge):List Edge:=match Nat.beq i e2 with
 | true=>⟨e1,.data⟩::l
 | false=>l
def rnO (σ:List Nat) (e1 e2 i:Nat) (o:Oper):Oper:=⟨o.dst,o.op,o.type,o.pos,(vF σ (AED e1 e2 i o.after.toList)).toArray,rnG σ o.guard⟩
def AAz (σ:List Nat) (e1 e2 i:Nat):Option Oper→List Oper→List Oper
 | some o,r=>rnO σ e1 e2 i o::r
 | none,r=>r
def pK (σ:List Nat) (e1 e2:Nat) (l:List Oper):List Nat→List Oper
 | []=>[]
 | i::is=>AAz σ e1 e2 i l[i]? (pK σ e1 e2 l is)
def II (σ:List Nat) (e1 e2:Nat) (l:List Oper):List Oper:=pK σ e1 e2 l σ
def zN (σ:List Nat) (n:Nat):Bool:=σ.length==n&&((List.range n).all fun i=>σ[MB σ i]?==some i)&&((List.range n).all fun j=>match σ[j]? with | some i=>decide (i<n)&&MB σ i==j | none=>false)
def Tm (n:Nat) (l:List Oper) (σ:List Nat) (e1 e2:Nat):Bool:=
 zN σ l.length&&(l.all fun o=>match o.guard with | some (j,_)=>decide (j<l.length) | none=>true)&&FP n (II σ e1 e2 l).toArray&&((II σ e1 e2 l).all fun o=>o.op.operands.toList.all Au)
theorem Vj {σ:List Nat} {e1 e2:Nat} {l:List Oper}:∀ (is:List Nat),(∀ i∈is,i<l.length)→(pK σ e1 e2 l is).length=is.length∧∀ (k i:Nat),is[k]?=some i→∃ o,l[i]?=some o∧(pK σ e1 e2 l is)[k]?=some (rnO σ e1 e2 i o)
 | [],_=>⟨rfl,fun k i h=>AO_⟩
 | i::is,h=>by
  obtain⟨q1,q2⟩:=Vj (σ:=σ) (e1:=e1) (e2:=e2) (l:=l) is (fun x hx=>h x APe)
  have hi:=h i AOi
  simp only[pK,au hi,AAz]
  grind
def Bfr (e1 e2:Nat):List Nat→Prop
 | []=>True
 | i::L=>i=e1∨(i≠e2∧Bfr e1 e2 L)
theorem AEE {e1 e2:Nat} (h:e1≠e2):∀ L:List Nat,Bfr e1 e2 L∨Bfr e2 e1 L
 | []=>.inl trivial
 | i::L=>by
  by_cases h1:i=e1
  ·exact .inl (.inl h1)
  ·by_cases h2:i=e2
   ·exact .inr (.inl h2)
   ·rcases AEE h L with h3 | h3
    ·exact .inl (.inr ⟨h2,h3⟩)
    ·exact .inr (.inr ⟨h1,h3⟩)
section perm
variable {σ:List Nat} {e1 e2:Nat} {l:List Oper}
structure PermF (σ:List Nat) (n:Nat):Prop where
 len:σ.length=n
 at_:∀ i,i<n→σ[MB σ i]?=some i
 lt:∀ (j i:Nat),σ[j]?=some i→i<n∧MB σ i=j
theorem ACH {n:Nat} (h:zN σ n=true):PermF σ n:=by
 simp only[zN,ay,ZE] at h
 obtain⟨⟨h1,h2⟩,h3⟩:=h
 refine⟨h1,fun i hi=>?_,fun j i hj=>?_⟩
 ·grind
 grind
theorem AFr (hp:PermF σ l.length) (hg:∀ o∈l,∀ j b,o.guard=some (j,b)→j<l.length) {i:Nat} (hi:i<l.length) {K:Act→World→Prop} {a:Act} {w:World}
  (h:wpOp P (II σ e1 e2 l).toArray Q (MB σ i) K a w):wpOp P l.toArray Q i K a w:=by
 have hlt:∀ x∈σ,x<l.length:=fun x hx=>by
  exact ANV
 have hG:=(Vj (σ:=σ) (e1:=e1) (e2:=e2) (l:=l) σ hlt).2
 obtain⟨o,ho,ho'⟩:=hG _ _ (hp.at_ i hi)
 have hy:∀ j,j<l.length→yielded (II σ e1 e2 l).toArray a.tmps (MB σ j)=yielded l.toArray a.tmps j:=fun j hj=>by
  obtain⟨oj,hoj,hoj'⟩:=hG _ _ (hp.at_ j hj)
  unfold yielded
  simp only[aa7,II,hoj',hoj,abu]
  rfl
 have hw:Region.wanted (rnO σ e1 e2 i o) (yielded (II σ e1 e2 l).toArray a.tmps)=Region.wanted o (yielded l.toArray a.tmps):=by
  cases hgd:o.guard with
  | none=>simp only[Region.wanted,rnO,rnG,hgd]
  | some jb =>
   obtain⟨j,b⟩:=jb
   have:=hy j (hg o (bF ho) j b hgd)
   simp only[Region.wanted,rnO,rnG,hgd,this]
 unfold wpOp at h ⊢
 have ho2:(II σ e1 e2 l).toArray[MB σ i]?=some (rnO σ e1 e2 i o):=by simpa [II] using ho'
 have ho3:l.toArray[i]?=some o:=by simpa using ho
 simp only[ho2,ho3,hw] at h ⊢
 exact h
theorem pM {n n':Nat} (hok:FP n l.toArray=true) (hok':FP n' (II σ e1 e2 l).toArray=true) (hp:PermF σ l.length) (hg:∀ o∈l,∀ j b,o.guard=some (j,b)→j<l.length) (hne:e1≠e2) :
  ∀ (L:List Nat) (listed listed':Array Bool),listed.size=l.length→listed'.size=l.length→(∀ i,i<l.length→listed.getD i false=listed'.getD (MB σ i) false)→Hw l.toArray listed L→(listed.getD e1 false=true∨Bfr e1 e2 L) →
   Hw (II σ e1 e2 l).toArray listed' (L.map (MB σ))∧∀ a w,wpOps P (II σ e1 e2 l).toArray Q (L.map (MB σ)) a w→wpOps P l.toArray Q L a w:=by
 have hlt:∀ x∈σ,x<l.length:=fun x hx=>by
  exact ANV
 obtain⟨hlen,hG⟩:=Vj (σ:=σ) (e1:=e1) (e2:=e2) (l:=l) σ hlt
 have hlen':(II σ e1 e2 l).toArray.size=l.length:=by simp[II,hlen,hp.len]
 have hposlt:∀ i,i<l.length→MB σ i<l.length:=fun i hi=>by
  have:=(aF.1 (hp.at_ i hi)).1
  rw[hp.len] at this; exact this
 intro L
 induction L with
 | nil =>
  intro listed listed' hs hs' hc hv _
  simp only[Hw,cu] at hv ⊢
  have hall:=ACG hok hv AOh
  refine⟨eG (fun j hj=>?_) AOh,fun a w h=>by simpa [wpOps] using h⟩
  rw[hlen'] at hj
  have hj2:j<σ.length:=by rw[hp.len]; exact hj
  obtain⟨q1,q2⟩:=hp.lt j _ (au hj2)
  grind
 | cons i L ih =>
  intro listed listed' hs hs' hc hv hb
  obtain⟨hi,hv⟩:=hv
  rw[mem_ready] at hi
  obtain⟨hun,o,ho,haft⟩:=hi
  have hil:i<l.length:=by have:=(bJ.1 ho).1; simpa using this
  have hun':listed.getD i false=false:=by
   have hi2:i<listed.size:=AOh
   exact AOR
  have ho2:l[i]?=some o:=by simpa using ho
  obtain⟨o',ho',hog⟩:=hG _ _ (hp.at_ i hil)
  rw[ho2] at ho'
  cases ho'
  have hready:MB σ i∈Region.ready .any (II σ e1 e2 l).toArray listed':=by
   rw[mem_ready]
   refine⟨?_,rnO σ e1 e2 i o,by simpa [II] using hog,fun e he hbd=>?_⟩
   ·grind
   ·simp only[rnO,List.mem_toArray] at he
    obtain⟨e0,he0,rfl⟩:=vG he
    have hin:(e0=⟨e1,.data⟩∧i=e2)∨e0∈o.after.toList:=by
     simp only[AED] at he0
     split at he0
     ·simp_all
     ·grind
    simp only[rnE]
    rcases hin with ⟨rfl,rfl⟩ | hin
    ·have h1:listed.getD e1 false=true:=by
      rcases hb with hb | hb
      ·exact hb
      ·rcases hb with hb | ⟨hb,_⟩
       ·omega
       omega
     grind
    ·have hbd0:Region.binds .any e0=true:=by
      simp only[rnE] at hbd
      cases e0
      exact hbd
     grind
  have hi2:i<listed.size:=AOh
  have hi2':MB σ i<listed'.size:=by rw[hs']; exact hposlt i hil
  obtain⟨v1,v2⟩:=ih (listed.setIfInBounds i true) (listed'.setIfInBounds (MB σ i) true) AOk AOk (fun j hj=>by
   rw[Ij hi2,Ij hi2',hc j hj]
   by_cases e:i=j
   ·subst e; simp
   ·have:MB σ i≠MB σ j:=fun e2=>by
     have h1:=hp.at_ i hil
     have h2:=hp.at_ j hj
     grind
    grind) hv (by
   rcases hb with hb | hb
   ·grind [Ij]
   ·rcases hb with rfl | ⟨_,hb⟩
    ·simp_all
    grind)
  refine⟨⟨hready,v1⟩,fun a w h=>?_⟩
  rw[YG,wpOps_cons] at h
  rw[wpOps_cons]
  exact wpOp_mono v2 (AFr hp hg hil h)
end perm
theorem RG {n:Nat} {l:List Oper} {σ:List Nat} {e1 e2:Nat} (h:Tm n l σ e1 e2=true):PermF σ l.length∧(∀ o∈l,∀ j b,o.guard=some (j,b)→j<l.length)∧FP n (II σ e1 e2 l).toArray=true∧((II σ e1 e2 l).toArray.toList.all fun o=>o.op.operands.toList.all Au)=true:=by
 simp only[Tm,ay] at h
 grind [ACH,aP]
theorem eH {l:List Oper} {σ:List Nat} {e1 e2:Nat} (hp:PermF σ l.length):(II σ e1 e2 l).toArray.size=l.length:=by
 have hlt:∀ x∈σ,x<l.length:=fun x hx=>by
  exact ANV
 have:=(Vj (σ:=σ) (e1:=e1) (e2:=e2) (l:=l) σ hlt).1
 simp[II,this,hp.len]
theorem split_ok {n:Nat} {l:List Oper} {σ1 σ2:List Nat} {e1 e2:Nat} (hne:e1≠e2) (hok:FP n l.toArray=true) (h1:Tm n l σ1 e1 e2=true) (h2:Tm n l σ2 e2 e1=true) {a:Act} {w:World}
  (w1:∀ L,Hw (II σ1 e1 e2 l).toArray (Array.replicate (II σ1 e1 e2 l).toArray.size false) L→wpOps P (II σ1 e1 e2 l).toArray Q L a w)
  (w2:∀ L,Hw (II σ2 e2 e1 l).toArray (Array.replicate (II σ2 e2 e1 l).toArray.size false) L→wpOps P (II σ2 e2 e1 l).toArray Q L a w) :
  ∀ L,Hw l.toArray (Array.replicate l.toArray.size false) L→wpOps P l.toArray Q L a w:=by
 intro L hv
 have hrep:∀ (m k:Nat),(Array.replicate m false).getD k false=false:=fun m k=>by
  simp[aa1]
  split<;>rfl
 obtain⟨p1,g1,d1,_⟩:=RG h1
 obtain⟨p2,g2,d2,_⟩:=RG h2
 rcases AEE hne L with hb | hb
 ·exact ALv
 ·obtain⟨v1,v2⟩:=pM (P:=P) (Q:=Q) hok d2 p2 g2 (Ne.symm hne) L (Array.replicate l.toArray.size false) (Array.replicate (II σ2 e2 e1 l).toArray.size false) AOi (by rw[eH p2]; simp) (fun i hi=>AOk) hv (.inr hb)
  grind
def eP (l:List Oper):Nat→List Nat→Bool
 | _,[]=>true
 | q,j::js=>(match l[j]? with | some o=>Be o q | none=>false)&&eP l j js
theorem kX {x y z:Nat} (hz:y≠z):∀ L:List Nat,Bfr x y L→Bfr y z L→Bfr x z L
 | [],_,_=>trivial
 | i::L,h1,h2=>by
  rcases h1 with h1 | ⟨h1,h3⟩
  ·exact .inl h1
  ·rcases h2 with h2 | ⟨h2,h4⟩
   ·omega
   ·exact .inr ⟨h2,kX hz L h3 h4⟩
theorem eQ {l:List Oper} {q j:Nat} {o:Oper} (ho:l[j]?=some o) (hb:Be o q=true):∀ (L:List Nat) (listed:Array Bool),listed.getD q false=false→Hw l.toArray listed L→Bfr q j L
 | [],_,_,_=>trivial
 | i::L,listed,hq,hv=>by
  by_cases h1:i=q
  ·exact .inl h1
  ·refine .inr ⟨fun e=>?_,eQ ho hb L _ ?_ hv.2⟩
   ·subst e
    obtain⟨_,o',ho',haft⟩:=(mem_ready ..).1 hv.1
    have e:o'=o:=by
     rw[aa7,ho] at ho'
     exact(uV ho').symm
    subst e
    simp only[Be,Array.any_eq_true] at hb
    grind
   simp_all
theorem vH {l:List Oper}:∀ (js:List Nat) (q z:Nat),eP l q js=true→js.getLast?=some z→∀ (L:List Nat),Hw l.toArray (Array.replicate l.toArray.size false) L→Bfr q z L
 | [],_,_,_,h,_,_=>APk
 | [j],q,z,hp,hl,L,hv=>by
  simp only[List.getLast?_singleton,ak] at hl
  subst hl
  simp only[eP,aS] at hp
  split at hp
  ·rename_i o ho
   exact eQ ho hp L _ (by simp[aa1]; split<;>rfl) hv
  ·cases hp
 | j::k::js,q,z,hp,hl,L,hv=>by
  rw[eP,ay] at hp
  obtain⟨hp1,hp2⟩:=hp
  have h2:=vH (k::js) j z hp2 AOk L hv
  split at hp1
  ·rename_i o ho
   have h1:=eQ ho hp1 L _ (by simp[aa1]; split<;>rfl) hv
   grind [kX]
  ·cases hp1
theorem AHl {n:Nat} {l:List Oper} {σ1 js:List Nat} {e1 e2:Nat} (hne:e1≠e2) (hok:FP n l.toArray=true) (hp:eP l e1 js=true) (hl:js.getLast?=some e2) (h1:Tm n l σ1 e1 e2=true) {a:Act} {w:World}
  (w1:∀ L,Hw (II σ1 e1 e2 l).toArray (Array.replicate (II σ1 e1 e2 l).toArray.size false) L→wpOps P (II σ1 e1 e2 l).toArray Q L a w) :
  ∀ L,Hw l.toArray (Array.replicate l.toArray.size false) L→wpOps P l.toArray Q L a w:=by
 intro L hv
 have hrep:∀ (m k:Nat),(Array.replicate m false).getD k false=false:=fun m k=>by
  simp[aa1]
  split<;>rfl
 obtain⟨p1,g1,d1,_⟩:=RG h1
 have hb:=vH js e1 e2 hp hl L hv
 exact ALv
end
end Go.Vm
