/- A part. -/
import Derived.Test.YtnfbaclikokapaaGreatVmZ
import Derived.Test.YtnfbaclikokapaaGreatVmS
set_option linter.unusedSimpArgs false
set_option linter.unusedVariables false
namespace Go.Vm
open Go.RowKit
variable {P:Program} {w0:Bs} {St0 St:Nat→Nat→Prop} {β:Nat→Option Nat} {s:MS} {a:Act} {w:World}
def oK (c:Cl):Bool:=AO c||E8 c
def QCtr (P:Program) (f:FuncId) (ty:TypeId) (cl:List Cl) (args:List AV) (cl':List Cl) (rs:List AV):Prop:=
 CallsIn P f∧cl'.length=cl.length∧cl'.all oK=true∧∀ (w:World) (St:Nat→Nat→Prop) (b:Nat) (cs:Array Value) (G:Nat→Nat→Prop) (vs:List Value),(∀ b o,St b o→b<w.heap.size)→w.heap[b]?=some (.cells cs ty (0,0))→(∀ o,¬ St b o) →
  (∀ k x,G k x→x<w.heap.size∧x≠b∧∀ o,¬ St x o)→(∀ k k' x,G k x→G k' x→k=k')→(∀ (k:Nat) (c:Cl),cl[k]?=some c→∃ y,cs[k]?=some y∧RdO w St c y (G k))→RdAs w St args vs →
  Calls P f (.pointer (some ⟨b,0,none⟩)::vs).toArray w fun e w'=>∃ (rv:List Value) (cs':Array Value) (St' G':Nat→Nat→Prop),e = .returned (Nc rv)∧Below 0 w w'∧(∀ k,k<w.heap.size→k≠b→(∀ j,¬ G j k)→w'.heap[k]?=w.heap[k]?)∧(∀ b o,St b o→St' b o)∧(∀ b o,St' b o→b<w.heap.size→St b o∨∃ j,G j b) ∧
   (∀ b o,St' b o→b<w'.heap.size)∧w'.heap[b]?=some (.cells cs' ty (0,0))∧(∀ k,k<w.heap.size→Ui w' k=Ui w k)∧(∀ (k:Nat) (c:Cl),cl'[k]?=some c→∃ y,cs'[k]?=some y∧RdO w' St' c y (G' k)) ∧
   (∀ k k' x,G' k x→G' k' x→k=k')∧(∀ k x,G' k x→x≠b∧(∀ o,¬ St' x o)∧((∃ j,G j x)∨(w.heap.size≤x∧x<w'.heap.size)))∧RdAs w' St' rs rv
theorem dW (h:Core w0 St0 St β s a w) {φ:Nat→Nat→Nat→Prop} (hφ:Ru w0 w St s.st β φ) {l b:Nat} {ob:Ob} {cl:List Cl} (hob:CO s.st l=some ob) (hβ:β l=some b) (hxs:ob.xs = [cl]) (hcl:cl.all oK=true) :
  ∃ cs:Array Value,w.heap[b]?=some (.cells cs ob.ty (0,0))∧cl.length=ob.sz∧∀ (k:Nat) (c:Cl),cl[k]?=some c→∃ y,cs[k]?=some y∧RdO w St c y (φ l k):=by
 obtain⟨hl,hlive⟩:=Aw hob
 obtain⟨_,_,cs,g1,g2,g3⟩:=h.obs l ob b hl hlive hβ
 refine⟨cs,g1,g2 cl (by grind),fun k c hk=>?_⟩
 have hk':ob.xs.flatten[k]?=some c:=by rw[hxs]; simpa using hk
 obtain⟨y,hy,hr⟩:=g3 k c hk'
 have hc:oK c=true:=aF.1 hcl c (aY hk)
 simp only[oK,sV] at hc
 refine⟨y,hy, ?_⟩
 rcases hc with hc | hc
 ·exact(RdO.plain (F6 hc)).2 (PX hc (hr.toC (F6 hc)))
 ·obtain⟨u,hu,hr2⟩:=hφ.1 l ob b k c hl hlive hβ hk' hc
  have:w.cell? ⟨b,k,none⟩=some y:=by simp[World.cell?,g1,hy]
  grind
theorem oM {φ:Nat→Nat→Nat→Prop} (hφ:Ru w0 w St s.st β φ) {l b:Nat} {ob:Ob} (hob:CO s.st l=some ob) (hβ:β l=some b) {k x:Nat} (hx:φ l k x):x<w.heap.size∧x≠b∧∀ o,¬ St x o:=by
 obtain⟨hl,hlive⟩:=Aw hob
 obtain⟨q1,_,q3,q4,q5⟩:=(hφ.2.1 l k x hx).2
 grind
theorem yw (h:Core w0 St0 St β s a w) {φ:Nat→Nat→Nat→Prop} (hφ:Ru w0 w St s.st β φ) {l b:Nat} {ob:Ob} (hob:CO s.st l=some ob) (hwr:ob.wr=true) (hβ:β l=some b) {w':World} {St':Nat→Nat→Prop} {cs cs':Array Value} {cl':List Cl} {G':Nat→Nat→Prop} (hcs0:w.heap[b]?=some (.cells cs ob.ty (0,0)))
  (hb:Below 0 w w') (hblk:∀ k,k<w.heap.size→k≠b→(∀ j,¬ φ l j k)→w'.heap[k]?=w.heap[k]?) (hS:∀ b o,St b o→St' b o) (hSo:∀ b o,St' b o→b<w.heap.size→St b o∨∃ j,φ l j b) (hSi:∀ b o,St' b o→b<w'.heap.size)
  (hcs:w'.heap[b]?=some (.cells cs' ob.ty (0,0))) (hbs:∀ k,k<w.heap.size→Ui w' k=Ui w k) (hcl:∀ (k:Nat) (c:Cl),cl'[k]?=some c→∃ y,cs'[k]?=some y∧RdO w' St' c y (G' k)) (hlen:cl'.length=ob.sz) (hone:ob.xs.length=1)
  (hdis:∀ k k' x,G' k x→G' k' x→k=k') (hG:∀ k x,G' k x→x≠b∧(∀ o,¬ St' x o)∧((∃ j,φ l j x)∨(w.heap.size≤x∧x<w'.heap.size))) :
  Core w0 St0 St' β ⟨s.n,s.env,s.st.set l ⟨ob.ty,ob.sz,[cl'],true,true⟩⟩ a w':=by
 obtain⟨hl,hlive⟩:=Aw hob
 obtain⟨hB,hlt,_⟩:=h.obs l ob b hl hlive hβ
 have hsz:cs'.size=cs.size:=(iY hcs0 hcs).1 (hbs b hlt)
 have hnSt:∀ o,¬ St b o:=fun o ho=>by
  have:=(h.sep l ob b o hl hlive hβ ho).1
  grind
 have hcell:∀ b' o,St b' o→w'.cell? ⟨b',o,none⟩=w.cell? ⟨b',o,none⟩:=fun b' o hbo=>cell_of_block (hblk b' (h.stIn b' o hbo) (fun e=>hnSt o (e▸hbo)) fun j hj=>(hφ.2.1 l j b' hj).2.2.2.2.1 o hbo)
 have hll:l<s.st.length:=(az.1 hl).1
 have hget:∀ l',(s.st.set l ⟨ob.ty,ob.sz,[cl'],true,true⟩)[l']?=if l=l' then some ⟨ob.ty,ob.sz,[cl'],true,true⟩ else s.st[l']?:=fun l'=>by
  grind
 have hoth:∀ (l':Nat) (o2:Ob) (b2:Nat),s.st[l']?=some o2→o2.live=true→β l'=some b2→l≠l'→b2≠b∧w'.heap[b2]?=w.heap[b2]?:=fun l' o2 b2 h1 h2 h3 h4=>by
  have hne:b2≠b:=fun e=>by subst e; exact h4 (h.inj l l' ob o2 b2 hl h1 hlive h2 hβ h3)
  exact⟨hne,hblk b2 (h.obs l' o2 b2 h1 h2 h3).2.1 hne fun j hj=>(hφ.2.1 l j b2 hj).2.2.2.2.2 l' o2 h1 h2 h3⟩
 have hr:∀ l' u,A_ w s.st β l' u→A_ w' (s.st.set l ⟨ob.ty,ob.sz,[cl'],true,true⟩) β l' u:=by
  intro l' u hu
  unfold A_ at hu ⊢
  rw[hget l']
  by_cases e:l=l'
  ·grind
  ·simp only[e,aT]
   cases hq:s.st[l']? with
   | none=>grind
   | some o2 =>
    grind
 have hp:∀ l' i off u,AVR w St s.st β (.lp l' i off) u→AVR w' St' (s.st.set l ⟨ob.ty,ob.sz,[cl'],true,true⟩) β (.lp l' i off) u:=by
  intro l' i off u hu
  simp only[AVR,hget l'] at hu ⊢
  by_cases e:l=l'
  ·grind
  ·grind
 have hBB:∀ x u,RdB w St s.st β x u→RdB w' St' (s.st.set l ⟨ob.ty,ob.sz,[cl'],true,true⟩) β x u:=fun x u hx=>RdB.mono hS hcell hr x u hx
 have hsp:∀ (l':Nat) (o2:Ob),(s.st.set l ⟨ob.ty,ob.sz,[cl'],true,true⟩)[l']?=some o2→(l=l'∧o2=⟨ob.ty,ob.sz,[cl'],true,true⟩)∨(l≠l'∧s.st[l']?=some o2):=by
  intro l' o2 h2
  rw[hget l'] at h2
  by_cases e:l=l'
  ·grind
  ·grind
 have hlv:∀ (l':Nat) (o2:Ob),(s.st.set l ⟨ob.ty,ob.sz,[cl'],true,true⟩)[l']?=some o2→o2.live=true→∃ o3:Ob,s.st[l']?=some o3∧o3.live=true:=fun l' o2 h2 h3=>by
  grind
 exact {
  defers:=h.defers
  size:=h.size
  lim:=h.lim
  env:=fun i=>AVR.mono hS hcell hr hp _ _ (h.env i)
  below:=h.below.step hb (fun k h1 h2=>hblk k (bn h1 h.below.size) (fun e=>by
   subst e
   rcases hB with h' | h'
   ·omega
   grind) fun j hj=>by
    rcases(hφ.2.1 l j k hj).2.1 with h' | h'
    ·omega
    grind) fun k hk=>hbs k (bn hk h.below.size)
  st0:=fun b o hbo=>hS b o (h.st0 b o hbo)
  stOld:=fun b o hbo hlt' hno=>by
   rcases hSo b o hbo (bn hlt' h.below.size) with h1 | ⟨j,hj⟩
   ·exact h.stOld b o h1 hlt' hno
   ·rcases(hφ.2.1 l j b hj).2.1 with h' | h'
    ·omega
    grind
  stIn:=hSi
  obs:=fun l' o2 b2 hl2 hlive2 hβ2=>by
   rcases hsp l' o2 hl2 with ⟨rfl,rfl⟩ | ⟨hne,h4⟩
   ·rw[hβ] at hβ2
    cases hβ2
    refine⟨hB,bn hlt hb.size,cs',hcs,by grind,fun k c hk=>?_⟩
    simp only[bT,Zh,bF] at hk
    obtain⟨y,hy,hc⟩:=hcl k c hk
    exact⟨y,hy,hc.toB⟩
   ·obtain⟨q1,q2,cs2,g1,g2,g3⟩:=h.obs l' o2 b2 h4 hlive2 hβ2
    refine⟨q1,bn q2 hb.size,cs2,by grind,g2,fun k c hk=>?_⟩
    grind
  nil:=fun l' o2 hl2 hlive2 hβ2=>by
   rcases hsp l' o2 hl2 with ⟨rfl,rfl⟩ | ⟨hne,h4⟩
   ·grind
   ·exact h.nil l' o2 h4 hlive2 hβ2
  inj:=fun l1 l2 o1 o2 b' h1 h2 h3 h4 h5 h6=>by
   obtain⟨p1,q1,r1⟩:=hlv l1 o1 h1 h3
   obtain⟨p2,q2,r2⟩:=hlv l2 o2 h2 h4
   exact h.inj l1 l2 p1 p2 b' q1 q2 r1 r2 h5 h6
  sep:=fun l' o2 b' o hl2 hlive2 hβ2 hbo=>by
   rcases hsp l' o2 hl2 with ⟨rfl,rfl⟩ | ⟨hne,h4⟩
   ·rw[hβ] at hβ2
    cases hβ2
    rcases hSo b o hbo hlt with h1 | ⟨j,hj⟩
    ·grind
    ·exact absurd hβ ((hφ.2.1 l j b hj).2.2.2.2.2 l ob hl hlive)
   ·rcases hSo b' o hbo (h.obs l' o2 b' h4 hlive2 hβ2).2.1 with h1 | ⟨j,hj⟩
    ·exact h.sep l' o2 b' o h4 hlive2 hβ2 h1
    ·exact absurd hβ2 ((hφ.2.1 l j b' hj).2.2.2.2.2 l' o2 h4 hlive2)
  own:=by
   have hmay:∀ k x,G' k x→w0.may x∧x<w'.heap.size:=fun k x hx=>by
    obtain⟨_,_,q⟩:=hG k x hx
    rcases q with ⟨j,hj⟩ | ⟨q1,q2⟩
    ·obtain⟨r1,_,r3,_⟩:=(hφ.2.1 l j x hj).2
     exact⟨r1,bn r3 hb.size⟩
    ·exact⟨.inl (Nat.le_trans h.below.size q1),q2⟩
   refine⟨fun l' k x=>(l'=l∧G' k x)∨(l'≠l∧φ l' k x),fun l' o2 b2 k c hl2 hlive2 hβ2 hk hcw=>?_,fun l' k x hx=>?_,fun l1 l2 k1 k2 x h1 h2=>?_⟩
   ·rcases hsp l' o2 hl2 with ⟨rfl,rfl⟩ | ⟨hne,h4⟩
    ·rw[hβ] at hβ2
     cases hβ2
     simp only[bT,Zh,bF] at hk
     obtain⟨y,hy,hc⟩:=hcl k c hk
     exact⟨y,by simp[World.cell?,hcs,hy],RdO.mono (fun _ _ h=>h) (fun _ _ _=>rfl) c y _ _ (fun x hx=>.inl ⟨rfl,hx⟩) (fun _ _=>rfl) hc⟩
    ·obtain⟨u,hu,hc⟩:=hφ.1 l' o2 b2 k c h4 hlive2 hβ2 hk hcw
     refine⟨u,by grind [cell_of_block],RdO.mono hS hcell c u _ _ (fun x hx=>.inr ⟨fun e=>hne e.symm,hx⟩) (fun x hx=>?_) hc⟩
     obtain⟨_,_,q3,_,q5⟩:=(hφ.2.1 l' k x hx).2
     exact hblk x q3 (fun e=>q5 l ob hl hlive (by rw[hβ,e])) fun j hj=>hne (hφ.2.2 l l' j k x hj hx).1
   ·rcases hx with ⟨rfl,hx⟩ | ⟨hne,hx⟩
    ·obtain⟨q1,q2,q3⟩:=hG k x hx
     refine⟨⟨⟨ob.ty,ob.sz,[cl'],true,true⟩,b,by grind,rfl,hβ⟩,(hmay k x hx).1,fun h=>h,(hmay k x hx).2,q2,fun l2 o2 hl2 hlive2 hβ2=>?_⟩
     rcases hsp l2 o2 hl2 with ⟨rfl,rfl⟩ | ⟨hne,h4⟩
     ·grind
     ·rcases q3 with ⟨j,hj⟩ | ⟨q3,_⟩
      ·exact(hφ.2.1 l' j x hj).2.2.2.2.2 l2 o2 h4 hlive2 hβ2
      grind
    ·obtain⟨⟨o2,b2,r1,r2,r3⟩,q1,_,q3,q4,q5⟩:=hφ.2.1 l' k x hx
     refine⟨⟨o2,b2,by grind,r2,r3⟩,q1,fun h=>h,bn q3 hb.size,fun o ho=>by
      rcases hSo x o ho q3 with h1 | ⟨j,hj⟩
      ·exact q4 o h1
      ·exact hne (hφ.2.2 l l' j k x hj hx).1.symm,fun l2 o3 hl2 hlive2 hβ2=>?_⟩
     grind
   ·rcases h1 with ⟨rfl,h1⟩ | ⟨n1,h1⟩<;>rcases h2 with ⟨rfl,h2⟩ | ⟨n2,h2⟩
    ·grind
    ·obtain⟨_,_,q3⟩:=hG k1 x h1
     rcases q3 with ⟨j,hj⟩ | ⟨q3,_⟩
     ·exact absurd (hφ.2.2 _ _ _ _ x hj h2).1.symm n2
     ·have:=(hφ.2.1 l2 k2 x h2).2.2.2.1
      omega
    ·obtain⟨_,_,q3⟩:=hG k2 x h2
     rcases q3 with ⟨j,hj⟩ | ⟨q3,_⟩
     ·exact absurd (hφ.2.2 _ _ _ _ x hj h1).1.symm n1
     ·have:=(hφ.2.1 l1 k1 x h1).2.2.2.1
      omega
    ·exact hφ.2.2 _ _ _ _ x h1 h2 }
section
variable {P:Program} {Q:Exit→Act→World→Prop}
def GX (ops:Array Oper):Array Bool→List Nat→Prop
 | listed,[]=>Region.ready .any ops listed = []
 | listed,i::L=>i∈Region.ready .any ops listed∧GX ops (listed.setIfInBounds i true) L
theorem OT {ops:Array Oper}:∀ (L:List Nat) (fuel:Nat) (listed:Array Bool) (a:Act) (w:World),wpAny P .any ops Q fuel listed a w→GX ops listed L→wpOps P ops Q L a w
 | [],0,listed,a,w,h,hv=>by simpa [wpOps] using h.2
 | [],fuel+1,listed,a,w,h,hv=>by simpa [wpOps] using h.1 hv
 | i::L,0,listed,a,w,h,hv=>by
  have:=hv.1
  rw[h.1] at this; cases this
 | i::L,fuel+1,listed,a,w,h,hv=>by
  rw[wpOps_cons]
  exact wpOp_mono (fun a w hh=>OT L fuel _ a w hh hv.2) (h.2 i hv.1)
theorem YG {ops:Array Oper} {listed:Array Bool} (hl:∀ i,i<ops.size→listed.getD i false=true) (hsz:listed.size=ops.size):Region.ready .any ops listed = []:=by
 apply List.eq_nil_iff_forall_not_mem.2
 grind [mem_ready,bH]
theorem yx {ops:Array Oper} {n:Nat} (hok:Eo n ops=true) {listed:Array Bool} (hr:Region.ready .any ops listed = []) (hsz:listed.size=ops.size):∀ i,i<ops.size→listed.getD i false=true:=by
 intro i
 induction i using Nat.strongRecOn with
 | _ i ih =>
  intro hi
  cases hc:listed.getD i false with
  | true=>rfl
  | false =>
   exfalso
   have:i∈Region.ready .any ops listed:=by
    rw[mem_ready]
    refine⟨?_,ops[i],by simp[hi],fun e he hb=>?_⟩
    ·grind
    ·have:=(E_ hok (i:=i) (o:=ops[i]) (by simp[hi])).1 e he hb
     grind
   grind
theorem oN {ops:Array Oper}:∀ (fuel t:Nat) (listed:Array Bool),listed.size=ops.size→listed.toList.countP (fun b=>!b)≤fuel→GX ops listed (Region.linearise.go .any ops fuel t listed [])
 | 0,t,listed,hsz,hcnt=>by
  simp only[Region.linearise.go,List.reverse_nil,GX]
  refine YG (fun i hi=>?_) hsz
  have h0:listed.toList.countP (fun b=>!b)=0:=by omega
  rw[List.countP_eq_zero] at h0
  have hi':i<listed.size:=by omega
  have:=h0 listed[i] (by simp)
  simp_all
 | fuel+1,t,listed,hsz,hcnt=>by
  simp only[Region.linearise.go]
  change GX ops listed (match (Region.ready .any ops listed)[t%(Region.ready .any ops listed).length]? with
   | some i=>Region.linearise.go .any ops fuel (t/(Region.ready .any ops listed).length) (listed.setIfInBounds i true) [i]
   | none=>[].reverse)
  cases hi:(Region.ready .any ops listed)[t%(Region.ready .any ops listed).length]? with
  | none =>
   have hnil:Region.ready .any ops listed = []:=by
    cases hr:Region.ready .any ops listed with
    | nil=>rfl
    | cons x xs =>
     grind [Nat.mod_lt]
   simpa [GX] using hnil
  | some i =>
   have hm:=aY hi
   simp only[]
   rw[linearise_go_acc,List.reverse_singleton,List.singleton_append]
   refine⟨hm,oN fuel _ _ (by grind) ?_⟩
   rw[mem_ready] at hm
   obtain⟨hun,o,ho,_⟩:=hm
   have hi':i<ops.size:=(bH.1 ho).1
   have hi2:i<listed.size:=by omega
   have hun':listed.getD i false=false:=by
    simp[hi2] at hun ⊢
    exact hun
   have hset:(listed.setIfInBounds i true).toList=listed.toList.set i true:=by simp
   rw[hset,List.countP_set (by omega)]
   simp_all
theorem WZ {id:Nat} {ops:Array Oper} {a:Act} {w:World} (hm:P.follows .mixedOrders=true)
  (h:∀ L,GX ops (Array.replicate ops.size false) L→wpOps P ops Q L a { w with drawn:=w.drawn+1 }):(Code.region id ops true).wp P Q a w:=
 wp_region_draw fun t=>by
  simp only[Region.schedule,hm,cO,bD]
  refine h _ (oN ops.size t _ (by simp) ?_)
  grind [List.countP_le_length]
def KD:List Nat→Nat→Nat
 | [],_=>0
 | x::xs,i=>match Nat.beq x i with
  | true=>0
  | false=>KD xs i+1
def rnE (σ:List Nat) (e:Edge):Edge:=⟨KD σ e.on,e.ground⟩
def oO (σ:List Nat):List Edge→List Edge
 | []=>[]
 | e::es=>rnE σ e::oO σ es
theorem oP {σ:List Nat} {e':Edge}:∀ {l:List Edge},e'∈oO σ l→∃ e∈l,e'=rnE σ e
 | [],h=>by cases h
 | e::es,h=>by
  simp only[oO,cZ] at h
  rcases h with rfl | h
  ·grind
  ·obtain⟨x,hx,rfl⟩:=oP h
   grind
def rnG (σ:List Nat):Option (Nat×Bool)→Option (Nat×Bool)
 | none=>none
 | some (j,b)=>some (KD σ j,b)
def ABD (e1 e2 i:Nat) (l:List Edge):List Edge:=match Nat.beq i e2 with
 | true=>⟨e1,.data⟩::l
 | false=>l
def rnO (σ:List Nat) (e1 e2 i:Nat) (o:Oper):Oper:=⟨o.dst,o.op,o.type,o.pos,(oO σ (ABD e1 e2 i o.after.toList)).toArray,rnG σ o.guard⟩
def wO (σ:List Nat) (e1 e2 i:Nat):Option Oper→List Oper→List Oper
 | some o,r=>rnO σ e1 e2 i o::r
 | none,r=>r
def jR (σ:List Nat) (e1 e2:Nat) (l:List Oper):List Nat→List Oper
 | []=>[]
 | i::is=>wO σ e1 e2 i l[i]? (jR σ e1 e2 l is)
def Gt (σ:List Nat) (e1 e2:Nat) (l:List Oper):List Oper:=jR σ e1 e2 l σ
def tq (σ:List Nat) (n:Nat):Bool:=σ.length==n&&((List.range n).all fun i=>σ[KD σ i]?==some i)&&((List.range n).all fun j=>match σ[j]? with | some i=>decide (i<n)&&KD σ i==j | none=>false)
def RD (n:Nat) (l:List Oper) (σ:List Nat) (e1 e2:Nat):Bool:=
 tq σ l.length&&(l.all fun o=>match o.guard with | some (j,_)=>decide (j<l.length) | none=>true)&&Eo n (Gt σ e1 e2 l).toArray&&((Gt σ e1 e2 l).all fun o=>o.op.operands.toList.all Ar)
theorem Ti {σ:List Nat} {e1 e2:Nat} {l:List Oper}:∀ (is:List Nat),(∀ i∈is,i<l.length)→(jR σ e1 e2 l is).length=is.length∧∀ (k i:Nat),is[k]?=some i→∃ o,l[i]?=some o∧(jR σ e1 e2 l is)[k]?=some (rnO σ e1 e2 i o)
 | [],_=>⟨rfl,fun k i h=>by simp at h⟩
 | i::is,h=>by
  obtain⟨q1,q2⟩:=Ti (σ:=σ) (e1:=e1) (e2:=e2) (l:=l) is (fun x hx=>h x (by simp[hx]))
  have hi:=h i (by simp)
  simp only[jR,aA hi,wO]
  grind
def Bfr (e1 e2:Nat):List Nat→Prop
 | []=>True
 | i::L=>i=e1∨(i≠e2∧Bfr e1 e2 L)
theorem ABE {e1 e2:Nat} (h:e1≠e2):∀ L:List Nat,Bfr e1 e2 L∨Bfr e2 e1 L
 | []=>.inl trivial
 | i::L=>by
  by_cases h1:i=e1
  ·exact .inl (.inl h1)
  ·by_cases h2:i=e2
   ·exact .inr (.inl h2)
   ·rcases ABE h L with h3 | h3
    ·exact .inl (.inr ⟨h2,h3⟩)
    ·exact .inr (.inr ⟨h1,h3⟩)
section perm
variable {σ:List Nat} {e1 e2:Nat} {l:List Oper}
structure PermF (σ:List Nat) (n:Nat):Prop where
 len:σ.length=n
 at_:∀ i,i<n→σ[KD σ i]?=some i
 lt:∀ (j i:Nat),σ[j]?=some i→i<n∧KD σ i=j
theorem yz {n:Nat} (h:tq σ n=true):PermF σ n:=by
 simp only[tq,ak,ZZ] at h
 obtain⟨⟨h1,h2⟩,h3⟩:=h
 refine⟨h1,fun i hi=>?_,fun j i hj=>?_⟩
 ·grind
 grind
theorem ACs (hp:PermF σ l.length) (hg:∀ o∈l,∀ j b,o.guard=some (j,b)→j<l.length) {i:Nat} (hi:i<l.length) {K:Act→World→Prop} {a:Act} {w:World}
  (h:wpOp P (Gt σ e1 e2 l).toArray Q (KD σ i) K a w):wpOp P l.toArray Q i K a w:=by
 have hlt:∀ x∈σ,x<l.length:=fun x hx=>by
  obtain⟨j,hj,rfl⟩:=aaI hx
  exact(hp.lt j _ (aA hj)).1
 have hG:=(Ti (σ:=σ) (e1:=e1) (e2:=e2) (l:=l) σ hlt).2
 obtain⟨o,ho,ho'⟩:=hG _ _ (hp.at_ i hi)
 have hy:∀ j,j<l.length→yielded (Gt σ e1 e2 l).toArray a.tmps (KD σ j)=yielded l.toArray a.tmps j:=fun j hj=>by
  obtain⟨oj,hoj,hoj'⟩:=hG _ _ (hp.at_ j hj)
  unfold yielded
  simp only[aa8,Gt,hoj',hoj,abu]
  rfl
 have hw:Region.wanted (rnO σ e1 e2 i o) (yielded (Gt σ e1 e2 l).toArray a.tmps)=Region.wanted o (yielded l.toArray a.tmps):=by
  cases hgd:o.guard with
  | none=>simp only[Region.wanted,rnO,rnG,hgd]
  | some jb =>
   obtain⟨j,b⟩:=jb
   have:=hy j (hg o (aY ho) j b hgd)
   simp only[Region.wanted,rnO,rnG,hgd,this]
 unfold wpOp at h ⊢
 have ho2:(Gt σ e1 e2 l).toArray[KD σ i]?=some (rnO σ e1 e2 i o):=by simpa [Gt] using ho'
 have ho3:l.toArray[i]?=some o:=by simpa using ho
 simp only[ho2,ho3,hw] at h ⊢
 exact h
theorem jS {n n':Nat} (hok:Eo n l.toArray=true) (hok':Eo n' (Gt σ e1 e2 l).toArray=true) (hp:PermF σ l.length) (hg:∀ o∈l,∀ j b,o.guard=some (j,b)→j<l.length) (hne:e1≠e2) :
  ∀ (L:List Nat) (listed listed':Array Bool),listed.size=l.length→listed'.size=l.length→(∀ i,i<l.length→listed.getD i false=listed'.getD (KD σ i) false)→GX l.toArray listed L→(listed.getD e1 false=true∨Bfr e1 e2 L) →
   GX (Gt σ e1 e2 l).toArray listed' (L.map (KD σ))∧∀ a w,wpOps P (Gt σ e1 e2 l).toArray Q (L.map (KD σ)) a w→wpOps P l.toArray Q L a w:=by
 have hlt:∀ x∈σ,x<l.length:=fun x hx=>by
  obtain⟨j,hj,rfl⟩:=aaI hx
  exact(hp.lt j _ (aA hj)).1
 obtain⟨hlen,hG⟩:=Ti (σ:=σ) (e1:=e1) (e2:=e2) (l:=l) σ hlt
 have hlen':(Gt σ e1 e2 l).toArray.size=l.length:=by simp[Gt,hlen,hp.len]
 have hposlt:∀ i,i<l.length→KD σ i<l.length:=fun i hi=>by
  have:=(az.1 (hp.at_ i hi)).1
  rw[hp.len] at this; exact this
 intro L
 induction L with
 | nil =>
  intro listed listed' hs hs' hc hv _
  simp only[GX,dh] at hv ⊢
  have hall:=yx hok hv (by omega)
  refine⟨YG (fun j hj=>?_) (by omega),fun a w h=>by simpa [wpOps] using h⟩
  rw[hlen'] at hj
  have hj2:j<σ.length:=by rw[hp.len]; exact hj
  obtain⟨q1,q2⟩:=hp.lt j _ (aA hj2)
  grind
 | cons i L ih =>
  intro listed listed' hs hs' hc hv hb
  obtain⟨hi,hv⟩:=hv
  rw[mem_ready] at hi
  obtain⟨hun,o,ho,haft⟩:=hi
  have hil:i<l.length:=by have:=(bH.1 ho).1; simpa using this
  have hun':listed.getD i false=false:=by
   have hi2:i<listed.size:=by omega
   simp[hi2] at hun ⊢
   exact hun
  have ho2:l[i]?=some o:=by simpa using ho
  obtain⟨o',ho',hog⟩:=hG _ _ (hp.at_ i hil)
  rw[ho2] at ho'
  cases ho'
  have hready:KD σ i∈Region.ready .any (Gt σ e1 e2 l).toArray listed':=by
   rw[mem_ready]
   refine⟨?_,rnO σ e1 e2 i o,by simpa [Gt] using hog,fun e he hbd=>?_⟩
   ·grind
   ·simp only[rnO,List.mem_toArray] at he
    obtain⟨e0,he0,rfl⟩:=oP he
    have hin:(e0=⟨e1,.data⟩∧i=e2)∨e0∈o.after.toList:=by
     simp only[ABD] at he0
     split at he0
     ·simp_all
     ·grind
    simp only[rnE]
    rcases hin with ⟨rfl,rfl⟩ | hin
    ·have h1:listed.getD e1 false=true:=by
      rcases hb with hb | hb
      ·exact hb
      ·rcases hb with hb | ⟨hb,_⟩
       ·omega
       omega
     grind
    ·have hbd0:Region.binds .any e0=true:=by
      simp only[rnE] at hbd
      cases e0
      exact hbd
     grind
  have hi2:i<listed.size:=by omega
  have hi2':KD σ i<listed'.size:=by rw[hs']; exact hposlt i hil
  obtain⟨v1,v2⟩:=ih (listed.setIfInBounds i true) (listed'.setIfInBounds (KD σ i) true) (by grind) (by grind) (fun j hj=>by
   rw[Hg hi2,Hg hi2',hc j hj]
   by_cases e:i=j
   ·subst e; simp
   ·have:KD σ i≠KD σ j:=fun e2=>by
     have h1:=hp.at_ i hil
     have h2:=hp.at_ j hj
     grind
    grind) hv (by
   rcases hb with hb | hb
   ·grind [Hg]
   ·rcases hb with rfl | ⟨_,hb⟩
    ·simp_all
    grind)
  refine⟨⟨hready,v1⟩,fun a w h=>?_⟩
  rw[XA,wpOps_cons] at h
  rw[wpOps_cons]
  exact wpOp_mono v2 (ACs hp hg hil h)
end perm
theorem Pm {n:Nat} {l:List Oper} {σ:List Nat} {e1 e2:Nat} (h:RD n l σ e1 e2=true):PermF σ l.length∧(∀ o∈l,∀ j b,o.guard=some (j,b)→j<l.length)∧Eo n (Gt σ e1 e2 l).toArray=true∧((Gt σ e1 e2 l).toArray.toList.all fun o=>o.op.operands.toList.all Ar)=true:=by
 simp only[RD,ak] at h
 grind [yz,aF]
theorem YH {l:List Oper} {σ:List Nat} {e1 e2:Nat} (hp:PermF σ l.length):(Gt σ e1 e2 l).toArray.size=l.length:=by
 have hlt:∀ x∈σ,x<l.length:=fun x hx=>by
  obtain⟨j,hj,rfl⟩:=aaI hx
  exact(hp.lt j _ (aA hj)).1
 have:=(Ti (σ:=σ) (e1:=e1) (e2:=e2) (l:=l) σ hlt).1
 simp[Gt,this,hp.len]
theorem split_ok {n:Nat} {l:List Oper} {σ1 σ2:List Nat} {e1 e2:Nat} (hne:e1≠e2) (hok:Eo n l.toArray=true) (h1:RD n l σ1 e1 e2=true) (h2:RD n l σ2 e2 e1=true) {a:Act} {w:World}
  (w1:∀ L,GX (Gt σ1 e1 e2 l).toArray (Array.replicate (Gt σ1 e1 e2 l).toArray.size false) L→wpOps P (Gt σ1 e1 e2 l).toArray Q L a w)
  (w2:∀ L,GX (Gt σ2 e2 e1 l).toArray (Array.replicate (Gt σ2 e2 e1 l).toArray.size false) L→wpOps P (Gt σ2 e2 e1 l).toArray Q L a w) :
  ∀ L,GX l.toArray (Array.replicate l.toArray.size false) L→wpOps P l.toArray Q L a w:=by
 intro L hv
 have hrep:∀ (m k:Nat),(Array.replicate m false).getD k false=false:=fun m k=>by
  simp[aa1]
  split<;>rfl
 obtain⟨p1,g1,d1,_⟩:=Pm h1
 obtain⟨p2,g2,d2,_⟩:=Pm h2
 rcases ABE hne L with hb | hb
 ·obtain⟨v1,v2⟩:=jS (P:=P) (Q:=Q) hok d1 p1 g1 hne L (Array.replicate l.toArray.size false) (Array.replicate (Gt σ1 e1 e2 l).toArray.size false) (by simp) (by rw[YH p1]; simp) (fun i hi=>by grind) hv (.inr hb)
  grind
 ·obtain⟨v1,v2⟩:=jS (P:=P) (Q:=Q) hok d2 p2 g2 (Ne.symm hne) L (Array.replicate l.toArray.size false) (Array.replicate (Gt σ2 e2 e1 l).toArray.size false) (by simp) (by rw[YH p2]; simp) (fun i hi=>by grind) hv (.inr hb)
  grind
def YI (l:List Oper):Nat→List Nat→Bool
 | _,[]=>true
 | q,j::js=>(match l[j]? with | some o=>BO o q | none=>false)&&YI l j js
theorem dX {x y z:Nat} (hz:y≠z):∀ L:List Nat,Bfr x y L→Bfr y z L→Bfr x z L
 | [],_,_=>trivial
 | i::L,h1,h2=>by
  rcases h1 with h1 | ⟨h1,h3⟩
  ·exact .inl h1
  ·rcases h2 with h2 | ⟨h2,h4⟩
   ·omega
   ·exact .inr ⟨h2,dX hz L h3 h4⟩
theorem YJ {l:List Oper} {q j:Nat} {o:Oper} (ho:l[j]?=some o) (hb:BO o q=true):∀ (L:List Nat) (listed:Array Bool),listed.getD q false=false→GX l.toArray listed L→Bfr q j L
 | [],_,_,_=>trivial
 | i::L,listed,hq,hv=>by
  by_cases h1:i=q
  ·exact .inl h1
  ·refine .inr ⟨fun e=>?_,YJ ho hb L _ ?_ hv.2⟩
   ·subst e
    obtain⟨_,o',ho',haft⟩:=(mem_ready ..).1 hv.1
    have e:o'=o:=by
     rw[aa8,ho] at ho'
     exact(rC ho').symm
    subst e
    simp only[BO,Array.any_eq_true] at hb
    grind
   simp_all
theorem oQ {l:List Oper}:∀ (js:List Nat) (q z:Nat),YI l q js=true→js.getLast?=some z→∀ (L:List Nat),GX l.toArray (Array.replicate l.toArray.size false) L→Bfr q z L
 | [],_,_,_,h,_,_=>by cases h
 | [j],q,z,hp,hl,L,hv=>by
  simp only[List.getLast?_singleton,ah] at hl
  subst hl
  simp only[YI,aS] at hp
  split at hp
  ·rename_i o ho
   exact YJ ho hp L _ (by simp[aa1]; split<;>rfl) hv
  ·cases hp
 | j::k::js,q,z,hp,hl,L,hv=>by
  rw[YI,ak] at hp
  obtain⟨hp1,hp2⟩:=hp
  have h2:=oQ (k::js) j z hp2 (by grind) L hv
  split at hp1
  ·rename_i o ho
   have h1:=YJ ho hp1 L _ (by simp[aa1]; split<;>rfl) hv
   grind [dX]
  ·cases hp1
theorem AEj {n:Nat} {l:List Oper} {σ1 js:List Nat} {e1 e2:Nat} (hne:e1≠e2) (hok:Eo n l.toArray=true) (hp:YI l e1 js=true) (hl:js.getLast?=some e2) (h1:RD n l σ1 e1 e2=true) {a:Act} {w:World}
  (w1:∀ L,GX (Gt σ1 e1 e2 l).toArray (Array.replicate (Gt σ1 e1 e2 l).toArray.size false) L→wpOps P (Gt σ1 e1 e2 l).toArray Q L a w) :
  ∀ L,GX l.toArray (Array.replicate l.toArray.size false) L→wpOps P l.toArray Q L a w:=by
 intro L hv
 have hrep:∀ (m k:Nat),(Array.replicate m false).getD k false=false:=fun m k=>by
  simp[aa1]
  split<;>rfl
 obtain⟨p1,g1,d1,_⟩:=Pm h1
 have hb:=oQ js e1 e2 hp hl L hv
 obtain⟨v1,v2⟩:=jS (P:=P) (Q:=Q) hok d1 p1 g1 hne L (Array.replicate l.toArray.size false) (Array.replicate (Gt σ1 e1 e2 l).toArray.size false) (by simp) (by rw[YH p1]; simp) (fun i hi=>by grind) hv (.inr hb)
 grind
end
end Go.Vm
