/- A part. -/
import Derived.Test.YtnchiiikacemmaaGreatVmS
set_option linter.unusedSimpArgs false
set_option linter.unusedVariables false
namespace Go.Vm
open Go.RowKit
section
variable {P:Program} {Q:Exit→Act→World→Prop}
def GZ (ops:Array Oper):Array Bool→List Nat→Prop
 | listed,[]=>Region.ready .any ops listed = []
 | listed,i::L=>i∈Region.ready .any ops listed∧GZ ops (listed.setIfInBounds i true) L
theorem N8 {ops:Array Oper}:∀ (L:List Nat) (fuel:Nat) (listed:Array Bool) (a:Act) (w:World),wpAny P .any ops Q fuel listed a w→GZ ops listed L→wpOps P ops Q L a w
 | [],0,listed,a,w,h,hv=>by simpa [wpOps] using h.2
 | [],fuel+1,listed,a,w,h,hv=>by simpa [wpOps] using h.1 hv
 | i::L,0,listed,a,w,h,hv=>by
  have:=hv.1
  rw[h.1] at this; cases this
 | i::L,fuel+1,listed,a,w,h,hv=>by
  rw[wpOps_cons]
  exact wpOp_mono (fun a w hh=>N8 L fuel _ a w hh hv.2) (h.2 i hv.1)
theorem YO {ops:Array Oper} {listed:Array Bool} (hl:∀ i,i<ops.size→listed.getD i false=true) (hsz:listed.size=ops.size):Region.ready .any ops listed = []:=by
 apply List.eq_nil_iff_forall_not_mem.2
 intro i hi
 rw[mem_ready] at hi
 obtain⟨h1,o,ho,_⟩:=hi
 have hi':i<ops.size:=(bC.1 ho).1
 have h2:=hl i hi'
 have hi2:i<listed.size:=by omega
 simp[hi2] at h1 h2
 rw[h1] at h2; cases h2
theorem zU {ops:Array Oper} {n:Nat} (hok:Ew n ops=true) {listed:Array Bool} (hr:Region.ready .any ops listed = []) (hsz:listed.size=ops.size):∀ i,i<ops.size→listed.getD i false=true:=by
 intro i
 induction i using Nat.strongRecOn with
 | _ i ih =>
  intro hi
  cases hc:listed.getD i false with
  | true=>rfl
  | false =>
   exfalso
   have:i∈Region.ready .any ops listed:=by
    rw[mem_ready]
    refine⟨?_,ops[i],by simp[hi],fun e he hb=>?_⟩
    ·have hi':i<listed.size:=by omega
     simp[hi'] at hc ⊢
     exact hc
    ·have:=(FC hok (i:=i) (o:=ops[i]) (by simp[hi])).1 e he hb
     exact ih e.on this (by omega)
   rw[hr] at this
   cases this
theorem o7 {ops:Array Oper}:∀ (fuel t:Nat) (listed:Array Bool),listed.size=ops.size→listed.toList.countP (fun b=>!b)≤fuel→GZ ops listed (Region.linearise.go .any ops fuel t listed [])
 | 0,t,listed,hsz,hcnt=>by
  simp only[Region.linearise.go,List.reverse_nil,GZ]
  refine YO (fun i hi=>?_) hsz
  have h0:listed.toList.countP (fun b=>!b)=0:=by omega
  rw[List.countP_eq_zero] at h0
  have hi':i<listed.size:=by omega
  have:=h0 listed[i] (by simp)
  simp[hi'] at this ⊢
  exact this
 | fuel+1,t,listed,hsz,hcnt=>by
  simp only[Region.linearise.go]
  change GZ ops listed (match (Region.ready .any ops listed)[t%(Region.ready .any ops listed).length]? with
   | some i=>Region.linearise.go .any ops fuel (t/(Region.ready .any ops listed).length) (listed.setIfInBounds i true) [i]
   | none=>[].reverse)
  cases hi:(Region.ready .any ops listed)[t%(Region.ready .any ops listed).length]? with
  | none =>
   have hnil:Region.ready .any ops listed = []:=by
    cases hr:Region.ready .any ops listed with
    | nil=>rfl
    | cons x xs =>
     rw[hr] at hi
     have hlt:t%(x::xs).length<(x::xs).length:=Nat.mod_lt _ (by simp)
     simp at hi
     simp at hlt
     omega
   simpa [GZ] using hnil
  | some i =>
   have hm:=aZ hi
   simp only
   rw[linearise_go_acc,List.reverse_singleton,List.singleton_append]
   refine⟨hm,o7 fuel _ _ (by simpa using hsz) ?_⟩
   rw[mem_ready] at hm
   obtain⟨hun,o,ho,_⟩:=hm
   have hi':i<ops.size:=(bC.1 ho).1
   have hi2:i<listed.size:=by omega
   have hun':listed.getD i false=false:=by
    simp[hi2] at hun ⊢
    exact hun
   have hset:(listed.setIfInBounds i true).toList=listed.toList.set i true:=by simp
   rw[hset,List.countP_set (by simpa using hi2)]
   have hv:listed.toList[i]'(by simpa using hi2)=false:=by simpa [hi2] using hun'
   rw[hv]
   have hpos:0<listed.toList.countP (fun b=>!b):=List.countP_pos_iff.2 ⟨listed.toList[i]'(by simpa using hi2),aj _,by rw[hv]; rfl⟩
   simp only[aN,aW,aQ,az,aI]
   omega
theorem Wu {id:Nat} {ops:Array Oper} {a:Act} {w:World} (hm:P.follows .mixedOrders=true)
  (h:∀ L,GZ ops (Array.replicate ops.size false) L→wpOps P ops Q L a { w with drawn:=w.drawn+1 }):(Code.region id ops true).wp P Q a w:=
 wp_region_draw fun t=>by
  simp only[Region.schedule,hm,Om,aW]
  refine h _ (o7 ops.size t _ (by simp) ?_)
  have:(Array.replicate ops.size false).toList.countP (fun b=>!b)≤(Array.replicate ops.size false).toList.length:=List.countP_le_length
  simpa using this
def Js:List Nat→Nat→Nat
 | [],_=>0
 | x::xs,i=>match Nat.beq x i with
  | true=>0
  | false=>Js xs i+1
def rnE (σ:List Nat) (e:Edge):Edge:=⟨Js σ e.on,e.ground⟩
def o8 (σ:List Nat):List Edge→List Edge
 | []=>[]
 | e::es=>rnE σ e::o8 σ es
theorem o9 {σ:List Nat} {e':Edge}:∀ {l:List Edge},e'∈o8 σ l→∃ e∈l,e'=rnE σ e
 | [],h=>by cases h
 | e::es,h=>by
  simp only[o8,bW] at h
  rcases h with rfl | h
  ·exact⟨e,by simp,rfl⟩
  ·obtain⟨x,hx,rfl⟩:=o9 h
   exact⟨x,by simp[hx],rfl⟩
def rnG (σ:List Nat):Option (Nat×Bool)→Option (Nat×Bool)
 | none=>none
 | some (j,b)=>some (Js σ j,b)
def ABX (e1 e2 i:Nat) (l:List Edge):List Edge:=match Nat.beq i e2 with
 | true=>⟨e1,.data⟩::l
 | false=>l
def rnO (σ:List Nat) (e1 e2 i:Nat) (o:Oper):Oper:=⟨o.dst,o.op,o.type,o.pos,(o8 σ (ABX e1 e2 i o.after.toList)).toArray,rnG σ o.guard⟩
def xO (σ:List Nat) (e1 e2 i:Nat):Option Oper→List Oper→List Oper
 | some o,r=>rnO σ e1 e2 i o::r
 | none,r=>r
def ja (σ:List Nat) (e1 e2:Nat) (l:List Oper):List Nat→List Oper
 | []=>[]
 | i::is=>xO σ e1 e2 i l[i]? (ja σ e1 e2 l is)
def Gx (σ:List Nat) (e1 e2:Nat) (l:List Oper):List Oper:=ja σ e1 e2 l σ
def uU (σ:List Nat) (n:Nat):Bool:=σ.length==n&&((List.range n).all fun i=>σ[Js σ i]?==some i)&&((List.range n).all fun j=>match σ[j]? with | some i=>decide (i<n)&&Js σ i==j | none=>false)
def Qv (n:Nat) (l:List Oper) (σ:List Nat) (e1 e2:Nat):Bool:=
 uU σ l.length&&(l.all fun o=>match o.guard with | some (j,_)=>decide (j<l.length) | none=>true)&&Ew n (Gx σ e1 e2 l).toArray&&((Gx σ e1 e2 l).all fun o=>o.op.operands.toList.all A7)
theorem Td {σ:List Nat} {e1 e2:Nat} {l:List Oper}:∀ (is:List Nat),(∀ i∈is,i<l.length)→(ja σ e1 e2 l is).length=is.length∧∀ (k i:Nat),is[k]?=some i→∃ o,l[i]?=some o∧(ja σ e1 e2 l is)[k]?=some (rnO σ e1 e2 i o)
 | [],_=>⟨rfl,fun k i h=>by simp at h⟩
 | i::is,h=>by
  obtain⟨q1,q2⟩:=Td (σ:=σ) (e1:=e1) (e2:=e2) (l:=l) is (fun x hx=>h x (by simp[hx]))
  have hi:=h i (by simp)
  simp only[ja,aA hi,xO]
  refine⟨by simp[q1],fun k x hk=>?_⟩
  cases k with
  | zero =>
   simp only[aB,ah] at hk
   subst hk
   exact⟨l[i],aA hi,by simp⟩
  | succ k =>
   simp only[aaD] at hk ⊢
   exact q2 k x hk
def Bfr (e1 e2:Nat):List Nat→Prop
 | []=>True
 | i::L=>i=e1∨(i≠e2∧Bfr e1 e2 L)
theorem ABY {e1 e2:Nat} (h:e1≠e2):∀ L:List Nat,Bfr e1 e2 L∨Bfr e2 e1 L
 | []=>.inl trivial
 | i::L=>by
  by_cases h1:i=e1
  ·exact .inl (.inl h1)
  ·by_cases h2:i=e2
   ·exact .inr (.inl h2)
   ·rcases ABY h L with h3 | h3
    ·exact .inl (.inr ⟨h2,h3⟩)
    ·exact .inr (.inr ⟨h1,h3⟩)
section perm
variable {σ:List Nat} {e1 e2:Nat} {l:List Oper}
structure PermF (σ:List Nat) (n:Nat):Prop where
 len:σ.length=n
 at_:∀ i,i<n→σ[Js σ i]?=some i
 lt:∀ (j i:Nat),σ[j]?=some i→i<n∧Js σ i=j
theorem zV {n:Nat} (h:uU σ n=true):PermF σ n:=by
 simp only[uU,ax,Zi] at h
 obtain⟨⟨h1,h2⟩,h3⟩:=h
 refine⟨h1,fun i hi=>?_,fun j i hj=>?_⟩
 ·have:=aG.1 h2 i (aa2.2 hi)
  simpa using this
 ·have hlt:j<n:=by rw[← h1]; exact(ay.1 hj).1
  have:=aG.1 h3 j (aa2.2 hlt)
  simp only[hj,ax,aY,Zi] at this
  exact this
theorem ADA (hp:PermF σ l.length) (hg:∀ o∈l,∀ j b,o.guard=some (j,b)→j<l.length) {i:Nat} (hi:i<l.length) {K:Act→World→Prop} {a:Act} {w:World}
  (h:wpOp P (Gx σ e1 e2 l).toArray Q (Js σ i) K a w):wpOp P l.toArray Q i K a w:=by
 have hlt:∀ x∈σ,x<l.length:=fun x hx=>by
  obtain⟨j,hj,rfl⟩:=aaG hx
  exact(hp.lt j _ (aA hj)).1
 have hG:=(Td (σ:=σ) (e1:=e1) (e2:=e2) (l:=l) σ hlt).2
 obtain⟨o,ho,ho'⟩:=hG _ _ (hp.at_ i hi)
 have hy:∀ j,j<l.length→yielded (Gx σ e1 e2 l).toArray a.tmps (Js σ j)=yielded l.toArray a.tmps j:=fun j hj=>by
  obtain⟨oj,hoj,hoj'⟩:=hG _ _ (hp.at_ j hj)
  unfold yielded
  simp only[wo,Gx,hoj',hoj,abl]
  rfl
 have hw:Region.wanted (rnO σ e1 e2 i o) (yielded (Gx σ e1 e2 l).toArray a.tmps)=Region.wanted o (yielded l.toArray a.tmps):=by
  cases hgd:o.guard with
  | none=>simp only[Region.wanted,rnO,rnG,hgd]
  | some jb =>
   obtain⟨j,b⟩:=jb
   have:=hy j (hg o (aZ ho) j b hgd)
   simp only[Region.wanted,rnO,rnG,hgd,this]
 unfold wpOp at h ⊢
 have ho2:(Gx σ e1 e2 l).toArray[Js σ i]?=some (rnO σ e1 e2 i o):=by simpa [Gx] using ho'
 have ho3:l.toArray[i]?=some o:=by simpa using ho
 simp only[ho2,ho3,hw] at h ⊢
 exact h
theorem jc {n n':Nat} (hok:Ew n l.toArray=true) (hok':Ew n' (Gx σ e1 e2 l).toArray=true) (hp:PermF σ l.length) (hg:∀ o∈l,∀ j b,o.guard=some (j,b)→j<l.length) (hne:e1≠e2) :
  ∀ (L:List Nat) (listed listed':Array Bool),listed.size=l.length→listed'.size=l.length→(∀ i,i<l.length→listed.getD i false=listed'.getD (Js σ i) false)→GZ l.toArray listed L→(listed.getD e1 false=true∨Bfr e1 e2 L) →
   GZ (Gx σ e1 e2 l).toArray listed' (L.map (Js σ))∧∀ a w,wpOps P (Gx σ e1 e2 l).toArray Q (L.map (Js σ)) a w→wpOps P l.toArray Q L a w:=by
 have hlt:∀ x∈σ,x<l.length:=fun x hx=>by
  obtain⟨j,hj,rfl⟩:=aaG hx
  exact(hp.lt j _ (aA hj)).1
 obtain⟨hlen,hG⟩:=Td (σ:=σ) (e1:=e1) (e2:=e2) (l:=l) σ hlt
 have hlen':(Gx σ e1 e2 l).toArray.size=l.length:=by simp[Gx,hlen,hp.len]
 have hposlt:∀ i,i<l.length→Js σ i<l.length:=fun i hi=>by
  have:=(ay.1 (hp.at_ i hi)).1
  rw[hp.len] at this; exact this
 intro L
 induction L with
 | nil =>
  intro listed listed' hs hs' hc hv _
  simp only[GZ,cZ] at hv ⊢
  have hall:=zU hok hv (by simpa using hs)
  refine⟨YO (fun j hj=>?_) (by rw[hs',hlen']),fun a w h=>by simpa [wpOps] using h⟩
  rw[hlen'] at hj
  have hj2:j<σ.length:=by rw[hp.len]; exact hj
  obtain⟨q1,q2⟩:=hp.lt j _ (aA hj2)
  have:=hc _ q1
  rw[q2] at this
  rw[← this]
  exact hall _ (by simpa using q1)
 | cons i L ih =>
  intro listed listed' hs hs' hc hv hb
  obtain⟨hi,hv⟩:=hv
  rw[mem_ready] at hi
  obtain⟨hun,o,ho,haft⟩:=hi
  have hil:i<l.length:=by have:=(bC.1 ho).1; simpa using this
  have hun':listed.getD i false=false:=by
   have hi2:i<listed.size:=by omega
   simp[hi2] at hun ⊢
   exact hun
  have ho2:l[i]?=some o:=by simpa using ho
  obtain⟨o',ho',hog⟩:=hG _ _ (hp.at_ i hil)
  rw[ho2] at ho'
  cases ho'
  have hready:Js σ i∈Region.ready .any (Gx σ e1 e2 l).toArray listed':=by
   rw[mem_ready]
   refine⟨?_,rnO σ e1 e2 i o,by simpa [Gx] using hog,fun e he hbd=>?_⟩
   ·have h2:Js σ i<listed'.size:=by rw[hs']; exact hposlt i hil
    have:=hc i hil
    rw[hun'] at this
    simp[h2] at this ⊢
    first | exact this | exact this.symm
   ·simp only[rnO,List.mem_toArray] at he
    obtain⟨e0,he0,rfl⟩:=o9 he
    have hin:(e0=⟨e1,.data⟩∧i=e2)∨e0∈o.after.toList:=by
     simp only[ABX] at he0
     split at he0
     ·rename_i hbq
      rcases bW.1 he0 with rfl | he0
      ·exact .inl ⟨rfl,Nat.eq_of_beq_eq_true hbq⟩
      ·exact .inr he0
     ·exact .inr he0
    simp only[rnE]
    rcases hin with ⟨rfl,rfl⟩ | hin
    ·have h1:listed.getD e1 false=true:=by
      rcases hb with hb | hb
      ·exact hb
      ·rcases hb with hb | ⟨hb,_⟩
       ·exact absurd hb.symm hne
       ·exact absurd rfl hb
     have hlt1:e1<l.length:=by
      rw[← hs]
      rcases bf e1 listed.size with h | h
      ·exact h
      ·simp[Nat.not_lt.2 h] at h1
     rw[← hc e1 hlt1]; exact h1
    ·have hbd0:Region.binds .any e0=true:=by
      simp only[rnE] at hbd
      cases e0
      exact hbd
     have h1:=haft e0 (by simpa using hin) hbd0
     have hlt1:=(FC hok ho).1 e0 (by simpa using hin) hbd0
     rw[← hc e0.on (by omega)]; exact h1
  have hi2:i<listed.size:=by omega
  have hi2':Js σ i<listed'.size:=by rw[hs']; exact hposlt i hil
  obtain⟨v1,v2⟩:=ih (listed.setIfInBounds i true) (listed'.setIfInBounds (Js σ i) true) (by simpa using hs) (by simpa using hs') (fun j hj=>by
   rw[Gm hi2,Gm hi2',hc j hj]
   by_cases e:i=j
   ·subst e; simp
   ·have:Js σ i≠Js σ j:=fun e2=>by
     have h1:=hp.at_ i hil
     have h2:=hp.at_ j hj
     rw[e2,h2] at h1
     exact e (XK h1).symm
    simp[e,this]) hv (by
   rcases hb with hb | hb
   ·refine .inl ?_
    rw[Gm hi2]; split
    ·rfl
    ·exact hb
   ·rcases hb with rfl | ⟨_,hb⟩
    ·exact .inl (by rw[Gm hi2]; simp)
    ·exact .inr hb)
  refine⟨⟨hready,v1⟩,fun a w h=>?_⟩
  rw[V3,wpOps_cons] at h
  rw[wpOps_cons]
  exact wpOp_mono v2 (ADA hp hg hil h)
end perm
theorem PN {n:Nat} {l:List Oper} {σ:List Nat} {e1 e2:Nat} (h:Qv n l σ e1 e2=true):PermF σ l.length∧(∀ o∈l,∀ j b,o.guard=some (j,b)→j<l.length)∧Ew n (Gx σ e1 e2 l).toArray=true∧((Gx σ e1 e2 l).toArray.toList.all fun o=>o.op.operands.toList.all A7)=true:=by
 simp only[Qv,ax] at h
 obtain⟨⟨⟨h1,h2⟩,h3⟩,h4⟩:=h
 refine⟨zV h1,fun o ho j b hg=>?_,h3,by simpa using h4⟩
 have:=aG.1 h2 o ho
 simpa [hg] using this
theorem YP {l:List Oper} {σ:List Nat} {e1 e2:Nat} (hp:PermF σ l.length):(Gx σ e1 e2 l).toArray.size=l.length:=by
 have hlt:∀ x∈σ,x<l.length:=fun x hx=>by
  obtain⟨j,hj,rfl⟩:=aaG hx
  exact(hp.lt j _ (aA hj)).1
 have:=(Td (σ:=σ) (e1:=e1) (e2:=e2) (l:=l) σ hlt).1
 simp[Gx,this,hp.len]
theorem split_ok {n:Nat} {l:List Oper} {σ1 σ2:List Nat} {e1 e2:Nat} (hne:e1≠e2) (hok:Ew n l.toArray=true) (h1:Qv n l σ1 e1 e2=true) (h2:Qv n l σ2 e2 e1=true) {a:Act} {w:World}
  (w1:∀ L,GZ (Gx σ1 e1 e2 l).toArray (Array.replicate (Gx σ1 e1 e2 l).toArray.size false) L→wpOps P (Gx σ1 e1 e2 l).toArray Q L a w)
  (w2:∀ L,GZ (Gx σ2 e2 e1 l).toArray (Array.replicate (Gx σ2 e2 e1 l).toArray.size false) L→wpOps P (Gx σ2 e2 e1 l).toArray Q L a w) :
  ∀ L,GZ l.toArray (Array.replicate l.toArray.size false) L→wpOps P l.toArray Q L a w:=by
 intro L hv
 have hrep:∀ (m k:Nat),(Array.replicate m false).getD k false=false:=fun m k=>by
  simp[aaS]
  split<;>rfl
 obtain⟨p1,g1,d1,_⟩:=PN h1
 obtain⟨p2,g2,d2,_⟩:=PN h2
 rcases ABY hne L with hb | hb
 ·obtain⟨v1,v2⟩:=jc (P:=P) (Q:=Q) hok d1 p1 g1 hne L (Array.replicate l.toArray.size false) (Array.replicate (Gx σ1 e1 e2 l).toArray.size false) (by simp) (by rw[YP p1]; simp) (fun i hi=>by rw[hrep,hrep]) hv (.inr hb)
  exact v2 a w (w1 _ v1)
 ·obtain⟨v1,v2⟩:=jc (P:=P) (Q:=Q) hok d2 p2 g2 (Ne.symm hne) L (Array.replicate l.toArray.size false) (Array.replicate (Gx σ2 e2 e1 l).toArray.size false) (by simp) (by rw[YP p2]; simp) (fun i hi=>by rw[hrep,hrep]) hv (.inr hb)
  exact v2 a w (w2 _ v1)
def YQ (l:List Oper):Nat→List Nat→Bool
 | _,[]=>true
 | q,j::js=>(match l[j]? with | some o=>BM o q | none=>false)&&YQ l j js
theorem eP {x y z:Nat} (hz:y≠z):∀ L:List Nat,Bfr x y L→Bfr y z L→Bfr x z L
 | [],_,_=>trivial
 | i::L,h1,h2=>by
  rcases h1 with h1 | ⟨h1,h3⟩
  ·exact .inl h1
  ·rcases h2 with h2 | ⟨h2,h4⟩
   ·exact absurd h2 h1
   ·exact .inr ⟨h2,eP hz L h3 h4⟩
theorem YR {l:List Oper} {q j:Nat} {o:Oper} (ho:l[j]?=some o) (hb:BM o q=true):∀ (L:List Nat) (listed:Array Bool),listed.getD q false=false→GZ l.toArray listed L→Bfr q j L
 | [],_,_,_=>trivial
 | i::L,listed,hq,hv=>by
  by_cases h1:i=q
  ·exact .inl h1
  ·refine .inr ⟨fun e=>?_,YR ho hb L _ ?_ hv.2⟩
   ·subst e
    obtain⟨_,o',ho',haft⟩:=(mem_ready ..).1 hv.1
    have e:o'=o:=by
     rw[wo,ho] at ho'
     exact(XK ho').symm
    subst e
    simp only[BM,Array.any_eq_true] at hb
    obtain⟨x,hx,hb⟩:=hb
    simp only[ax,Zi] at hb
    have:=haft (o'.after[x]) (by simp) hb.2
    rw[hb.1,hq] at this
    cases this
   ·simp only[aaK,abf] at hq ⊢
    rw[aV h1]
    exact hq
theorem o_ {l:List Oper}:∀ (js:List Nat) (q z:Nat),YQ l q js=true→js.getLast?=some z→∀ (L:List Nat),GZ l.toArray (Array.replicate l.toArray.size false) L→Bfr q z L
 | [],_,_,_,h,_,_=>by cases h
 | [j],q,z,hp,hl,L,hv=>by
  simp only[List.getLast?_singleton,ah] at hl
  subst hl
  simp only[YQ,aU] at hp
  split at hp
  ·rename_i o ho
   exact YR ho hp L _ (by simp[aaS]; split<;>rfl) hv
  ·cases hp
 | j::k::js,q,z,hp,hl,L,hv=>by
  rw[YQ,ax] at hp
  obtain⟨hp1,hp2⟩:=hp
  have h2:=o_ (k::js) j z hp2 (by simpa using hl) L hv
  split at hp1
  ·rename_i o ho
   have h1:=YR ho hp1 L _ (by simp[aaS]; split<;>rfl) hv
   by_cases e:j=z
   ·subst e; exact h1
   ·exact eP e L h1 h2
  ·cases hp1
theorem AE2 {n:Nat} {l:List Oper} {σ1 js:List Nat} {e1 e2:Nat} (hne:e1≠e2) (hok:Ew n l.toArray=true) (hp:YQ l e1 js=true) (hl:js.getLast?=some e2) (h1:Qv n l σ1 e1 e2=true) {a:Act} {w:World}
  (w1:∀ L,GZ (Gx σ1 e1 e2 l).toArray (Array.replicate (Gx σ1 e1 e2 l).toArray.size false) L→wpOps P (Gx σ1 e1 e2 l).toArray Q L a w) :
  ∀ L,GZ l.toArray (Array.replicate l.toArray.size false) L→wpOps P l.toArray Q L a w:=by
 intro L hv
 have hrep:∀ (m k:Nat),(Array.replicate m false).getD k false=false:=fun m k=>by
  simp[aaS]
  split<;>rfl
 obtain⟨p1,g1,d1,_⟩:=PN h1
 have hb:=o_ js e1 e2 hp hl L hv
 obtain⟨v1,v2⟩:=jc (P:=P) (Q:=Q) hok d1 p1 g1 hne L (Array.replicate l.toArray.size false) (Array.replicate (Gx σ1 e1 e2 l).toArray.size false) (by simp) (by rw[YP p1]; simp) (fun i hi=>by rw[hrep,hrep]) hv (.inr hb)
 exact v2 a w (w1 _ v1)
end
end Go.Vm
