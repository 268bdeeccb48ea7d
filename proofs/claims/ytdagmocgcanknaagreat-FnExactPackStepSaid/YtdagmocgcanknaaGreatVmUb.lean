/- A part. -/
import Derived.Test.YtdagmocgcanknaaGreatVmS
import Derived.Deep.LoopGhost
import Derived.Scope
set_option linter.unusedSimpArgs false
set_option linter.unusedVariables false
namespace Go.Vm
open Go.RowKit
section
variable {P:Program} {Q:Exit->Act->World->Prop}
def IC (ops:Array Oper):Array Bool->List Nat->Prop
 | listed,[]=>Region.ready .any ops listed = []
 | listed,i::L=>i∈Region.ready .any ops listed/\IC ops (listed.setIfInBounds i true) L
theorem QR {ops:Array Oper}:∀ (L:List Nat) (fuel:Nat) (listed:Array Bool) (a:Act) (w:World),wpAny P .any ops Q fuel listed a w->IC ops listed L->wpOps P ops Q L a w
 | [],0,listed,a,w,h,hv=>by simpa [wpOps] using h.2
 | [],fuel+1,listed,a,w,h,hv=>by simpa [wpOps] using h.1 hv
 | i::L,0,listed,a,w,h,hv=>by have:=hv.1;rw[h.1] at this; cases this
 | i::L,fuel+1,listed,a,w,h,hv=>by rw[wpOps_cons];exact wpOp_mono (fun a w hh=>QR L fuel _ a w hh hv.2) (h.2 i hv.1)
theorem dQ {ops:Array Oper} {listed:Array Bool} (hl:∀ i,i<ops.size->listed.getD i false=true) (hsz:listed.size=ops.size):Region.ready .any ops listed = []:=by apply List.eq_nil_iff_forall_not_mem.2;grind [mem_ready,bd]
theorem ABv {ops:Array Oper} {n:Nat} (hok:FY n ops=true) {listed:Array Bool} (hr:Region.ready .any ops listed = []) (hsz:listed.size=ops.size):∀ i,i<ops.size->listed.getD i false=true:=by intro i;exact AK8
theorem ug {ops:Array Oper}:∀ (fuel t:Nat) (listed:Array Bool),listed.size=ops.size->listed.toList.countP (fun b=>!b)<=fuel->IC ops listed (Region.linearise.go .any ops fuel t listed [])
 | 0,t,listed,hsz,hcnt=>by simp only[Region.linearise.go,List.reverse_nil,IC];refine dQ (fun i hi=>?_) hsz;have h0:listed.toList.countP (fun b=>!b)=0:=AOl;rw[List.countP_eq_zero] at h0;have hi':i<listed.size:=AOl;have:=h0 listed[i] AOm;simp_all
 | fuel+1,t,listed,hsz,hcnt=>by
  simp only[Region.linearise.go]
  change IC ops listed (match (Region.ready .any ops listed)[t%(Region.ready .any ops listed).length]? with
   | some i=>Region.linearise.go .any ops fuel (t/(Region.ready .any ops listed).length) (listed.setIfInBounds i true) [i]
   | none=>[].reverse)
  cases hi:(Region.ready .any ops listed)[t%(Region.ready .any ops listed).length]? with
  | none =>
   have hnil:Region.ready .any ops listed = []:=by
    cases hr:Region.ready .any ops listed with
    | nil=>rfl
    | cons x xs =>
     grind [Nat.mod_lt]
   simpa [IC] using hnil
  | some i =>
   have hm:=aT hi
   simp only[]
   rw[linearise_go_acc,List.reverse_singleton,List.singleton_append]
   refine⟨hm,ug fuel _ _ AOo ?_⟩
   rw[mem_ready] at hm
   obtain⟨hun,o,ho,_⟩:=hm
   have hi':i<ops.size:=(bd.1 ho).1
   have hi2:i<listed.size:=AOl
   have hun':listed.getD i false=false:=by exact AOQ
   have hset:(listed.setIfInBounds i true).toList=listed.toList.set i true:=AOm
   rw[hset,List.countP_set AOl]
   simp_all
theorem ZB {id:Nat} {ops:Array Oper} {a:Act} {w:World} (hm:P.follows .mixedOrders=true)
  (h:∀ L,IC ops (Array.replicate ops.size false) L->wpOps P ops Q L a { w with drawn:=w.drawn+1 }):(Code.region id ops true).wp P Q a w:=
 wp_region_draw fun t=>by simp only[Region.schedule,hm,P7,aO];refine h _ (ug ops.size t _ AOm ?_);grind [List.countP_le_length]
def MQ:List Nat->Nat->Nat
 | [],_=>0
 | x::xs,i=>match Nat.beq x i with
  | true=>0
  | false=>MQ xs i+1
def rnE (σ:List Nat) (e:Edge):Edge:=⟨MQ σ e.on,e.ground⟩
def uh (σ:List Nat):List Edge->List Edge
 | []=>[]
 | e::es=>rnE σ e::uh σ es
theorem ui {σ:List Nat} {e':Edge}:∀ {l:List Edge},e'∈uh σ l->∃ e∈l,e'=rnE σ e
 | [],h=>AP8
 | e::es,h=>by
  simp only[uh,TM] at h;rcases h with rfl | h
  .grind
  .obtain⟨x,hx,rfl⟩:=ui h;grind
def rnG (σ:List Nat):Option (Nat×Bool)->Option (Nat×Bool)
 | none=>none
 | some (j,b)=>some (MQ σ j,b)
def ADr (e1 e2 i:Nat) (l:List Edge):List Edge:=match Nat.beq i e2 with
 | true=>⟨e1,.data⟩::l
 | false=>l
def rnO (σ:List Nat) (e1 e2 i:Nat) (o:Oper):Oper:=⟨o.dst,o.op,o.type,o.pos,(uh σ (ADr e1 e2 i o.after.toList)).toArray,rnG σ o.guard⟩
def AAc (σ:List Nat) (e1 e2 i:Nat):Option Oper->List Oper->List Oper
 | some o,r=>rnO σ e1 e2 i o::r
 | none,r=>r
def og (σ:List Nat) (e1 e2:Nat) (l:List Oper):List Nat->List Oper
 | []=>[]
 | i::is=>AAc σ e1 e2 i l[i]? (og σ e1 e2 l is)
def Ia (σ:List Nat) (e1 e2:Nat) (l:List Oper):List Oper:=og σ e1 e2 l σ
def yX (σ:List Nat) (n:Nat):Bool:=σ.length==n&&((List.range n).all fun i=>σ[MQ σ i]?==some i)&&((List.range n).all fun j=>match σ[j]? with | some i=>decide (i<n)&&MQ σ i==j | none=>false)
def UK (n:Nat) (l:List Oper) (σ:List Nat) (e1 e2:Nat):Bool:=
 yX σ l.length&&(l.all fun o=>match o.guard with | some (j,_)=>decide (j<l.length) | none=>true)&&FY n (Ia σ e1 e2 l).toArray&&((Ia σ e1 e2 l).all fun o=>o.op.operands.toList.all Ap)
theorem Vu {σ:List Nat} {e1 e2:Nat} {l:List Oper}:∀ (is:List Nat),(∀ i∈is,i<l.length)->(og σ e1 e2 l is).length=is.length/\∀ (k i:Nat),is[k]?=some i->∃ o,l[i]?=some o/\(og σ e1 e2 l is)[k]?=some (rnO σ e1 e2 i o)
 | [],_=>⟨rfl,fun k i h=>APN⟩
 | i::is,h=>by obtain⟨q1,q2⟩:=Vu (σ:=σ) (e1:=e1) (e2:=e2) (l:=l) is (fun x hx=>h x AP3);have hi:=h i AOm;simp only[og,am hi,AAc];grind
def Bfr (e1 e2:Nat):List Nat->Prop
 | []=>True
 | i::L=>i=e1\/(i≠e2/\Bfr e1 e2 L)
theorem ADs {e1 e2:Nat} (h:e1≠e2):∀ L:List Nat,Bfr e1 e2 L\/Bfr e2 e1 L
 | []=>.inl trivial
 | i::L=>by
  by_cases h1:i=e1
  .exact .inl (.inl h1)
  .by_cases h2:i=e2
   .exact .inr (.inl h2)
   .rcases ADs h L with h3 | h3
    .exact .inl (.inr ⟨h2,h3⟩)
    .exact .inr (.inr ⟨h1,h3⟩)
section perm
variable {σ:List Nat} {e1 e2:Nat} {l:List Oper}
structure PermF (σ:List Nat) (n:Nat):Prop where
 len:σ.length=n
 at_:∀ i,i<n->σ[MQ σ i]?=some i
 lt:∀ (j i:Nat),σ[j]?=some i->i<n/\MQ σ i=j
theorem ABw {n:Nat} (h:yX σ n=true):PermF σ n:=by
 simp only[yX,ar,qX] at h;obtain⟨⟨h1,h2⟩,h3⟩:=h;refine⟨h1,fun i hi=>?_,fun j i hj=>?_⟩
 .grind
 grind
theorem AFb (hp:PermF σ l.length) (hg:∀ o∈l,∀ j b,o.guard=some (j,b)->j<l.length) {i:Nat} (hi:i<l.length) {K:Act->World->Prop} {a:Act} {w:World}
  (h:wpOp P (Ia σ e1 e2 l).toArray Q (MQ σ i) K a w):wpOp P l.toArray Q i K a w:=by
 have hlt:∀ x∈σ,x<l.length:=fun x hx=>by exact ANQ
 have hG:=(Vu (σ:=σ) (e1:=e1) (e2:=e2) (l:=l) σ hlt).2
 obtain⟨o,ho,ho'⟩:=hG _ _ (hp.at_ i hi)
 have hy:∀ j,j<l.length->yielded (Ia σ e1 e2 l).toArray a.tmps (MQ σ j)=yielded l.toArray a.tmps j:=fun j hj=>by obtain⟨oj,hoj,hoj'⟩:=hG _ _ (hp.at_ j hj);unfold yielded;simp only[aa4,Ia,hoj',hoj,abv];rfl
 have hw:Region.wanted (rnO σ e1 e2 i o) (yielded (Ia σ e1 e2 l).toArray a.tmps)=Region.wanted o (yielded l.toArray a.tmps):=by
  cases hgd:o.guard with
  | none=>simp only[Region.wanted,rnO,rnG,hgd]
  | some jb =>
   obtain⟨j,b⟩:=jb
   have:=hy j (hg o (aT ho) j b hgd)
   simp only[Region.wanted,rnO,rnG,hgd,this]
 unfold wpOp at h ⊢
 have ho2:(Ia σ e1 e2 l).toArray[MQ σ i]?=some (rnO σ e1 e2 i o):=by simpa [Ia] using ho'
 have ho3:l.toArray[i]?=some o:=by simpa using ho
 simp only[ho2,ho3,hw] at h ⊢
 exact h
theorem oh {n n':Nat} (hok:FY n l.toArray=true) (hok':FY n' (Ia σ e1 e2 l).toArray=true) (hp:PermF σ l.length) (hg:∀ o∈l,∀ j b,o.guard=some (j,b)->j<l.length) (hne:e1≠e2) :
  ∀ (L:List Nat) (listed listed':Array Bool),listed.size=l.length->listed'.size=l.length->(∀ i,i<l.length->listed.getD i false=listed'.getD (MQ σ i) false)->IC l.toArray listed L->(listed.getD e1 false=true\/Bfr e1 e2 L) ->
   IC (Ia σ e1 e2 l).toArray listed' (L.map (MQ σ))/\∀ a w,wpOps P (Ia σ e1 e2 l).toArray Q (L.map (MQ σ)) a w->wpOps P l.toArray Q L a w:=by
 have hlt:∀ x∈σ,x<l.length:=fun x hx=>by exact ANQ
 obtain⟨hlen,hG⟩:=Vu (σ:=σ) (e1:=e1) (e2:=e2) (l:=l) σ hlt
 have hlen':(Ia σ e1 e2 l).toArray.size=l.length:=by simp[Ia,hlen,hp.len]
 have hposlt:∀ i,i<l.length->MQ σ i<l.length:=fun i hi=>by have:=(az.1 (hp.at_ i hi)).1;rw[hp.len] at this; exact this
 intro L
 induction L with
 | nil =>
  intro listed listed' hs hs' hc hv _
  simp only[IC,ap] at hv ⊢
  have hall:=ABv hok hv AOl
  refine⟨dQ (fun j hj=>?_) AOl,fun a w h=>by simpa [wpOps] using h⟩
  rw[hlen'] at hj
  have hj2:j<σ.length:=by rw[hp.len]; exact hj
  obtain⟨q1,q2⟩:=hp.lt j _ (am hj2)
  grind
 | cons i L ih =>
  intro listed listed' hs hs' hc hv hb
  obtain⟨hi,hv⟩:=hv
  rw[mem_ready] at hi
  obtain⟨hun,o,ho,haft⟩:=hi
  have hil:i<l.length:=by have:=(bd.1 ho).1; simpa using this
  have hun':listed.getD i false=false:=by have hi2:i<listed.size:=AOl;exact AOQ
  have ho2:l[i]?=some o:=by simpa using ho
  obtain⟨o',ho',hog⟩:=hG _ _ (hp.at_ i hil)
  rw[ho2] at ho'
  cases ho'
  have hready:MQ σ i∈Region.ready .any (Ia σ e1 e2 l).toArray listed':=by
   rw[mem_ready];refine⟨?_,rnO σ e1 e2 i o,by simpa [Ia] using hog,fun e he hbd=>?_⟩
   .grind
   .simp only[rnO,List.mem_toArray] at he;obtain⟨e0,he0,rfl⟩:=ui he
    have hin:(e0=⟨e1,.data⟩/\i=e2)\/e0∈o.after.toList:=by
     simp only[ADr] at he0;split at he0
     .simp_all
     .grind
    simp only[rnE];rcases hin with ⟨rfl,rfl⟩ | hin
    .have h1:listed.getD e1 false=true:=by
      rcases hb with hb | hb
      .exact hb
      .rcases hb with hb | ⟨hb,_⟩
       .omega
       omega
     grind
    .have hbd0:Region.binds .any e0=true:=by simp only[rnE] at hbd;cases e0;exact hbd
     grind
  have hi2:i<listed.size:=AOl
  have hi2':MQ σ i<listed'.size:=by rw[hs']; exact hposlt i hil
  obtain⟨v1,v2⟩:=ih (listed.setIfInBounds i true) (listed'.setIfInBounds (MQ σ i) true) AOo AOo (fun j hj=>by
   rw[I9 hi2,I9 hi2',hc j hj];by_cases e:i=j
   .subst e; simp
   .have:MQ σ i≠MQ σ j:=fun e2=>by have h1:=hp.at_ i hil;have h2:=hp.at_ j hj;grind
    grind) hv (by
   rcases hb with hb | hb
   .grind [I9]
   .rcases hb with rfl | ⟨_,hb⟩
    .simp_all
    grind)
  refine⟨⟨hready,v1⟩,fun a w h=>?_⟩
  rw[ao,wpOps_cons] at h
  rw[wpOps_cons]
  exact wpOp_mono v2 (AFb hp hg hil h)
end perm
theorem Rl {n:Nat} {l:List Oper} {σ:List Nat} {e1 e2:Nat} (h:UK n l σ e1 e2=true):PermF σ l.length/\(∀ o∈l,∀ j b,o.guard=some (j,b)->j<l.length)/\FY n (Ia σ e1 e2 l).toArray=true/\((Ia σ e1 e2 l).toArray.toList.all fun o=>o.op.operands.toList.all Ap)=true:=by simp only[UK,ar] at h;grind [ABw,aC]
theorem dR {l:List Oper} {σ:List Nat} {e1 e2:Nat} (hp:PermF σ l.length):(Ia σ e1 e2 l).toArray.size=l.length:=by
 have hlt:∀ x∈σ,x<l.length:=fun x hx=>by exact ANQ
 have:=(Vu (σ:=σ) (e1:=e1) (e2:=e2) (l:=l) σ hlt).1;simp[Ia,this,hp.len]
theorem split_ok {n:Nat} {l:List Oper} {σ1 σ2:List Nat} {e1 e2:Nat} (hne:e1≠e2) (hok:FY n l.toArray=true) (h1:UK n l σ1 e1 e2=true) (h2:UK n l σ2 e2 e1=true) {a:Act} {w:World}
  (w1:∀ L,IC (Ia σ1 e1 e2 l).toArray (Array.replicate (Ia σ1 e1 e2 l).toArray.size false) L->wpOps P (Ia σ1 e1 e2 l).toArray Q L a w)
  (w2:∀ L,IC (Ia σ2 e2 e1 l).toArray (Array.replicate (Ia σ2 e2 e1 l).toArray.size false) L->wpOps P (Ia σ2 e2 e1 l).toArray Q L a w) :
  ∀ L,IC l.toArray (Array.replicate l.toArray.size false) L->wpOps P l.toArray Q L a w:=by
 intro L hv
 have hrep:∀ (m k:Nat),(Array.replicate m false).getD k false=false:=fun m k=>by simp[aa5];split<;>rfl
 obtain⟨p1,g1,d1,_⟩:=Rl h1
 obtain⟨p2,g2,d2,_⟩:=Rl h2
 rcases ADs hne L with hb | hb
 .exact ALZ
 .obtain⟨v1,v2⟩:=oh (P:=P) (Q:=Q) hok d2 p2 g2 (Ne.symm hne) L (Array.replicate l.toArray.size false) (Array.replicate (Ia σ2 e2 e1 l).toArray.size false) AOm (by rw[dR p2]; simp) (fun i hi=>AOo) hv (.inr hb)
  grind
def dS (l:List Oper):Nat->List Nat->Bool
 | _,[]=>true
 | q,j::js=>(match l[j]? with | some o=>Bj o q | none=>false)&&dS l j js
theorem kJ {x y z:Nat} (hz:y≠z):∀ L:List Nat,Bfr x y L->Bfr y z L->Bfr x z L
 | [],_,_=>trivial
 | i::L,h1,h2=>by
  rcases h1 with h1 | ⟨h1,h3⟩
  .exact .inl h1
  .rcases h2 with h2 | ⟨h2,h4⟩
   .omega
   .exact .inr ⟨h2,kJ hz L h3 h4⟩
theorem dU {l:List Oper} {q j:Nat} {o:Oper} (ho:l[j]?=some o) (hb:Bj o q=true):∀ (L:List Nat) (listed:Array Bool),listed.getD q false=false->IC l.toArray listed L->Bfr q j L
 | [],_,_,_=>trivial
 | i::L,listed,hq,hv=>by
  by_cases h1:i=q
  .exact .inl h1
  .refine .inr ⟨fun e=>?_,dU ho hb L _ ?_ hv.2⟩
   .subst e;obtain⟨_,o',ho',haft⟩:=(mem_ready ..).1 hv.1;have e:o'=o:=by rw[aa4,ho] at ho';exact(uG ho').symm
    subst e;simp only[Bj,Array.any_eq_true] at hb;grind
   simp_all
theorem uj {l:List Oper}:∀ (js:List Nat) (q z:Nat),dS l q js=true->js.getLast?=some z->∀ (L:List Nat),IC l.toArray (Array.replicate l.toArray.size false) L->Bfr q z L
 | [],_,_,_,h,_,_=>AP8
 | [j],q,z,hp,hl,L,hv=>by
  simp only[List.getLast?_singleton,ai] at hl;subst hl;simp only[dS,aw] at hp;split at hp
  .rename_i o ho;exact dU ho hp L _ (by simp[aa5]; split<;>rfl) hv
  .cases hp
 | j::k::js,q,z,hp,hl,L,hv=>by
  rw[dS,ar] at hp;obtain⟨hp1,hp2⟩:=hp;have h2:=uj (k::js) j z hp2 AOo L hv;split at hp1
  .rename_i o ho;have h1:=dU ho hp1 L _ (by simp[aa5]; split<;>rfl) hv;grind [kJ]
  .cases hp1
theorem AHL {n:Nat} {l:List Oper} {σ1 js:List Nat} {e1 e2:Nat} (hne:e1≠e2) (hok:FY n l.toArray=true) (hp:dS l e1 js=true) (hl:js.getLast?=some e2) (h1:UK n l σ1 e1 e2=true) {a:Act} {w:World}
  (w1:∀ L,IC (Ia σ1 e1 e2 l).toArray (Array.replicate (Ia σ1 e1 e2 l).toArray.size false) L->wpOps P (Ia σ1 e1 e2 l).toArray Q L a w) :
  ∀ L,IC l.toArray (Array.replicate l.toArray.size false) L->wpOps P l.toArray Q L a w:=by
 intro L hv
 have hrep:∀ (m k:Nat),(Array.replicate m false).getD k false=false:=fun m k=>by simp[aa5];split<;>rfl
 obtain⟨p1,g1,d1,_⟩:=Rl h1
 have hb:=uj js e1 e2 hp hl L hv
 exact ALZ
end
end Go.Vm
namespace Go.Vm
open Go.RowKit
variable {P:Program} {w0:Bs} {St0 St:Nat->Nat->Prop} {β:Nat->Option Nat} {s:MS} {a:Act} {w:World}
def OwnL (st:List Ob):List Cl->List Cl->List Nat->(List Nat->Prop)->Prop
 | [],[],us,K=>K us
 | x::xs,.ow ty sz ys::rs,us,K=>match x with
  | .ref l=>match DF st l with
   | some ob=>ob.ty=ty/\ob.sz=sz/\ob.xs=ys/\ob.wr=true/\DR ys=true/\l∉us/\OwnL st xs rs (l::us) K
   | none=>False
  | .v (.slice none 0 0)=>ys = []/\OwnL st xs rs us K
  | _=>False
 | x::xs,y::rs,us,K=>x=y/\AB y=true/\OwnL st xs rs us K
 | _,_,_,_=>False
section owns
variable {φ:Nat->Nat->Nat->Prop}
theorem oq (h:Core w0 St0 St β s a w) (hφ:Vl w0 w St s.st β φ):∀ (xs ys:List Cl) (vs:List Value) (used:List Nat) (K:List Nat->Prop),vs.length=xs.length->(∀ (k:Nat) (c:Cl),xs[k]?=some c->∃ y,vs[k]?=some y/\RdC w St s.st β c y)->OwnL s.st xs ys used K ->
  ∃ (used':List Nat) (Φ:Nat->Nat->Prop),K used'/\(∀ l∈used,l∈used')/\ys.length=xs.length/\(∀ (k:Nat) (c:Cl),ys[k]?=some c->∃ y,vs[k]?=some y/\RdO w St c y (Φ k)) /\
   (∀ k x,Φ k x->∃ l,l∉used/\l∈used'/\Fp s.st β φ l x/\∀ ob,s.st[l]?=some ob->ob.wr=true)/\∀ k k' x,Φ k x->Φ k' x->k=k'
 | [],ys,vs,used,K,hl,hc,ho=>by
  cases ys with
  | nil=>exact⟨used,fun _ _=>False,ho,fun _ h=>h,rfl,fun k c hk=>APZ,fun _ _ h=>h.elim,fun _ _ _ h=>h.elim⟩
  | cons y ys=>cases y<;>simp[OwnL] at ho
 | x::xs,[],vs,used,K,hl,hc,ho=>AQZ
 | x::xs,y::ys,[],used,K,hl,hc,ho=>AQP
 | x::xs,y::ys,v::vs,used,K,hl,hc,ho=>by
  have hl':vs.length=xs.length:=APf;have hc':∀ (k:Nat) (c:Cl),xs[k]?=some c->∃ y,vs[k]?=some y/\RdC w St s.st β c y:=fun k c hk=>by simpa using hc (k+1) c AOo
  obtain⟨v0,hv0,hx⟩:=hc 0 x rfl;simp only[ab,ai] at hv0;subst hv0
  have cons:∀ (used1:List Nat) (F:Nat->Prop),(∀ l∈used,l∈used1)->RdO w St y v F->(∀ x,F x->∃ l,l∉used/\l∈used1/\Fp s.st β φ l x/\∀ ob,s.st[l]?=some ob->ob.wr=true)->OwnL s.st xs ys used1 K ->
    ∃ (used':List Nat) (Φ:Nat->Nat->Prop),K used'/\(∀ l∈used,l∈used')/\(y::ys).length=(x::xs).length/\(∀ (k:Nat) (c:Cl),(y::ys)[k]?=some c->∃ z,(v::vs)[k]?=some z/\RdO w St c z (Φ k)) /\
     (∀ k x,Φ k x->∃ l,l∉used/\l∈used'/\Fp s.st β φ l x/\∀ ob,s.st[l]?=some ob->ob.wr=true)/\∀ k k' x,Φ k x->Φ k' x->k=k':=by
   intro used1 F hu hr hF hrest
   obtain⟨used',Φ,r1,r2,r3,r4,r5,r6⟩:=oq h hφ xs ys vs used1 K hl' hc' hrest
   refine⟨used',fun k x=>match k with | 0=>F x | k+1=>Φ k x,r1,fun l hl=>r2 l (hu l hl),by simp[r3],fun k c hk=>?_,fun k x hx=>?_,fun k k' x hx hx'=>?_⟩
   .cases k with
    | zero =>
     grind
    | succ k=>grind
   .grind
   .grind [Ji]
  have plain:x=y/\AB y=true/\OwnL s.st xs ys used K->∃ (used':List Nat) (Φ:Nat->Nat->Prop),K used'/\(∀ l∈used,l∈used')/\(y::ys).length=(x::xs).length/\(∀ (k:Nat) (c:Cl),(y::ys)[k]?=some c->∃ z,(v::vs)[k]?=some z/\RdO w St c z (Φ k)) /\
     (∀ k x,Φ k x->∃ l,l∉used/\l∈used'/\Fp s.st β φ l x/\∀ ob,s.st[l]?=some ob->ob.wr=true)/\∀ k k' x,Φ k x->Φ k' x->k=k':=by
   rintro⟨rfl,hp,hrest⟩
   exact cons used (fun _=>False) (fun _ h=>h) ((RdO.plain (MC hp)).2 (Ve hp hx)) (fun _ h=>h.elim) hrest
  cases y with
  | v z=>exact plain AO2
  | sl z=>exact plain AO2
  | ref z=>exact plain AO2
  | ow ty sz zs =>
   simp only[OwnL] at ho
   split at ho
   .rename_i l
    split at ho
    .rename_i ob hob
     obtain⟨rfl,rfl,rfl,hwr,hnr,hnu,hrest⟩:=ho
     obtain⟨hl0,hlive⟩:=Bo hob
     refine cons (l::used) (Fp s.st β φ l) (fun l' hl'=>by simp[hl']) ?_ (fun x hx=>⟨l,hnu,AOm,hx,fun ob' hob'=>AOo⟩) hrest
     simp only[RdC,BQ,hl0] at hx
     have hx2:=hx.2 hlive
     simp only[RdO]
     cases hβ:β l with
     | none=>grind
     | some b =>
      simp only[hβ] at hx2
      obtain⟨cap,cs,e1,e2,e3,e4,e5⟩:=hx2
      obtain⟨_,_,_,_,g2,_⟩:=h.obs l ob b hl0 hlive hβ
      refine .inr ⟨b,cap,cs,φ l,e1,e2,e3,e4,e5,g2,⟨ob,hl0,hlive,.inl hβ⟩,fun k x hk=>⟨⟨ob,hl0,hlive,.inr ⟨k,hk⟩⟩,fun e=>?_⟩,fun k k' x hk hk'=>(hφ.2.2 l l k k' x hk hk').2,RdOE.mk fun k c hk=>?_⟩
      .exact(hφ.2.1 l k x hk).2.2.2.2.2 l ob hl0 hlive (by rw[hβ,e])
      grind [dK]
    grind
   .obtain⟨rfl,hrest⟩:=ho
    refine cons used (fun _=>False) (fun _ h=>h) ?_ (fun _ h=>h.elim) hrest
    simp only[RdC,RdD] at hx
    simp only[RdO]
    grind
   grind
end owns
structure RdL2 (w:World) (St:Nat->Nat->Prop) (cl:List Cl) (us:List Value) (G:Nat->Nat->Prop):Prop where
 len:us.length=cl.length
 dis:∀ k k' x,G k x->G k' x->k=k'
 rd:∀ (k:Nat) (c:Cl),cl[k]?=some c->∃ y,us[k]?=some y/\RdO w St c y (G k)
def mkV (g:Bool) (us:List Value):Value:=if g=true then .agg us.toArray else us.headD Go.undef
def mkA (g:Bool) (cl:List Cl):AV:=if g=true then .agg cl else .c (cl.headD (.v (.bool false)))
def MCtr (P:Program) (f:FuncId) (g:Bool) (cl:List Cl) (args:List AV) (Q:List Cl->List AV->Prop):Prop:=
 CallsIn P f/\(g=true\/cl.length=1)/\∀ (w:World) (St:Nat->Nat->Prop) (us:List Value) (G:Nat->Nat->Prop) (vs:List Value),(∀ b o,St b o->b<w.heap.size)->(∀ k x,G k x->x<w.heap.size/\∀ o,¬ St x o)->RdL2 w St cl us G->RdAs w St args vs ->
  Calls P f (mkV g us::vs).toArray w fun e w'=>∃ cl' rs rv G',Q cl' rs/\e = .returned (Xd rv)/\Below 0 w w'/\(∀ k,k<w.heap.size->(∀ j,¬ G j k)->w'.heap[k]?=w.heap[k]?)/\(∀ k,k<w.heap.size->w_ w' k=w_ w k) /\
   RdAs w' St rs rv/\RdL2 w' St cl' us G'/\∀ k x,G' k x->(∃ j,G j x)\/(w.heap.size<=x/\x<w'.heap.size)
def Jc (st:List Ob):List Cl->List Cl->List Ob
 | .ref l::zs,.ow ty sz xs::ys=>Jc (st.set l ⟨ty,sz,xs,true,true⟩) zs ys
 | .ref _::zs,_::ys=>Jc st zs ys
 | .v _::zs,_::ys=>Jc st zs ys
 | .sl _::zs,_::ys=>Jc st zs ys
 | .ow _ _ _::zs,_::ys=>Jc st zs ys
 | [],_=>st
 | _::_,[]=>st
def ZC:List Cl->List Cl->Prop
 | [],[]=>True
 | .ow ty sz _::a,d::b=>(match d with | .ow ty' sz' _=>ty'=ty/\sz'=sz | _=>False)/\ZC a b
 | c::a,d::b=>d=c/\ZC a b
 | _,_=>False
theorem Vw:∀ (zs ys:List Cl) (st:List Ob),(Jc st zs ys).length=st.length
 | [],ys,st=>by cases ys<;>rfl
 | z::zs,[],st=>by cases z<;>rfl
 | z::zs,y::ys,st=>by
  cases z with
  | ref l=>cases y<;>simp[Jc,Vw zs ys]
  | _=>simp[Jc,Vw zs ys]
theorem Zc:∀ (zs ys:List Cl) (st:List Ob),(∀ (k k' l:Nat),zs[k]?=some (.ref l)->zs[k']?=some (.ref l)->k=k')->∀ (l:Nat) (ob:Ob),(Jc st zs ys)[l]?=some ob ->
  (st[l]?=some ob/\∀ (k ty sz:Nat) (xs:List (List Cl)),zs[k]?=some (.ref l)->ys[k]?≠some (.ow ty sz xs))\/∃ (k ty sz:Nat) (xs:List (List Cl)),zs[k]?=some (.ref l)/\ys[k]?=some (.ow ty sz xs)/\ob=⟨ty,sz,xs,true,true⟩
 | [],ys,st,hd,l,ob,h=>by
  have:Jc st [] ys=st:=by cases ys<;>rfl
  grind
 | z::zs,[],st,hd,l,ob,h=>by
  have:Jc st (z::zs) []=st:=by cases z<;>rfl
  grind
 | z::zs,y::ys,st,hd,l,ob,h=>by
  have hd':∀ (k k' l:Nat),zs[k]?=some (.ref l)->zs[k']?=some (.ref l)->k=k':=fun k k' l h1 h2=>by have:=hd (k+1) (k'+1) l AOo AOo;omega
  have skip:(Jc st zs ys)[l]?=some ob->(∀ (ty sz:Nat) (xs:List (List Cl)),z = .ref l->y≠ .ow ty sz xs)->(st[l]?=some ob/\∀ (k ty sz:Nat) (xs:List (List Cl)),(z::zs)[k]?=some (.ref l)->(y::ys)[k]?≠some (.ow ty sz xs))\/∃ (k ty sz:Nat) (xs:List (List Cl)),(z::zs)[k]?=some (.ref l)/\(y::ys)[k]?=some (.ow ty sz xs)/\ob=⟨ty,sz,xs,true,true⟩:=by
   intro h hz;rcases Zc zs ys st hd' l ob h with ⟨q1,q2⟩ | ⟨k,ty,sz,xs,q1,q2,q3⟩
   .grind
   .exact .inr ⟨k+1,ty,sz,xs,AOo,AOo,q3⟩
  cases z with
  | v x=>exact skip APn (fun _ _ _ e=>by cases e)
  | sl x=>exact skip APn (fun _ _ _ e=>by cases e)
  | ow t n x=>exact skip APn (fun _ _ _ e=>by cases e)
  | ref l0 =>
   cases y with
   | v x=>exact skip APn (fun _ _ _ _ e=>by cases e)
   | sl x=>exact skip APn (fun _ _ _ _ e=>by cases e)
   | ref x=>exact skip APn (fun _ _ _ _ e=>by cases e)
   | ow ty sz xs =>
    simp only[Jc] at h
    rcases Zc zs ys _ hd' l ob h with ⟨q1,q2⟩ | ⟨k,t,n,x,q1,q2,q3⟩
    .grind [ab,ai,Cl.ref.injEq]
    .exact .inr ⟨k+1,t,n,x,AOo,AOo,q3⟩
theorem Zd:∀ (zs ys:List Cl) (st:List Ob) (l:Nat) (ob:Ob),(∀ (k k' l:Nat),zs[k]?=some (.ref l)->zs[k']?=some (.ref l)->k=k')->st[l]?=some ob ->
  ∃ ob',(Jc st zs ys)[l]?=some ob'/\(ob'=ob\/∃ (k ty sz:Nat) (xs:List (List Cl)),zs[k]?=some (.ref l)/\ys[k]?=some (.ow ty sz xs)/\ob'=⟨ty,sz,xs,true,true⟩):=by
 grind [Vw,az,am,Zc,uG]
theorem Oi {st:List Ob}:∀ (xs ys:List Cl) (us:List Nat) (K:List Nat->Prop),OwnL st xs ys us K->∀ (k l:Nat),xs[k]?=some (.ref l)->l∉us/\∃ ob,DF st l=some ob/\ob.wr=true/\DR ob.xs=true/\ys[k]?=some (.ow ob.ty ob.sz ob.xs)
 | [],ys,us,K,ho,k,l,hk=>APZ
 | x::xs,[],us,K,ho,k,l,hk=>AQZ
 | x::xs,y::ys,us,K,ho,k,l,hk=>by
  have plain:x=y/\AB y=true/\OwnL st xs ys us K->l∉us/\∃ ob,DF st l=some ob/\ob.wr=true/\DR ob.xs=true/\(y::ys)[k]?=some (.ow ob.ty ob.sz ob.xs):=by
   rintro⟨rfl,hp,hrest⟩;cases k with
   | zero=>simp only[ab,ai] at hk; subst hk; simp[AB] at hp
   | succ k=>simpa using Oi xs ys us K hrest k l AOo
  cases y with
  | v z=>exact plain AO2
  | sl z=>exact plain AO2
  | ref z=>exact plain AO2
  | ow ty sz zs =>
   simp only[OwnL] at ho
   split at ho
   .rename_i l0
    split at ho
    .rename_i ob hob
     obtain⟨rfl,rfl,rfl,hwr,hnr,hnu,hrest⟩:=ho
     cases k with
     | zero =>
      grind
     | succ k =>
      obtain⟨q1,q2⟩:=Oi xs ys _ K hrest k l AOo
      grind
    grind
   .cases k with
    | zero=>simp at hk
    | succ k=>simpa using Oi xs ys us K ho.2 k l AOo
   grind
theorem Xi {st:List Ob}:∀ (xs ys:List Cl) (us:List Nat) (K:List Nat->Prop),OwnL st xs ys us K->∀ (k k' l:Nat),xs[k]?=some (.ref l)->xs[k']?=some (.ref l)->k=k'
 | [],ys,us,K,ho,k,k',l,hk,_=>APZ
 | x::xs,[],us,K,ho,k,k',l,hk,_=>AQZ
 | x::xs,y::ys,us,K,ho,k,k',l,hk,hk'=>by
  have key:∀ us',OwnL st xs ys us' K->(x = .ref l->l∈us')->k=k':=by
   intro us' hrest hx;cases k with
   | zero =>
    grind [ab,ai,Oi]
   | succ k =>
    cases k' with
    | zero =>
     grind [ab,ai,Oi]
    | succ k' =>
     have:=Xi xs ys us' K hrest k k' l AOo AOo
     omega
  have plain:x=y/\AB y=true/\OwnL st xs ys us K->k=k':=by rintro⟨rfl,hp,hrest⟩;exact key us hrest fun e=>by subst e; simp[AB] at hp
  cases y with
  | v z=>exact plain AO2
  | sl z=>exact plain AO2
  | ref z=>exact plain AO2
  | ow ty sz zs =>
   simp only[OwnL] at ho
   grind
theorem ou:∀ {a b:List Cl},ZC a b->∀ (k:Nat) (ty sz:Nat) (xs:List (List Cl)),a[k]?=some (.ow ty sz xs)->∃ xs',b[k]?=some (.ow ty sz xs')
 | [],[],h,k,ty,sz,xs,hk=>APZ
 | [],d::b,h,k,ty,sz,xs,hk=>APZ
 | c::a,[],h,k,ty,sz,xs,hk=>by cases c<;>simp[ZC] at h
 | c::a,d::b,h,k,ty,sz,xs,hk=>by
  have tl:ZC a b->∀ (k:Nat),a[k]?=some (Cl.ow ty sz xs)->∃ xs',b[k]?=some (Cl.ow ty sz xs'):=fun h k hk=>ou h k ty sz xs hk;cases c with
  | ow t n x =>
   simp only[ZC] at h
   grind
  | v x =>
   simp only[ZC] at h
   grind
  | sl x =>
   simp only[ZC] at h
   grind
  | ref x =>
   simp only[ZC] at h
   grind
theorem ADt (h:Core w0 St0 St β s a w) {φ:Nat->Nat->Nat->Prop} (hφ:Vl w0 w St s.st β φ) {zs cl cl':List Cl} {us:List Value} {G G':Nat->Nat->Prop} {w':World} {St':Nat->Nat->Prop} {K:List Nat->Prop}
  (ho:OwnL s.st zs cl [] K) (hz:∀ (k:Nat) (c:Cl),zs[k]?=some c->∃ y,us[k]?=some y/\RdC w St s.st β c y)
  (hG:∀ k x,G k x->∃ l,zs[k]?=some (.ref l)/\Fp s.st β φ l x) (hsh:ZC cl cl')
  (hb:Below 0 w w') (hblk:∀ k,k<w.heap.size->(∀ j,¬ G j k)->w'.heap[k]?=w.heap[k]?) (hbs:∀ k,k<w.heap.size->w_ w' k=w_ w k) (hS:∀ b o,St b o->St' b o) (hSo:∀ b o,St' b o->b<w.heap.size->St b o) (hSi:∀ b o,St' b o->b<w'.heap.size)
  (hr:RdL2 w' St' cl' us G') (hG':∀ k x,G' k x->(∃ j,G j x)\/(w.heap.size<=x/\x<w'.heap.size/\∀ o,¬ St' x o)):Core w0 St0 St' β ⟨s.n,s.env,Jc s.st zs cl'⟩ a w':=by
 have hd:=Xi zs cl [] K ho
 have hwr:∀ (k l:Nat) (ob:Ob),zs[k]?=some (.ref l)->s.st[l]?=some ob->ob.wr=true/\ob.live=true/\cl[k]?=some (.ow ob.ty ob.sz ob.xs):=fun k l ob hk hl=>by obtain⟨_,ob',h1,h2,_,h4⟩:=Oi zs cl [] K ho k l hk;obtain⟨h5,h6⟩:=Bo h1;rw[hl] at h5; cases h5;exact⟨h2,h6,h4⟩
 have hGf:∀ k x,G k x->w0.may x/\x<w.heap.size/\∀ o,¬ St x o:=fun k x hx=>by obtain⟨l,q1,q2⟩:=hG k x hx;exact Vo h hφ q2 fun ob hob=>(hwr k l ob q1 hob).1
 have hG'f:∀ k x,G' k x->w0.may x/\x<w'.heap.size/\∀ o,¬ St' x o:=fun k x hx=>by
  rcases hG' k x hx with ⟨j,hj⟩ | ⟨q1,q2,q3⟩
  .obtain⟨p1,p2,p3⟩:=hGf j x hj;exact⟨p1,bm p2 hb.size,fun o ho=>p3 o (hSo x o ho p2)⟩
  .exact⟨.inl (abI h.below.size q1),q2,q3⟩
 have hkeep:∀ (l:Nat) (x:Nat),Fp s.st β φ l x->x<w.heap.size->(∀ k:Nat,zs[k]?≠some (.ref l))->w'.heap[x]?=w.heap[x]?:=fun l x hx hlt hno=>hblk x hlt fun j hj=>by obtain⟨l2,q1,q2⟩:=hG j x hj;have:=Ji h hφ hx q2;subst this;exact hno j q1
 have hcell:∀ b o,St b o->w'.cell? ⟨b,o,none⟩=w.cell? ⟨b,o,none⟩:=fun b o hbo=>cell_of_block (hblk b (h.stIn b o hbo) fun j hj=>(hGf j b hj).2.2 o hbo)
 have hnew:∀ (k l ty sz:Nat) (xs:List (List Cl)) (ob:Ob),zs[k]?=some (.ref l)->cl'[k]?=some (.ow ty sz xs)->s.st[l]?=some ob->ty=ob.ty/\sz=ob.sz/\xs.length=ob.xs.length/\(β l=none->xs = []) /\
   ∀ b,β l=some b->∃ (cs cs':Array Value) (H:Nat->Nat->Prop),w.heap[b]?=some (.cells cs ob.ty (0,0))/\w'.heap[b]?=some (.cells cs' ob.ty (0,0))/\(∀ x∈xs,x.length=ob.sz)/\(∃ cap,cs.size=cap*ob.sz/\cs'.size=cap*ob.sz)/\G' k b /\
    (∀ m x,H m x->G' k x/\x≠b)/\(∀ m m' x,H m x->H m' x->m=m')/\∀ (m:Nat) (c:Cl),xs.flatten[m]?=some c->∃ y,cs'[m]?=some y/\RdO w' St' c y (H m):=by
  intro k l ty sz xs ob hk hk' hl
  obtain⟨_,hlv,hcl⟩:=hwr k l ob hk hl
  obtain⟨xs2,hxs2⟩:=ou hsh k _ _ _ hcl
  rw[hk'] at hxs2
  simp only[ai,Cl.ow.injEq] at hxs2
  obtain⟨rfl,rfl,rfl⟩:=hxs2
  obtain⟨y,hy,hyr⟩:=hz k _ hk
  obtain⟨y2,hy2,hro⟩:=hr.rd k _ hk'
  rw[hy] at hy2; cases hy2
  simp only[RdC,BQ,hl] at hyr
  have hyr2:=hyr.2 hlv
  simp only[RdO] at hro
  cases hβ:β l with
  | none =>
   simp only[hβ] at hyr2
   obtain⟨rfl,hox⟩:=hyr2
   rcases hro with ⟨_,rfl⟩ | ⟨b,cap,cs,H,e1,_⟩
   .exact⟨rfl,rfl,by rw[hox],fun _=>rfl,(fun b hb=>by cases hb)⟩
   .cases e1
  | some b =>
   simp only[hβ] at hyr2
   obtain⟨cap0,cs0,e0,_,_,c4,c5⟩:=hyr2
   rcases hro with ⟨e1,_⟩ | ⟨b',cap,cs,H,e1,e2,e3,e4,e5,e6,e7,e8,e9,e10⟩
   .rw[e0] at e1; cases e1
   .rw[e0] at e1
    simp only[Value.slice.injEq,ai,Addr.mk.injEq,yH] at e1
    obtain⟨rfl,e11,rfl⟩:=e1
    refine⟨rfl,rfl,e11.symm,(fun h=>AP8),fun b2 hb2=>?_⟩
    cases hb2
    exact⟨cs0,cs,H,c4,e4,e6,⟨cap0,c5,e5⟩,e7,e8,e9,fun m c hm=>by simpa using e10.at hm⟩
 have hold:∀ (l:Nat) (o2:Ob),s.st[l]?=some o2->∃ o3,(Jc s.st zs cl')[l]?=some o3/\o3.sz=o2.sz/\o3.ty=o2.ty/\o3.xs.length=o2.xs.length/\(o3.live=true->o2.live=true):=by
  intro l o2 hl;obtain⟨o3,q1,q2⟩:=Zd zs cl' s.st l o2 hd hl;rcases q2 with rfl | ⟨k,ty,sz,xs,p1,p2,rfl⟩
  .exact⟨o3,q1,rfl,rfl,rfl,id⟩
  .obtain⟨r1,r2,r3,_⟩:=hnew k l ty sz xs o2 p1 p2 hl;exact⟨_,q1,r2,r1,r3,fun _=>(hwr k l o2 p1 hl).2.1⟩
 have hback:∀ (l:Nat) (o3:Ob),(Jc s.st zs cl')[l]?=some o3->∃ o2,s.st[l]?=some o2/\((o3=o2/\∀ k:Nat,zs[k]?≠some (.ref l))\/∃ (k ty sz:Nat) (xs:List (List Cl)),zs[k]?=some (.ref l)/\cl'[k]?=some (.ow ty sz xs)/\o3=⟨ty,sz,xs,true,true⟩):=by
  intro l o3 h3;have hl:l<s.st.length:=by have:=(az.1 h3).1;rwa [Vw] at this
  refine⟨s.st[l],am hl, ?_⟩;rcases Zc zs cl' s.st hd l o3 h3 with ⟨q1,q2⟩ | q
  .refine .inl ⟨by rw[am hl] at q1; exact(uG q1).symm,fun k hk=>?_⟩;obtain⟨_,_,hcl⟩:=hwr k l _ hk (am hl);obtain⟨xs',hxs'⟩:=ou hsh k _ _ _ hcl;exact q2 k _ _ _ hk hxs'
  .exact .inr q
 have hr':∀ (l:Nat) (u:Value),BQ w s.st β l u->BQ w' (Jc s.st zs cl') β l u:=by
  intro l u hu;unfold BQ at hu ⊢;cases hq:s.st[l]? with
  | none=>simp[hq] at hu
  | some o2 =>
   simp only[hq] at hu
   obtain⟨o3,q1,q2⟩:=Zd zs cl' s.st l o2 hd hq
   simp only[q1]
   rcases q2 with rfl | ⟨k,ty,sz,xs,p1,p2,rfl⟩
   .refine⟨hu.1,fun hlv=>?_⟩
    have h2:=hu.2 hlv
    obtain⟨o2',t1,t2⟩:=hback l o3 q1
    rw[hq] at t1; cases t1
    cases hβ:β l with
    | none=>simpa only[hβ] using h2
    | some b =>
     simp only[hβ] at h2 ⊢
     rcases t2 with ⟨_,hno⟩ | ⟨k,ty,sz,xs,p1,p2,e⟩
     .rw[hkeep l b ⟨o3,hq,hlv,.inl hβ⟩ (h.obs l o3 b hq hlv hβ).2.1 hno]
      exact h2
     .obtain⟨r1,r2,r3,r4,r5⟩:=hnew k l ty sz xs o3 p1 p2 hq
      obtain⟨cs,cs',H,c1,c2,c3,⟨cap,c4,c5⟩,_⟩:=r5 b hβ
      obtain⟨cap0,cs0,e1,e2,e3,e4,e5⟩:=h2
      rw[c1] at e4; cases e4
      exact⟨cap0,cs',e1,e2,e3,c2,by rw[c5,<- c4,e5]⟩
   .refine⟨hu.1,fun _=>?_⟩
    obtain⟨r1,r2,r3,r4,r5⟩:=hnew k l ty sz xs o2 p1 p2 hq
    subst r1 r2
    have h2:=hu.2 (hwr k l o2 p1 hq).2.1
    cases hβ:β l with
    | none=>simp only[hβ] at h2 ⊢; exact⟨h2.1,r4 hβ⟩
    | some b =>
     simp only[hβ] at h2 ⊢
     obtain⟨cs,cs',H,c1,c2,c3,⟨cap,c4,c5⟩,_⟩:=r5 b hβ
     obtain⟨cap0,cs0,e1,e2,e3,e4,e5⟩:=h2
     rw[c1] at e4; cases e4
     exact⟨cap0,cs',by rw[r3]; exact e1,by rw[r3]; exact e2,e3,c2,by rw[c5,<- c4,e5]⟩
 have hp':∀ (l i off:Nat) (u:Value),AVR w St s.st β (.lp l i off) u->AVR w' St' (Jc s.st zs cl') β (.lp l i off) u:=by
  intro l i off u hu;simp only[AVR] at hu ⊢;cases hq:s.st[l]? with
  | none=>simp[hq] at hu
  | some o2 =>
   obtain⟨o3,p1,p2,_,_,p5⟩:=hold l o2 hq
   simp only[hq] at hu
   simp only[p1,p2]
   exact fun hlv=>hu (p5 hlv)
 have hBB:∀ (c:Cl) (u:Value),RdB w St s.st β c u->RdB w' St' (Jc s.st zs cl') β c u:=fun c u hu=>RdB.mono hS hcell hr' c u hu
 have hFpw:∀ (l:Nat) (ob:Ob) (b:Nat),s.st[l]?=some ob->ob.live=true->β l=some b->b<w.heap.size:=fun l ob b h1 h2 h3=>(h.obs l ob b h1 h2 h3).2.1
 exact {
  defers:=h.defers
  size:=h.size
  lim:=h.lim
  env:=fun i=>AVR.mono hS hcell hr' hp' _ _ (h.env i)
  below:=h.below.step hb (fun k h1 h2=>hblk k (bm h1 h.below.size) fun j hj=>by
   rcases(hGf j k hj).1 with h3 | h3
   .omega
   .exact h2 h3) fun k hk=>hbs k (bm hk h.below.size)
  st0:=fun b o hbo=>hS b o (h.st0 b o hbo)
  stOld:=fun b o hbo hlt hno=>h.stOld b o (hSo b o hbo (bm hlt h.below.size)) hlt hno
  stIn:=hSi
  obs:=fun l o3 b h3 hlv hβ=>by
   obtain⟨o2,q1,q2⟩:=hback l o3 h3;rcases q2 with ⟨rfl,hno⟩ | ⟨k,ty,sz,xs,p1,p2,rfl⟩
   .obtain⟨t1,t2,cs,g1,g2,g3⟩:=h.obs l o3 b q1 hlv hβ;refine⟨t1,bm t2 hb.size,cs,by rw[hkeep l b ⟨o3,q1,hlv,.inl hβ⟩ t2 hno]; exact g1,g2,fun m c hm=>?_⟩;obtain⟨u,hu,hc⟩:=g3 m c hm;exact⟨u,hu,hBB c u hc⟩
   .obtain⟨hw1,hlv1,_⟩:=hwr k l o2 p1 q1;obtain⟨r1,r2,r3,r4,r5⟩:=hnew k l ty sz xs o2 p1 p2 q1;subst r1 r2;obtain⟨t1,t2,_⟩:=h.obs l o2 b q1 hlv1 hβ;obtain⟨cs,cs',H,c1,c2,c3,_,_,_,_,c8⟩:=r5 b hβ;refine⟨t1,bm t2 hb.size,cs',c2,c3,fun m c hm=>?_⟩;obtain⟨y,hy,hc⟩:=c8 m c hm;exact⟨y,hy,hc.toB⟩
  nil:=fun l o3 h3 hlv hβ=>by
   obtain⟨o2,q1,q2⟩:=hback l o3 h3;rcases q2 with ⟨rfl,hno⟩ | ⟨k,ty,sz,xs,p1,p2,rfl⟩
   .exact h.nil l o3 q1 hlv hβ
   .exact(hnew k l ty sz xs o2 p1 p2 q1).2.2.2.1 hβ
  inj:=fun l l' o1 o2 b h1 h2 h3 h4 h5 h6=>by
   have key:∀ (l:Nat) (o3:Ob),(Jc s.st zs cl')[l]?=some o3->o3.live=true->∃ o2,s.st[l]?=some o2/\o2.live=true:=by
    intro l o3 h3 hlv;obtain⟨o2,q1,q2⟩:=hback l o3 h3;rcases q2 with ⟨rfl,hno⟩ | ⟨k,ty,sz,xs,p1,p2,rfl⟩
    .exact⟨o3,q1,hlv⟩
    .exact⟨o2,q1,(hwr k l o2 p1 q1).2.1⟩
   exact AM4
  sep:=fun l o3 b o h3 hlv hβ hbo=>by
   obtain⟨o2,q1,q2⟩:=hback l o3 h3;rcases q2 with ⟨rfl,hno⟩ | ⟨k,ty,sz,xs,p1,p2,rfl⟩
   .exact h.sep l o3 b o q1 hlv hβ (hSo b o hbo (hFpw l o3 b q1 hlv hβ))
   .obtain⟨hw1,hlv1,_⟩:=hwr k l o2 p1 q1;have:=(h.sep l o2 b o q1 hlv1 hβ (hSo b o hbo (hFpw l o2 b q1 hlv1 hβ))).1;rw[hw1] at this;cases this
  own:=by
   have hH:∀ l,∃ Hl:Nat->Nat->Prop,∀ (k ty sz:Nat) (xs:List (List Cl)) (ob:Ob) (b:Nat),zs[k]?=some (.ref l)->cl'[k]?=some (.ow ty sz xs)->s.st[l]?=some ob->β l=some b ->
     ∃ cs':Array Value,w'.heap[b]?=some (.cells cs' ob.ty (0,0))/\G' k b/\(∀ m x,Hl m x->G' k x/\x≠b)/\(∀ m m' x,Hl m x->Hl m' x->m=m')/\∀ (m:Nat) (c:Cl),xs.flatten[m]?=some c->∃ y,cs'[m]?=some y/\RdO w' St' c y (Hl m):=by
    intro l
    by_cases hex:∃ (k ty sz:Nat) (xs:List (List Cl)) (ob:Ob) (b:Nat),zs[k]?=some (.ref l)/\cl'[k]?=some (.ow ty sz xs)/\s.st[l]?=some ob/\β l=some b
    .obtain⟨k,ty,sz,xs,ob,b,h1,h2,h3,h4⟩:=hex
     obtain⟨_,_,_,_,r5⟩:=hnew k l ty sz xs ob h1 h2 h3
     obtain⟨cs,cs',H,c1,c2,c3,c4,c5,c6,c7,c8⟩:=r5 b h4
     refine⟨H,fun k2 ty2 sz2 xs2 ob2 b2 g1 g2 g3 g4=>?_⟩
     have:=hd k k2 l h1 g1
     subst this
     rw[h2] at g2; cases g2
     rw[h3] at g3; cases g3
     rw[h4] at g4; cases g4
     exact⟨cs',c2,c5,c6,c7,c8⟩
    .exact⟨fun _ _=>False,fun k ty sz xs ob b h1 h2 h3 h4=>(hex ⟨k,ty,sz,xs,ob,b,h1,h2,h3,h4⟩).elim⟩
   obtain⟨HH,hHH⟩:=Classical.axiomOfChoice hH;have hwrit:∀ (l:Nat),(∃ (k ty sz:Nat) (xs:List (List Cl)) (ob:Ob) (b:Nat),zs[k]?=some (.ref l)/\cl'[k]?=some (.ow ty sz xs)/\s.st[l]?=some ob/\β l=some b)->∀ m x,HH l m x->∃ k b,zs[k]?=some (.ref l)/\β l=some b/\G' k b/\G' k x/\x≠b:=by rintro l ⟨k,ty,sz,xs,ob,b,h1,h2,h3,h4⟩ m x hx;obtain⟨cs',q1,q2,q3,q4,q5⟩:=hHH l k ty sz xs ob b h1 h2 h3 h4;exact⟨k,b,h1,h4,q2,(q3 m x hx).1,(q3 m x hx).2⟩
   refine⟨fun l m x=>((∃ (k ty sz:Nat) (xs:List (List Cl)) (ob:Ob) (b:Nat),zs[k]?=some (.ref l)/\cl'[k]?=some (.ow ty sz xs)/\s.st[l]?=some ob/\β l=some b)/\HH l m x)\/((∀ k:Nat,zs[k]?≠some (.ref l))/\φ l m x), ?_, ?_, ?_⟩
   .intro l o3 b m c h3 hlv hβ hm hc;obtain⟨o2,q1,q2⟩:=hback l o3 h3;rcases q2 with ⟨rfl,hno⟩ | ⟨k,ty,sz,xs,p1,p2,rfl⟩
    .obtain⟨u,hu,hro⟩:=hφ.1 l o3 b m c q1 hlv hβ hm hc;have hlt:=hFpw l o3 b q1 hlv hβ;refine⟨u,by rw[cell_of_block (hkeep l b ⟨o3,q1,hlv,.inl hβ⟩ hlt hno)]; exact hu,RdO.mono hS hcell c u _ _ (fun x hx=>.inr ⟨hno,hx⟩) (fun x hx=>?_) hro⟩;exact hkeep l x ⟨o3,q1,hlv,.inr ⟨m,hx⟩⟩ (hφ.2.1 l m x hx).2.2.2.1 hno
    .obtain⟨cs',t1,t2,t3,t4,t5⟩:=hHH l k ty sz xs o2 b p1 p2 q1 hβ;obtain⟨y,hy,hro⟩:=t5 m c hm;exact⟨y,by simp[World.cell?,t1,hy],RdO.mono (fun _ _ h=>h) (fun _ _ _=>rfl) c y _ _ (fun x hx=>.inl ⟨⟨k,ty,sz,xs,o2,b,p1,p2,q1,hβ⟩,hx⟩) (fun _ _=>rfl) hro⟩
   .rintro l m x (⟨hex,hx⟩ | ⟨hno,hx⟩)
    .obtain⟨k,b,p1,p2,p3,p4,p5⟩:=hwrit l hex m x hx;obtain⟨k2,ty,sz,xs,ob,b2,g1,g2,g3,g4⟩:=hex;obtain⟨t1,t2,t3⟩:=hG'f k x p4;obtain⟨o3,s1,s2⟩:=Zd zs cl' s.st l ob hd g3
     have hlv3:o3.live=true:=by
      rcases s2 with rfl | ⟨_,_,_,_,_,_,rfl⟩
      .exact(hwr k2 l o3 g1 g3).2.1
      .rfl
     refine⟨⟨o3,b2,s1,hlv3,g4⟩,t1,fun h=>h,t2,t3,fun l' o4 h4 hlv hb'=>?_⟩;obtain⟨o5,u1,u2⟩:=hback l' o4 h4;rcases u2 with ⟨rfl,hno'⟩ | ⟨k',ty',sz',xs',v1,v2,rfl⟩
     .rcases hG' k x p4 with ⟨j,hj⟩ | ⟨q1,_⟩
      .obtain⟨l2,w1,w2⟩:=hG j x hj;have:=Ji h hφ ⟨o4,u1,hlv,.inl hb'⟩ w2;subst this;exact hno' j w1
      .have:=hFpw l' o4 x u1 hlv hb';omega
     .obtain⟨cs',z1,z2,_⟩:=hHH l' k' ty' sz' xs' o5 x v1 v2 u1 hb';have:=hr.dis k k' x p4 z2;subst this;rw[p1] at v1;simp only[ai,Cl.ref.injEq] at v1;subst v1;rw[p2] at hb';exact p5 (uG hb').symm
    .obtain⟨⟨o2,b,p1,p2,p3⟩,q1,_,q3,q4,q5⟩:=hφ.2.1 l m x hx;obtain⟨o3,s1,s2⟩:=Zd zs cl' s.st l o2 hd p1
     have hlv3:o3.live=true:=by
      rcases s2 with rfl | ⟨_,_,_,_,_,_,rfl⟩
      .exact p2
      .rfl
     refine⟨⟨o3,b,s1,hlv3,p3⟩,q1,fun h=>h,bm q3 hb.size,fun o ho'=>q4 o (hSo x o ho' q3),fun l' o4 h4 hlv=>?_⟩;obtain⟨o5,u1,u2⟩:=hback l' o4 h4;rcases u2 with ⟨rfl,_⟩ | ⟨k',ty',sz',xs',v1,v2,rfl⟩
     .exact q5 l' o4 u1 hlv
     .exact q5 l' o5 u1 (hwr k' l' o5 v1 u1).2.1
   .rintro l l' m m' x (⟨hex,hx⟩ | ⟨hno,hx⟩) (⟨hex',hx'⟩ | ⟨hno',hx'⟩)
    .obtain⟨k,b,p1,p2,p3,p4,p5⟩:=hwrit l hex m x hx;obtain⟨k',b',p1',p2',p3',p4',p5'⟩:=hwrit l' hex' m' x hx';have:=hr.dis k k' x p4 p4';subst this;rw[p1] at p1';simp only[ai,Cl.ref.injEq] at p1';subst p1';obtain⟨k2,ty,sz,xs,ob,b2,g1,g2,g3,g4⟩:=hex;obtain⟨cs',z1,z2,z3,z4,z5⟩:=hHH l k2 ty sz xs ob b2 g1 g2 g3 g4;exact⟨rfl,z4 m m' x hx hx'⟩
    .obtain⟨k,b,p1,p2,p3,p4,p5⟩:=hwrit l hex m x hx;obtain⟨⟨o2,b2,t1,t2,t3⟩,_,_,q3,_⟩:=hφ.2.1 l' m' x hx';rcases hG' k x p4 with ⟨j,hj⟩ | ⟨q1,_⟩
     .obtain⟨l2,w1,w2⟩:=hG j x hj;have:=Ji h hφ ⟨o2,t1,t2,.inr ⟨m',hx'⟩⟩ w2;subst this;exact absurd w1 (hno' j)
     .omega
    .obtain⟨k,b,p1,p2,p3,p4,p5⟩:=hwrit l' hex' m' x hx';obtain⟨⟨o2,b2,t1,t2,t3⟩,_,_,q3,_⟩:=hφ.2.1 l m x hx;rcases hG' k x p4 with ⟨j,hj⟩ | ⟨q1,_⟩
     .obtain⟨l2,w1,w2⟩:=hG j x hj;have:=Ji h hφ ⟨o2,t1,t2,.inr ⟨m,hx⟩⟩ w2;subst this;exact absurd w1 (hno j)
     .omega
    .exact hφ.2.2 l l' m m' x hx hx' }
theorem dV {st:List Ob}:∀ (xs ys:List Cl) (us:List Nat) (K:List Nat->Prop),OwnL st xs ys us K->ys.length=xs.length/\∀ (k:Nat) (x:Cl),xs[k]?=some x ->
  (∃ l ob,x = .ref l/\DF st l=some ob/\ob.wr=true/\DR ob.xs=true/\ys[k]?=some (.ow ob.ty ob.sz ob.xs))\/(ys[k]?=some x/\AB x=true)\/(x = .v (.slice none 0 0)/\∃ ty sz,ys[k]?=some (.ow ty sz []))
 | [],ys,us,K,ho=>by
  cases ys with
  | nil=>grind
  | cons y ys=>cases y<;>simp[OwnL] at ho
 | x::xs,[],us,K,ho=>AQZ
 | x::xs,y::ys,us,K,ho=>by
  have cons:∀ us',OwnL st xs ys us' K->((∃ l ob,x = .ref l/\DF st l=some ob/\ob.wr=true/\DR ob.xs=true/\y = .ow ob.ty ob.sz ob.xs)\/(y=x/\AB x=true)\/(x = .v (.slice none 0 0)/\∃ ty sz,y = .ow ty sz [])) ->
    (y::ys).length=(x::xs).length/\∀ (k:Nat) (x2:Cl),(x::xs)[k]?=some x2->(∃ l ob,x2 = .ref l/\DF st l=some ob/\ob.wr=true/\DR ob.xs=true/\(y::ys)[k]?=some (.ow ob.ty ob.sz ob.xs))\/((y::ys)[k]?=some x2/\AB x2=true)\/(x2 = .v (.slice none 0 0)/\∃ ty sz,(y::ys)[k]?=some (.ow ty sz [])):=by
   intro us' hrest hx
   obtain⟨q1,q2⟩:=dV xs ys us' K hrest
   refine⟨by simp[q1],fun k x2 hk=>?_⟩
   cases k with
   | zero =>
    grind
   | succ k=>grind
  cases y with
  | v z=>simp only[OwnL] at ho; grind
  | sl z=>simp only[OwnL] at ho; grind
  | ref z=>simp only[OwnL] at ho; grind
  | ow ty sz zs =>
   simp only[OwnL] at ho
   split at ho
   .rename_i l
    split at ho
    .grind
    grind
   .grind
   grind
theorem AAd (h:Core w0 St0 St β s a w) {φ:Nat->Nat->Nat->Prop} (hφ:Vl w0 w St s.st β φ) {zs cl:List Cl} {K:List Nat->Prop} {us:List Value} (ho:OwnL s.st zs cl [] K) (hlen:us.length=zs.length)
  (hz:∀ (k:Nat) (c:Cl),zs[k]?=some c->∃ y,us[k]?=some y/\RdC w St s.st β c y):RdL2 w St cl us (fun k x=>∃ l,zs[k]?=some (.ref l)/\Fp s.st β φ l x):=by
 obtain⟨q1,q2⟩:=dV zs cl [] K ho
 refine⟨AOl,fun k k' x ⟨l,h1,h2⟩ ⟨l',h1',h2'⟩=>?_,fun k c hk=>?_⟩
 .grind [Ji,Xi]
 .have hkz:k<zs.length:=by rw[<- q1]; exact(az.1 hk).1
  obtain⟨y,hy,hr⟩:=hz k _ (am hkz)
  refine⟨y,hy, ?_⟩
  rcases q2 k _ (am hkz) with ⟨l,ob,e1,e2,_,e4,e5⟩ | ⟨e1,e2⟩ | ⟨e1,ty,sz,e2⟩
  .rw[hk] at e5
   cases e5
   rw[e1] at hr
   exact RdO.mono (fun _ _ h=>h) (fun _ _ _=>rfl) _ y _ _ (fun x hx=>⟨l,AOo,hx⟩) (fun _ _=>rfl) (yN h hφ e2 e4 hr)
  .grind [RdO.plain,MC,Ve]
  .rw[hk] at e2
   cases e2
   rw[e1] at hr
   simp only[RdC,RdD] at hr
   simp only[RdO]
   grind
inductive Ex where
 | normal
 | exit (id:Nat)
 | ret
def CallK (P:Program) (f:FuncId) (args:List AV) (K:List Res->Prop):Prop:=∃ rs,Ctr P f args rs/\(ZA rs->K rs)
def ADu (s:MS) (dst:Option Nat) (K:MS->Prop) (y:AV) (st':List Ob):Prop:=K (MS.put ⟨s.n,s.env,st'⟩ dst y)
def ABx (s:MS) (dst:Option Nat) (K:MS->Prop) (st1:List Ob) (rs:List Res):Prop:=K (MS.put ⟨s.n,s.env,(JE st1 rs).2⟩ dst (retA (JE st1 rs).1))
def yY (P:Program) (f:FuncId) (s:MS) (dst:Option Nat) (K:MS->Prop) (args:List AV) (st1:List Ob):Prop:=CallK P f args (ABx s dst K st1)
def MutK (P:Program) (f:FuncId) (s:MS) (args:List AV) (dst:Option Nat) (K:MS->Prop):Prop:=∃ (rest:List AV) (g:Bool) (zs cl:List Cl) (Q:List Cl->List AV->Prop),args=mkA g zs::rest/\(g=true\/zs.length=1) /\
 OwnL s.st zs cl [] (fun _=>True)/\rest.all ABp=true/\MCtr P f g cl rest Q/\∀ cl' rs,Q cl' rs->(rs.all isV=true/\ZC cl cl')/\K (MS.put ⟨s.n,s.env,Jc s.st zs cl'⟩ dst (retA rs))
def Head (s t:MS):Prop:=t.n=s.n/\∀ (w0:Bs) (St0 St:Nat->Nat->Prop) (β:Nat->Option Nat) (a:Act) (w:World),Core w0 St0 St β s a w->∃ St' β',Core w0 St0 St' β' t a w
def Ns (A B:Prop):Prop:=A\/B
def BorK (P:Program) (f:FuncId) (s:MS) (x:Option (List AV)) (K:List Res->Prop):Prop:=∃ args rs,x=some args/\rs.all EH=true/\Ctr P f args rs/\(ZA rs->K rs)
def AJF (P:Program) (x:AV) (y:Option (List AV×List Ob)) (s:MS) (dst:Option Nat) (K:MS->Prop):Prop:=match x,y with
 | .clo f xs,some (args,st1)=>CallK P f (args++xs.map AV.ip) (ABx s dst K st1)
 | _,_=>False
def InlK (P:Program) (f:FuncId) (s:MS) (args:List AV) (dst:Option Nat) (K:MS->Prop):Prop:=CallsIn P f/\∀ (w0:Bs) (St0 St:Nat->Nat->Prop) (β:Nat->Option Nat) (a:Act) (w:World) (us:List Value),Core w0 St0 St β s a w->AVRs w St s.st β args us ->
 Calls P f us.toArray w fun e w'=>∃ u,e = .returned u/\∃ (s':MS) (x:AV),s'.n=s.n/\K (s'.put dst x)/\∃ St' β',Core w0 St0 St' β' s' a w'/\AVR w' St' s'.st β' x u
def Rn (P:Program) (op:Op) (dst:Option Nat) (s:MS) (K:MS->Prop):Prop:=match op with
 | .call c=>match c.callee with
  | .value (.func f)=>Ns (uZ (Xb s.st (c.args.toList.map (Eo s))) (yY P f s dst K)) (Ns (BorK P f s (UH s.st (c.args.toList.map (Eo s))) (ABx s dst K s.st)) (Ns (MutK P f s (c.args.toList.map (Eo s)) dst K) (InlK P f s (c.args.toList.map (Eo s)) dst K)))
  | .value (.tmp t)=>AJF P (unpin (CG s.env t)) (Xb s.st (c.args.toList.map (Eo s))) s dst K
  | _=>UI (XA P s (.call c)) (ADu s dst K)
 | op=>UI (XA P s op) (ADu s dst K)
def gO (P:Program) (o:Oper) (K:MS->Prop) (s:MS) (b:Bool):Prop:=CondK b (Rn P o.op o.dst s K) (K (s.put o.dst .undef))
theorem AFc {P:Program} {o:Oper} {K:MS->Prop} {s:MS}:gO P o K s true=Rn P o.op o.dst s K:=LV
theorem ADv {P:Program} {o:Oper} {K:MS->Prop} {s:MS}:gO P o K s false=K (s.put o.dst .undef):=Jw
theorem ADQ {P:Program} {o:Oper} {K:MS->Prop} {s:MS} {b:Bool} (h1:b=true->Rn P o.op o.dst s K) (h2:b=false->K (s.put o.dst .undef)):gO P o K s b:=AEW h1 h2
def vpO (P:Program) (ops:Array Oper) (K:MS->Prop):List Oper->MS->Prop
 | [],s=>K s
 | o::rest,s=>UJ (oW ops s.env o.guard) (gO P o (vpO P ops K rest) s)
def vpR (P:Program) (ops:Array Oper) (K:MS->Prop) (s:MS):Prop:=vpO P ops K ops.toList s
theorem AFd {P:Program} {l:List Oper} {K:MS->Prop} {s:MS}:vpR P l.toArray K s=vpO P l.toArray K l s:=rfl
def Yb (st:List Ob):List Nat->Option (List Ob)
 | []=>some st
 | l::ls=>match DF st l with
  | some ob=>if GL ob.xs then Yb (Qw st l) ls else none
  | none=>none
def JQ (N:Nat):Cl->Bool
 | .ref l=>decide (l<N)
 | _=>true
mutual
def JR (N:Nat):AV->Bool
 | .c x=>JQ N x
 | .agg xs=>xs.all (JQ N)
 | .lp l _ _=>decide (l<N)
 | .tup xs=>TR N xs
 | .pin x _=>JR N x
 | .vw x _ _ _=>JR N x
 | _=>true
def TR (N:Nat):List AV->Bool
 | []=>true
 | x::xs=>JR N x&&TR N xs
end
def Aq (N:Nat) (ob:Ob):Bool:=GL ob.xs||ob.xs.all fun x=>x.all (JQ N)
def trim (N:Nat) (keys:List Nat) (s:MS):MS:=⟨s.n,keys.map fun k=>(k,CG s.env k),s.st.take N⟩
def QS (N:Nat) (keys:List Nat) (s:MS):Prop:=(keys.all fun k=>JR N (CG s.env k))=true/\((s.st.take N).all (Aq N))=true
def LoopK (s:MS) (body:MS->(MS->Prop)->Prop):Prop:=
 ∃ (H1:MS->Prop) (H2:MS->MS->Prop) (A:Type) (f:A->MS) (p:A->Prop) (μ:A->Nat),(∀ s t,H1 s->H2 s t->Head s t)/\(∃ x,H1 s/\H2 s (f x)/\p x) /\
  ∀ x,p x->body (f x) fun s'=>∃ y,H1 s'/\H2 s' (f y)/\p y/\μ y<μ x
def EM:List (Nat×Bool)->Nat->Nat
 | [],_=>0
 | x::xs,l=>if x.1=l then 0 else EM xs l+1
def jD:List (Nat×Bool)->Nat->Bool
 | [],_=>false
 | x::xs,l=>decide (x.1=l)||jD xs l
def QT (sel:List (Nat×Bool)):Cl->Cl
 | .ref l=>.ref (EM sel l)
 | c=>c
def inC (sel:List (Nat×Bool)):Cl->Bool
 | .ref l=>jD sel l
 | _=>true
mutual
def uk (sel:List (Nat×Bool)):AV->AV
 | .c x=>.c (QT sel x)
 | .agg xs=>.agg (xs.map (QT sel))
 | .lp l i off=>.lp (EM sel l) i off
 | .tup xs=>.tup (ABy sel xs)
 | .ip xs=>.ip xs
 | .undef=>.undef
 | .un=>.un
 | .pin x u=>.pin (uk sel x) u
 | .clo f xs=>.clo f xs
 | .vw x i n m=>.vw (uk sel x) i n m
def ABy (sel:List (Nat×Bool)):List AV->List AV
 | []=>[]
 | x::xs=>uk sel x::ABy sel xs
end
mutual
def inA (sel:List (Nat×Bool)):AV->Bool
 | .c x=>inC sel x
 | .agg xs=>xs.all (inC sel)
 | .lp l _ _=>jD sel l
 | .tup xs=>ADw sel xs
 | .pin x _=>inA sel x
 | .vw x _ _ _=>inA sel x
 | _=>true
def ADw (sel:List (Nat×Bool)):List AV->Bool
 | []=>true
 | x::xs=>inA sel x&&ADw sel xs
end
def KZ (sel:List (Nat×Bool)) (r:Bool) (ob:Ob):Ob:=if r=true then⟨ob.ty,ob.sz,ob.xs.map (fun x=>x.map (QT sel)),ob.wr,ob.live⟩ else ob
def PY (sel:List (Nat×Bool)) (st:List Ob):List (Nat×Bool)->List Ob
 | []=>[]
 | e::r=>(match st[e.1]? with | some ob=>KZ sel e.2 ob | none=>default)::PY sel st r
def rel (sel:List (Nat×Bool)) (keys:List Nat) (s:MS):MS:=⟨s.n,keys.map fun k=>(k,uk sel (CG s.env k)),PY sel s.st sel⟩
def Vx (sel:List (Nat×Bool)) (st:List Ob):List (Nat×Bool)->Prop
 | []=>True
 | e::r=>(match st[e.1]? with | some ob=>(if e.2=true then(ob.xs.all fun x=>x.all (inC sel)) else GL ob.xs)=true | none=>False)/\Vx sel st r
def AFe:List (Nat×Bool)->Bool
 | []=>true
 | x::xs=>!jD xs x.1&&AFe xs
def Ro (sel:List (Nat×Bool)) (keys:List Nat) (s:MS):Prop:=AFe sel=true/\(keys.all fun k=>inA sel (CG s.env k))=true/\Vx sel s.st sel
def Yc:Op->Bool
 | .call c=>match c.callee with
  | .value (.func _)=>true
  | .builtin .append=>true
  | _=>false
 | .alloc _=>true
 | .box _ _=>true
 | .store _ _ _=>true
 | .makeSlice _ _ _=>true
 | .buildSlice _ _ _=>true
 | _=>false
def FM (P:Program) (s:MS) (o:Op) (y:AV) (st':List Ob):Prop:=match o with
 | .call c=>match c.callee with
  | .value (.func f)=>(∃ args rs st1,Xb s.st (c.args.toList.map (Eo s))=some (args,st1)/\Ctr P f args rs/\y=retA (JE st1 rs).1/\st'=(JE st1 rs).2) \/
    (∃ args rs,UH s.st (c.args.toList.map (Eo s))=some args/\rs.all EH=true/\Ctr P f args rs/\y=retA (JE s.st rs).1/\st'=(JE s.st rs).2)\/InlS P f s.st (c.args.toList.map (Eo s)) y st'
  | _=>XA P s (.call c)=some (y,st')
 | op=>XA P s op=some (y,st')
structure PE where
 i:Nat
 o:Op
 env:List (Nat×AV)
 r:AV
def Xj (o:Oper) (q:Nat):List (Nat×List Ob)->Bool
 | []=>true
 | h::H=>(decide (h.1<=q) || !Bj o (h.1-1))&&Xj o q H
def Xk (P:Program) (n:Nat) (env:List (Nat×AV)) (o:Oper) (r:AV) (H:List (Nat×List Ob)):List (Nat×List Ob)->Prop
 | []=>True
 | h::G=>CondK (Xj o h.1 H) (C9 P ⟨n,env,h.2⟩ o.op r) True/\Xk P n env o r H G
def Xl (P:Program) (n:Nat) (oe:Oper) (st':List Ob):List PE->Prop
 | []=>True
 | p::ps=>CondK (Bj oe p.i) True (C9 P ⟨n,p.env,st'⟩ p.o p.r)/\Xl P n oe st' ps
def Us (oe:Oper):List PE->List PE
 | []=>[]
 | p::ps=>match Bj oe p.i with
  | true=>Us oe ps
  | false=>p::Us oe ps
def chainB (o:Oper):List (Nat×List Ob)->Bool
 | []=>false
 | h::_=>match h.1 with
  | 0=>true
  | q+1=>Bj o q
def oz (p:Nat):List (Nat×List Ob)->Bool
 | []=>false
 | h::_=>decide (h.1=p+1)
def Xm (x:Option (Nat×Nat)) (i:Nat) (o:Oper) (H:List (Nat×List Ob)):Bool:=match x with
 | none=>chainB o H
 | some (j,p)=>if i=j then oz p H else chainB o H
def AFf:Op->Bool
 | .alloc _=>true
 | _=>false
def yZ (ops:Array Oper):Option (Nat×Nat)->Bool
 | none=>true
 | some (j,p)=>match ops[j]? with
  | some o=>AFf o.op&&o.after.isEmpty&&o.guard.isNone&&o.dst.isSome&&decide (p<j)&&ops.toList.all fun o'=>!Bj o' j||Bj o' p
  | none=>false
def CallE (P:Program) (f:FuncId) (args:List AV) (K:List Res->Prop):Prop:=∃ rs,Ctr P f args rs/\K rs
def BorE (P:Program) (f:FuncId) (x:Option (List AV)) (K:List Res->Prop):Prop:=∃ args rs,x=some args/\rs.all EH=true/\Ctr P f args rs/\K rs
def AFg (K:AV->List Ob->Prop) (st1:List Ob) (rs:List Res):Prop:=K (retA (JE st1 rs).1) (JE st1 rs).2
def InlE (P:Program) (f:FuncId) (st:List Ob) (args:List AV) (K:AV->List Ob->Prop):Prop:=∃ y st',InlS P f st args y st'/\K y st'
def ADx (P:Program) (f:FuncId) (K:AV->List Ob->Prop) (args:List AV) (st1:List Ob):Prop:=CallE P f args (AFg K st1)
def ADy (P:Program) (s:MS) (o:Op) (K:AV->List Ob->Prop):Prop:=match o with
 | .call c=>match c.callee with
  | .value (.func f)=>Ns (uZ (Xb s.st (c.args.toList.map (Eo s))) (ADx P f K)) (Ns (BorE P f (UH s.st (c.args.toList.map (Eo s))) (AFg K s.st)) (InlE P f s.st (c.args.toList.map (Eo s)) K))
  | _=>UI (XA P s (.call c)) K
 | op=>UI (XA P s op) K
def AFh (P:Program) (o:Oper) (s:MS) (H:List (Nat×List Ob)) (pd:List PE) (i:Nat) (V:List (Nat×List Ob)->List PE->MS->Prop) (y:AV) (st':List Ob):Prop:=
 Xl P s.n o st' pd/\V ((i+1,st')::H) (Us o pd) (MS.put ⟨s.n,s.env,st'⟩ o.dst y)
def rdP (P:Program) (o:Oper) (s:MS) (H:List (Nat×List Ob)) (pd:List PE) (i:Nat) (V:List (Nat×List Ob)->List PE->MS->Prop) (r:AV):Prop:=
 Xk P s.n s.env o r H H/\V H (⟨i,o.op,s.env,r⟩::pd) (s.put o.dst r)
def ADz (P:Program) (x:Option (Nat×Nat)) (o:Oper) (s:MS) (H:List (Nat×List Ob)) (pd:List PE) (i:Nat) (V:List (Nat×List Ob)->List PE->MS->Prop) (e:Bool):Prop:=
 CondK e (CondK (Xm x i o H) (ADy P s o.op (AFh P o s H pd i V)) False) (DrK P s o.op (rdP P o s H pd i V))
def gE (P:Program) (x:Option (Nat×Nat)) (o:Oper) (s:MS) (H:List (Nat×List Ob)) (pd:List PE) (i:Nat) (V:List (Nat×List Ob)->List PE->MS->Prop) (b:Bool):Prop:=
 CondK b (ADz P x o s H pd i V (Yc o.op)) (V H pd (s.put o.dst .undef))
def vpE (P:Program) (x:Option (Nat×Nat)) (ops:Array Oper) (K:MS->Prop):List Oper->Nat->List (Nat×List Ob)->List PE->MS->Prop
 | [],_,_,_,s=>K s
 | o::rest,i,H,pd,s=>UJ (oW ops s.env o.guard) (gE P x o s H pd i (vpE P x ops K rest (i+1)))
def AJG (P:Program) (ops:Array Oper) (s:MS) (K:MS->Prop):Prop:=∀ (w0:Bs) (St0 St:Nat->Nat->Prop) (β:Nat->Option Nat) (a:Act) (w:World),Core w0 St0 St β s a w ->
 wpAny P .any ops (fun e a' w'=>e = .normal/\∃ s',K s'/\s'.n=s.n/\Sim w0 St0 s' a' w') ops.size (Array.replicate ops.size false) a { w with drawn:=w.drawn+1 }
def AD0 (P:Program) (ops:Array Oper) (s:MS) (K:MS->Prop):Prop:=(∃ ls st',Yb s.st ls=some st'/\vpD P ops K ops.toList ⟨s.n,s.env,st'⟩)\/(∃ x,yZ ops x=true/\vpE P x ops K ops.toList 0 [(0,s.st)] [] s)\/AJG P ops s K
def DrawX (P:Program):Nat->Array Oper->MS->(MS->Prop)->Prop
 | 0,ops,s,K=>AD0 P ops s K
 | d+1,ops,s,K=>AD0 P ops s K\/∃ (l:List Oper) (e1 e2:Nat) (σ1 σ2 js:List Nat),ops=l.toArray/\e1≠e2/\UK s.n l σ1 e1 e2=true/\DrawX P d (Ia σ1 e1 e2 l).toArray s K/\((dS l e1 js=true/\js.getLast?=some e2)\/(UK s.n l σ2 e2 e1=true/\DrawX P d (Ia σ2 e2 e1 l).toArray s K))
def DrawK (P:Program) (ops:Array Oper) (s:MS) (K:MS->Prop):Prop:=∃ d,DrawX P d ops s K
def AB0 (id:Nat) (Q:Ex->MS->Prop):Ex->MS->Prop
 | .normal,s=>Q .normal s
 | .exit i,s=>if i=id then Q .normal s else Q (.exit i) s
 | .ret,s=>Q .ret s
def AD1 (K:MS->Prop) (Q:Ex->MS->Prop):Ex->MS->Prop
 | .normal,s=>K s
 | .exit i,s=>Q (.exit i) s
 | .ret,s=>Q .ret s
def AJH (V:MS->(Ex->MS->Prop)->Prop) (Q:Ex->MS->Prop):Ex->MS->Prop
 | .normal,s=>V s Q
 | .exit i,s=>Q (.exit i) s
 | .ret,s=>Q .ret s
def cndM (V W:MS->(Ex->MS->Prop)->Prop) (s:MS) (Q:Ex->MS->Prop) (b:Bool):Prop:=CondK b (V s Q) (W s Q)
theorem AB1 {V W:MS->(Ex->MS->Prop)->Prop} {s:MS} {Q:Ex->MS->Prop}:cndM V W s Q true=V s Q:=LV
theorem yc {V W:MS->(Ex->MS->Prop)->Prop} {s:MS} {Q:Ex->MS->Prop}:cndM V W s Q false=W s Q:=Jw
theorem cndM.mk {V W:MS->(Ex->MS->Prop)->Prop} {s:MS} {Q:Ex->MS->Prop} {b:Bool} (h1:b=true->V s Q) (h2:b=false->W s Q):cndM V W s Q b:=AEW h1 h2
def AJI (V:MS->(Ex->MS->Prop)->Prop) (Q:Ex->MS->Prop) (s1:MS) (K:MS->Prop):Prop:=V s1 (AD1 K Q)
def vp (P:Program):Code->MS->(Ex->MS->Prop)->Prop
 | .skip,s,Q=>Q .normal s
 | .region _ ops false,s,Q=>vpR P ops (Q .normal) s
 | .region _ ops true,s,Q=>DrawK P ops s (Q .normal)
 | .seq x y,s,Q=>vp P x s (AJH (vp P y) Q)
 | .cond c x y,s,Q=>AAb (Eo s c) (cndM (vp P x) (vp P y) s Q)
 | .block id x,s,Q=>vp P x s (AB0 id Q)
 | .loop x,s,Q=>LoopK s (AJI (vp P x) Q)
 | .exit id,s,Q=>Q (.exit id) s
 | .scope x,s,Q=>vp P x s Q
 | .ret,s,Q=>Q .ret s
 | _,_,_=>False
def AGO (ops:Array Oper):Bool:=ops.toList.all fun o=>o.op.operands.toList.all Ap
def codeOk (n:Nat):Code->Bool
 | .region _ ops false=>AGO ops
 | .region _ ops true=>AGO ops&&FY n ops
 | .seq x y=>codeOk n x&&codeOk n y
 | .cond c x y=>Ap c&&codeOk n x&&codeOk n y
 | .block _ x=>codeOk n x
 | .loop x=>codeOk n x
 | .scope x=>codeOk n x
 | _=>true
def Ex.of:Ex->Exit
 | .normal=>.normal
 | .exit i=>.exit i
 | .ret=>.ret
def AJJ (w0:Bs) (St0:Nat->Nat->Prop) (n:Nat) (Q:Ex->MS->Prop):Exit->Act->World->Prop:=fun e a w=>∃ x s,e=Ex.of x/\Q x s/\s.n=n/\Sim w0 St0 s a w
theorem Yd (s:MS) (d:Option Nat) (v:AV):(s.put d v).n=s.n:=by
 cases d with
 | none=>rfl
 | some d=>simp only[MS.put]; split<;>rfl
theorem step_ok (h:Core w0 St0 St β s a w) (o:Oper) (hc:o.op.operands.toList.all Ap=true) {K:MS->Prop} (hk:Rn P o.op o.dst s K) (Q:Exit->Act->World->Prop) :
  o.wp P a w (fun a' w'=>∃ s',K s'/\s'.n=s.n/\Sim w0 St0 s' a' w') Q:=by
 have hD:∀ {y:AV} {st':List Ob},XA P s o.op=some (y,st')->K (MS.put ⟨s.n,s.env,st'⟩ o.dst y)->o.wp P a w (fun a' w'=>∃ s',K s'/\s'.n=s.n/\Sim w0 St0 s' a' w') Q:=fun {y st'} he hK=>by
  obtain⟨nx,v,w',St',β',h1,h2,h3,h4⟩:=yR h o hc he;unfold Oper.wp;rw[h1];rcases h2 with rfl | ⟨rfl,rfl⟩
  .exact⟨_,hK,Yd _ _ _,St',β',h3.put o.dst h4⟩
  .exact⟨_,hK,Yd _ _ _,St',β',h3.put o.dst h4⟩
 have hF:∀ op,o.op=op->(∀ c,op≠ .call c)->Rn P op o.dst s K->o.wp P a w (fun a' w'=>∃ s',K s'/\s'.n=s.n/\Sim w0 St0 s' a' w') Q:=fun op hop hnc hs=>by
  have hs':UI (XA P s op) (ADu s o.dst K):=by
   cases op with
   | call c=>exact absurd rfl (hnc c)
   | _=>exact hs
  unfold UI at hs';split at hs'
  .rename_i y st' he;exact hD AOo hs'
  grind
 cases hop:o.op with
 | call c =>
  rw[hop] at hk
  simp only[Rn,Ns,uZ,UI,yY,ADu] at hk
  split at hk
  .rename_i f hcl
   have hca:c.args.toList.all Ap=true:=by rw[hop] at hc;exact ALS
   rcases hk with hk | hk | hk | ⟨hin,hk⟩
   rotate_right
   .have hcall:=hk w0 St0 St β a w _ h (KJ h c.args.toList hca)
    have ea:(c.args.toList.map a.eval).toArray=c.args.map a.eval:=APi
    rw[ea] at hcall
    unfold Oper.wp
    rw[Nr o c f hop hcl hin]
    simp only[Oper.upon]
    refine hcall.mono fun e w' hb=>?_
    obtain⟨u,rfl,s',x,e1,hK,St',β',h1,h2⟩:=hb
    exact⟨_,hK,(Yd _ _ _).trans e1,St',β',h1.put o.dst h2⟩
   rotate_left
   .obtain⟨args,rs,hf,hclo,hspec,hK⟩:=hk
    obtain⟨φ,hφ⟩:=h.own
    have hargs:=dL h hφ hf (KJ h c.args.toList hca)
    unfold Oper.wp
    rw[Nr o c f hop hcl hspec.1]
    simp only[Oper.upon]
    have hcall:=hspec.2 w _ (c.args.toList.map a.eval) (fun b o hb=>AllSt.lt h hφ hb) hargs
    have ea:(c.args.toList.map a.eval).toArray=c.args.map a.eval:=APi
    rw[ea] at hcall
    refine hcall.mono fun e w' hb=>?_
    obtain⟨us,bs,St2,hb⟩:=hb
    have hb:=hb.clo hclo h.stIn
    obtain⟨β',k1,k2⟩:=Rj h hb
    have hwf:ZA rs:=by obtain⟨Φs,hr,_⟩:=hb.res;exact hr.wf
    have e1:=hb.ret
    subst e1
    exact⟨_,hK hwf,Yd _ _ _,St,β',k1.put o.dst (Lj k2)⟩
   .obtain⟨rest,g,zs,cl,Q',hargs,hg,ho,hv1,hspec,hK⟩:=hk
    obtain⟨φ,hφ⟩:=h.own
    have he:=KJ h c.args.toList hca
    rw[hargs] at he
    simp only[AVRs] at he
    obtain⟨u,vs,hvals,hu,hvs⟩:=he
    have hus:∃ us:List Value,u=mkV g us/\us.length=zs.length/\∀ (k:Nat) (c:Cl),zs[k]?=some c->∃ y,us[k]?=some y/\RdC w St s.st β c y:=by
     cases g with
     | true =>
      simp only[mkA,aO,AVR] at hu
      obtain⟨us,e1,e2,e3⟩:=hu
      exact⟨us,by simp only[mkV,aO]; exact e1,e2,e3⟩
     | false =>
      have hz1:zs.length=1:=by simpa using hg
      match zs,hz1 with
      | [z],_ =>
       simp only[mkA,ax,aL,AVR,List.headD_cons] at hu
       refine⟨[u],by simp[mkV],rfl,fun k c hk=>?_⟩
       grind
    obtain⟨us,rfl,hul,hur⟩:=hus
    have hrd:=AAd h hφ ho hul hur
    have hGf:∀ (k x:Nat),(∃ l,zs[k]?=some (Cl.ref l)/\Fp s.st β φ l x)->x<w.heap.size/\∀ o,¬ St x o:=fun k x ⟨l,q1,q2⟩=>by
     obtain⟨_,ob,p1,p2,_⟩:=Oi zs cl [] _ ho k l q1;obtain⟨r1,r2,r3⟩:=Vo h hφ q2 fun ob' hob'=>by grind [Bo]
     grind
    have hcall:=hspec.2.2 w St us _ vs h.stIn hGf hrd (uT hv1 hvs)
    have ea:(mkV g us::vs).toArray=c.args.map a.eval:=by rw[<- hvals]; apply abm; simp
    rw[ea] at hcall
    unfold Oper.wp
    rw[Nr o c f hop hcl hspec.1]
    simp only[Oper.upon]
    refine hcall.mono fun e w' hb=>?_
    obtain⟨cl',rs,rv,G',b0,b1,b2,b3,b3s,b7,b8,b9⟩:=hb
    obtain⟨⟨hv2,hsh⟩,hK⟩:=hK cl' rs b0
    subst b1
    have hcore:=ADt h hφ ho hur (fun k x hx=>hx) hsh b2 b3 b3s (fun _ _ h=>h) (fun _ _ h _=>h) (fun b o hb=>bm (h.stIn b o hb) b2.size) b8 (fun k x hx=>by
     rcases b9 k x hx with h9 | ⟨h9,h10⟩
     .exact .inl h9
     .exact .inr ⟨h9,h10,fun o ho=>by have:=h.stIn x o ho; omega⟩)
    refine⟨_,hK,Yd _ _ _,St,β,hcore.put o.dst (Lj ?_)⟩
    have key:∀ (xs:List AV) (us:List Value),RdAs w' St xs us->AVRs w' St (Jc s.st zs cl') β xs us:=by
     intro xs;induction xs with
     | nil=>intro us h; simp only[AVRs]; exact h
     | cons x xs ih =>
      intro us h
      obtain⟨y,ys,h1,h2,h3⟩:=h
      simp only[AVRs]
      exact⟨y,ys,h1,h2.toAVR,ih ys h3⟩
    exact key _ _ b7
   split at hk
   .rename_i args st1 hf
    obtain⟨rs,hspec,hK⟩:=hk
    obtain⟨St1,q1,q2,q3⟩:=Vg _ _ _ _ St h hf
    have hargs:=q3 _ (KJ h c.args.toList hca)
    unfold Oper.wp
    rw[Nr o c f hop hcl hspec.1]
    simp only[Oper.upon]
    have hcall:=hspec.2 w St1 (c.args.toList.map a.eval) q1.stIn hargs
    have ea:(c.args.toList.map a.eval).toArray=c.args.map a.eval:=APi
    exact ALN
   grind
  .rename_i t hcl
   have hca:c.args.toList.all Ap=true:=by rw[hop] at hc;exact ALS
   unfold AJF at hk
   split at hk
   .rename_i f xs args st1 hev hf
    obtain⟨rs,hspec,hK⟩:=hk
    obtain⟨St1,q1,q2,q3⟩:=Vg _ _ _ _ St h hf
    have hargs:=q3 _ (KJ h c.args.toList hca)
    have he:AVR w St s.st β (unpin (CG s.env t)) (a.eval (.tmp t)):=CU h (.tmp t) (aC.1 hc _ (by rw[hop]; simp[Op.operands,Call.operands,hcl]))
    rw[hev] at he
    simp only[AVR] at he
    obtain⟨us0,hu0,hul,hur⟩:=he
    have hcap:RdAs w St1 (xs.map AV.ip) us0:=Xc hul fun k c hk=>by grind [RdL.mono]
    unfold Oper.wp
    rw[AAa o c f (.tmp t) us0.toArray hop hcl hu0 hspec.1]
    simp only[Oper.upon]
    have hcall:=hspec.2 w St1 (c.args.toList.map a.eval++us0) q1.stIn (dJ hargs hcap)
    have ea:(c.args.toList.map a.eval++us0).toArray=c.args.map a.eval++us0.toArray:=APi
    exact ALN
   grind
  grind
 | _=>grind
theorem yf (ops:Array Oper) (Q:Exit->Act->World->Prop) (K:MS->Prop) (n:Nat):∀ (l:List Oper) (k:Nat),(∀ j,l[j]?=ops[k+j]?)->(l.all fun o=>o.op.operands.toList.all Ap)=true ->
  ∀ (s:MS) (a:Act) (w:World),s.n=n->Sim w0 St0 s a w->vpO P ops K l s->(∀ s' a' w',K s'->s'.n=n->Sim w0 St0 s' a' w'->Q .normal a' w')->wpList P ops Q l a w
 | [],_,_,_,s,a,w,hn,hs,hv,hQ=>hQ s a w hv hn hs
 | o::l,k,hl,hc,s,a,w,hn,hs,hv,hQ=>by
  obtain⟨St,β,h⟩:=hs;simp only[aI,ar] at hc;simp only[vpO,UJ,gO] at hv;split at hv
  .rename_i b hb;have hw:=oZ h hb;have hl':∀ j,l[j]?=ops[k+1+j]?:=fun j=>by have:=hl (j+1);grind
   unfold wpList;rw[hw];cases b with
   | true =>
    simp only[aO]
    left
    exact Oper.wp_mono (fun a' w' ⟨s',hK,hn',hs'⟩=>yf ops Q K n l (k+1) hl' hc.2 s' a' w' (hn'.trans hn) hs' hK hQ) (step_ok h o hc.1 (hv.1 rfl) Q)
   | false =>
    simp only[ax,aL]
    exact yf ops Q K n l (k+1) hl' hc.2 _ _ _ ((Yd _ _ _).trans hn) ⟨St,β,h.put o.dst (by simp only[AVR])⟩ (hv.2 rfl) hQ
  grind
theorem dW:∀ (ls:List Nat) (st st':List Ob) (St:Nat->Nat->Prop),Core w0 St0 St β ⟨s.n,s.env,st⟩ a w->Yb st ls=some st'->∃ St',Core w0 St0 St' β ⟨s.n,s.env,st'⟩ a w
 | [],st,st',St,h,hf=>by simp only[Yb,ai] at hf; grind
 | l::ls,st,st',St,h,hf=>by
  simp only[Yb] at hf;split at hf
  .rename_i ob hob;split at hf
   .rename_i hp;obtain⟨St1,q1,_⟩:=h.freeze l hob hp;exact dW ls _ st' St1 q1 hf
   .cases hf
  .cases hf
theorem AD2 (keys:List Nat) (env:List (Nat×AV)) (i:Nat):CG (keys.map fun k=>(k,CG env k)) i=if i∈keys then CG env i else .un:=by
 induction keys with
 | nil=>simp[CG]
 | cons k keys ih =>
  simp only[ao,CG,ih,TM]
  grind
theorem AB2 {st:List Ob} {N l:Nat} {u:Value} (hl:l<N) (h:BQ w st β l u):BQ w (st.take N) β l u:=by unfold BQ at h ⊢;grind
theorem Rq {st:List Ob} {N:Nat} {c:Cl} {u:Value} (hc:JQ N c=true) (h:RdC w St st β c u):RdC w St (st.take N) β c u:=by
 cases c with
 | ref l=>exact AB2 (by simpa [JQ] using hc) h
 | ow ty sz xs=>simp[RdC,RdD] at h
 | v x=>exact h
 | sl xs=>exact h
mutual
theorem Rt {st:List Ob} {N:Nat}:∀ (x:AV) (u:Value),JR N x=true->AVR w St st β x u->AVR w St (st.take N) β x u
 | .c x,u,hc,h=>by simp only[AVR] at h ⊢; exact Rq AQL h
 | .agg xs,u,hc,h=>by simp only[AVR] at h ⊢;simp only[JR] at hc;grind [Rq,aC,aT]
 | .lp l i off,u,hc,h=>by simp only[AVR] at h ⊢;have hl:l<N:=AQL;grind
 | .ip xs,u,_,h=>APv
 | .tup xs,u,hc,h=>by simp only[AVR] at h ⊢;obtain⟨us,h1,h2⟩:=h;exact⟨us,h1,kK xs us AQL h2⟩
 | .undef,u,_,h=>APv
 | .un,u,_,h=>by simp only[AVR]
 | .pin x u0,u,hc,h=>by simp only[AVR] at h ⊢;exact⟨h.1,Rt x u AQL h.2⟩
 | .clo f xs,u,_,h=>APv
 | .vw x i n m,u,hc,h=>by simp only[AVR] at h ⊢;obtain⟨b,len,cap,cap',h1,h2,h3,h4⟩:=h;exact⟨b,len,cap,cap',h1,h2,h3,Rt x _ AQL h4⟩
theorem kK {st:List Ob} {N:Nat}:∀ (xs:List AV) (us:List Value),TR N xs=true->AVRs w St st β xs us->AVRs w St (st.take N) β xs us
 | [],us,_,h=>APr
 | x::xs,us,hc,h=>by simp only[AVRs] at h ⊢;simp only[TR,ar] at hc;obtain⟨y,ys,h1,h2,h3⟩:=h;exact⟨y,ys,h1,Rt x y hc.1 h2,kK xs ys hc.2 h3⟩
end
theorem ul {st:List Ob} {N:Nat} {c:Cl} {u:Value} (hc:JQ N c=true) (h:RdB w St st β c u):RdB w St (st.take N) β c u:=by
 cases c with
 | ow ty sz xs=>exact h
 | v y=>exact Rq (w:=w) (St:=St) (st:=st) (β:=β) (c:=.v y) hc h
 | sl y=>exact Rq (w:=w) (St:=St) (st:=st) (β:=β) (c:=.sl y) hc h
 | ref y=>exact Rq (w:=w) (St:=St) (st:=st) (β:=β) (c:=.ref y) hc h
theorem Core.trim (h:Core w0 St0 St β s a w) {N:Nat} {keys:List Nat} (ht:QS N keys s):Core w0 St0 St β (trim N keys s) a w:=by
 obtain⟨t1,t2⟩:=ht
 have hg:∀ l ob,(s.st.take N)[l]?=some ob->s.st[l]?=some ob:=fun l ob hl=>by
  rw[aaC] at hl;split at hl
  .exact hl
  .cases hl
 exact {
  defers:=h.defers
  size:=h.size
  lim:=h.lim
  env:=fun i=>by
   simp only[Go.Vm.trim,AD2];split
   .rename_i hi;exact Rt _ _ (aC.1 t1 i hi) (h.env i)
   .simp only[AVR]
  below:=h.below,st0:=h.st0,stOld:=h.stOld,stIn:=h.stIn
  obs:=fun l ob b hl hlive hβ=>by exact AK9
  nil:=fun l ob hl=>h.nil l ob (hg l ob hl)
  inj:=fun l l' ob ob' b h1 h2=>h.inj l l' ob ob' b (hg l ob h1) (hg l' ob' h2)
  sep:=fun l ob b o hl=>h.sep l ob b o (hg l ob hl)
  own:=h.own.move id (fun x hx=>⟨⟨hx.1,hx.2.1,hx.2.2.1,hx.2.2.2.1,fun l ob hl=>hx.2.2.2.2 l ob (hg l ob hl)⟩,rfl⟩) (fun _ _ h=>h) (fun _ _ _=>rfl)
   (fun l ob b k c h1 h2 h3 h4 _=>⟨ob,b,hg l ob h1,h2,h3,h4,rfl⟩) (fun _ _ _ _ _ _ _ _ e=>e) }
theorem AB3 (g:Nat->AV) (keys:List Nat) (i:Nat):CG (keys.map fun k=>(k,g k)) i=if i∈keys then g i else .un:=by
 induction keys with
 | nil=>simp[CG]
 | cons k ks ih =>
  simp only[ao,CG,ih]
  grind
theorem AAf {sel:List (Nat×Bool)} {l:Nat} (h:jD sel l=true):∃ r,sel[EM sel l]?=some (l,r):=by
 induction sel with
 | nil=>simp[jD] at h
 | cons x xs ih =>
  simp only[EM]
  by_cases e:x.1=l
  .grind
  .simp only[jD,e,abJ,be] at h
   grind
theorem AFi {sel:List (Nat×Bool)} {i:Nat} {e:Nat×Bool} (h:sel[i]?=some e):jD sel e.1=true:=by
 induction sel generalizing i with
 | nil=>simp at h
 | cons x xs ih =>
  simp only[jD,aaN,aQ]
  grind
theorem AAg {sel:List (Nat×Bool)} (h:AFe sel=true):∀ {i j:Nat} {e e':Nat×Bool},sel[i]?=some e->sel[j]?=some e'->e.1=e'.1->i=j:=by
 induction sel with
 | nil=>grind
 | cons x xs ih =>
  simp only[AFe,ar,aa8] at h
  grind [ab,ai,AFi]
theorem Vy (sel:List (Nat×Bool)) (st:List Ob):∀ (l:List (Nat×Bool)) (i:Nat),(PY sel st l)[i]?=(l[i]?).map fun e=>match st[e.1]? with | some ob=>KZ sel e.2 ob | none=>default
 | [],i=>by simp[PY]
 | e::r,0=>by simp[PY]
 | e::r,i+1=>by simp only[PY,ae]; exact Vy sel st r i
theorem Vz {sel:List (Nat×Bool)} {st:List Ob}:∀ {l:List (Nat×Bool)},Vx sel st l->∀ {i:Nat} {e:Nat×Bool},l[i]?=some e->∃ ob,st[e.1]?=some ob/\(if e.2=true then(ob.xs.all fun x=>x.all (inC sel)) else GL ob.xs)=true
 | [],_,i,e,h=>APN
 | x::r,ho,i,e,h=>by
  simp only[Vx] at ho;cases i with
  | zero =>
   grind
  | succ i=>exact Vz ho.2 APO
section
variable {sel:List (Nat×Bool)} {st:List Ob}
def V3 (sel:List (Nat×Bool)) (β:Nat->Option Nat) (i:Nat):Option Nat:=match sel[i]? with | some e=>β e.1 | none=>none
theorem AFj (ho:Vx sel st sel) {l:Nat} {u:Value} (hl:jD sel l=true) (h:BQ w st β l u):BQ w (PY sel st sel) (V3 sel β) (EM sel l) u:=by
 obtain⟨r,hr⟩:=AAf hl;obtain⟨ob,hob,_⟩:=Vz ho hr;simp only at hob;unfold BQ at h ⊢;rw[Vy,hr];simp only[bi,hob,V3,hr] at h ⊢;have e1:(KZ sel r ob).live=ob.live:=AP5;have e2:(KZ sel r ob).xs.length=ob.xs.length:=by unfold KZ; split<;>simp
 have e3:(KZ sel r ob).ty=ob.ty:=AP5;have e4:(KZ sel r ob).sz=ob.sz:=AP5;grind
theorem um (ho:Vx sel st sel) {c:Cl} {u:Value} (hc:inC sel c=true) (h:RdC w St st β c u):RdC w St (PY sel st sel) (V3 sel β) (QT sel c) u:=by
 cases c with
 | ref l=>exact AFj ho hc h
 | v x=>exact h
 | sl xs=>exact h
 | ow ty sz xs=>simp[RdC,RdD] at h
theorem AJK (ho:Vx sel st sel) {c:Cl} {u:Value} (hc:inC sel c=true) (h:RdB w St st β c u):RdB w St (PY sel st sel) (V3 sel β) (QT sel c) u:=by
 cases c with
 | ow ty sz xs=>exact h
 | v y=>exact um (w:=w) (St:=St) (β:=β) (c:=.v y) ho hc h
 | sl y=>exact um (w:=w) (St:=St) (β:=β) (c:=.sl y) ho hc h
 | ref y=>exact um (w:=w) (St:=St) (β:=β) (c:=.ref y) ho hc h
theorem AFk {c:Cl}:HY (QT sel c)=HY c:=by cases c<;>rfl
theorem AHM {c:Cl} (h:HY c=true):QT sel c=c:=by cases c<;>simp_all [HY,QT]
mutual
theorem AAh (ho:Vx sel st sel):∀ (x:AV) (u:Value),inA sel x=true->AVR w St st β x u->AVR w St (PY sel st sel) (V3 sel β) (uk sel x) u
 | .c x,u,hc,h=>by simp only[AVR,uk] at h ⊢; exact um ho AQD h
 | .agg xs,u,hc,h=>by simp only[AVR,uk] at h ⊢;simp only[inA] at hc;grind [aao,um,aC,aT]
 | .lp l i off,u,hc,h=>by simp only[AVR,uk] at h ⊢;obtain⟨r,hr⟩:=AAf (sel:=sel) (l:=l) AQD;obtain⟨ob,hob,_⟩:=Vz ho hr;simp only at hob;rw[Vy,hr];simp only[bi,hob,V3,hr] at h ⊢;have e1:(KZ sel r ob).live=ob.live:=AP5;have e4:(KZ sel r ob).sz=ob.sz:=AP5;grind
 | .ip xs,u,_,h=>AQJ
 | .tup xs,u,hc,h=>by simp only[AVR,uk] at h ⊢;obtain⟨us,h1,h2⟩:=h;exact⟨us,h1,yg ho xs us AQD h2⟩
 | .undef,u,_,h=>AQJ
 | .un,u,_,h=>by simp only[AVR,uk]
 | .pin x u0,u,hc,h=>by simp only[AVR,uk] at h ⊢;exact⟨h.1,AAh ho x u AQD h.2⟩
 | .clo f xs,u,_,h=>AQJ
 | .vw x i n m,u,hc,h=>by simp only[AVR,uk] at h ⊢;obtain⟨b,len,cap,cap',h1,h2,h3,h4⟩:=h;exact⟨b,len,cap,cap',h1,h2,h3,AAh ho x _ AQD h4⟩
theorem yg (ho:Vx sel st sel):∀ (xs:List AV) (us:List Value),ADw sel xs=true->AVRs w St st β xs us->AVRs w St (PY sel st sel) (V3 sel β) (ABy sel xs) us
 | [],us,_,h=>by simp only[AVRs,ABy] at h ⊢; exact h
 | x::xs,us,hc,h=>by simp only[AVRs,ABy] at h ⊢;simp only[ADw,ar] at hc;obtain⟨y,ys,h1,h2,h3⟩:=h;exact⟨y,ys,h1,AAh ho x y hc.1 h2,yg ho xs ys hc.2 h3⟩
end
end
theorem Core.rel (h:Core w0 St0 St β s a w) {sel:List (Nat×Bool)} {keys:List Nat} (ht:Ro sel keys s):Core w0 St0 St (V3 sel β) (rel sel keys s) a w:=by
 obtain⟨t0,t1,t2⟩:=ht;have hg:∀ (i:Nat) (ob:Ob),(PY sel s.st sel)[i]?=some ob->∃ (e:Nat×Bool) (ob0:Ob),sel[i]?=some e/\s.st[e.1]?=some ob0/\ob=KZ sel e.2 ob0/\(if e.2=true then(ob0.xs.all fun x=>x.all (inC sel)) else GL ob0.xs)=true:=by intro i ob hi;rw[Vy] at hi;obtain⟨e,he,h2⟩:=aao.1 hi;obtain⟨ob0,hob,hp⟩:=Vz t2 he;simp only[hob] at h2;exact⟨e,ob0,he,hob,h2.symm,hp⟩
 have elive:∀ r ob,(KZ sel r ob).live=ob.live:=APm;have esz:∀ r ob,(KZ sel r ob).sz=ob.sz:=APm;have ety:∀ r ob,(KZ sel r ob).ty=ob.ty:=APm;have ewr:∀ r ob,(KZ sel r ob).wr=ob.wr:=APm;have elen:∀ r ob,(KZ sel r ob).xs.length=ob.xs.length:=by intro r ob; unfold KZ; split<;>simp
 have eβ:∀ {i:Nat} {e:Nat×Bool},sel[i]?=some e->V3 sel β i=β e.1:=by intro i e he; simp only[V3,he]
 exact {
  defers:=h.defers
  size:=h.size
  lim:=h.lim
  env:=fun i=>by
   simp only[Go.Vm.rel,AB3];split
   .rename_i hi;exact AAh t2 _ _ (aC.1 t1 i hi) (h.env i)
   .simp only[AVR]
  below:=h.below,st0:=h.st0,stOld:=h.stOld,stIn:=h.stIn
  obs:=fun i ob b hi hlive hβ=>by
   obtain⟨e,ob0,he,hob,rfl,hp⟩:=hg i ob hi;rw[eβ he] at hβ;rw[elive] at hlive;obtain⟨q1,q2,cs,g1,g2,g3⟩:=h.obs e.1 ob0 b hob hlive hβ;refine⟨q1,q2,cs,AOo, ?_, ?_⟩
   .rw[esz];intro x hx;unfold KZ at hx;grind
   .intro k c hk;unfold KZ at hk;split at hk
    .rename_i hr;simp only[hr,aO] at hp;rw[<- List.map_flatten,nX] at hk;obtain⟨c0,hc0,rfl⟩:=aao.1 hk;obtain⟨u,hu,hc⟩:=g3 k c0 hc0;obtain⟨x,hx,hcx⟩:=aa0.1 (aT hc0);exact⟨u,hu,AJK t2 (aC.1 (aC.1 hp x hx) c0 hcx) hc⟩
    .rename_i hr;simp only[hr,aL] at hp;obtain⟨u,hu,hc⟩:=g3 k c hk;obtain⟨x,hx,hcx⟩:=aa0.1 (aT hk);have:=aC.1 (aC.1 hp x hx) c hcx;refine⟨u,hu, ?_⟩;cases c with
     | ref l=>simp[AB] at this
     | v x=>exact hc
     | sl xs=>exact hc
     | ow ty sz xs=>exact hc
  nil:=fun i ob hi hlive hβ=>by obtain⟨e,ob0,he,hob,rfl,hp⟩:=hg i ob hi;rw[eβ he] at hβ;rw[elive] at hlive;have:=h.nil e.1 ob0 hob hlive hβ;grind
  inj:=fun i j o1 o2 b h1 h2 h3 h4 h5 h6=>by obtain⟨e,ob0,he,hob,rfl,_⟩:=hg i o1 h1;obtain⟨e',ob0',he',hob',rfl,_⟩:=hg j o2 h2;rw[eβ he] at h5;rw[eβ he'] at h6;rw[elive] at h3 h4;exact AAg t0 he he' (h.inj _ _ _ _ b hob hob' h3 h4 h5 h6)
  sep:=fun i ob b o hi hlive hβ hbo=>by obtain⟨e,ob0,he,hob,rfl,_⟩:=hg i ob hi;rw[eβ he] at hβ;rw[elive] at hlive;rw[ewr,elen,esz];exact h.sep e.1 ob0 b o hob hlive hβ hbo
  own:=by
   refine h.own.move (fun i=>((sel[i]?).getD (0,false)).1) (fun x hx=>⟨⟨hx.1,hx.2.1,hx.2.2.1,hx.2.2.2.1,fun i ob hi hlv=>?_⟩,rfl⟩) (fun _ _ h=>h) (fun _ _ _=>rfl) (fun i ob b k c hi hlive hβ hk hc=>?_) (fun i j o1 o2 h1 h2 _ _ e=>?_)
   .obtain⟨e,ob0,he,hob,rfl,hp⟩:=hg i ob hi;rw[eβ he];rw[elive] at hlv;exact hx.2.2.2.2 e.1 ob0 hob hlv
   .obtain⟨e,ob0,he,hob,rfl,hp⟩:=hg i ob hi;rw[eβ he] at hβ;rw[elive] at hlive;refine⟨ob0,b,AOo,hlive,AOo, ?_,rfl⟩;unfold KZ at hk;grind [aao,AFk,AHM]
   .obtain⟨e1,ob1,he1,_⟩:=hg i o1 h1;obtain⟨e2,ob2,he2,_⟩:=hg j o2 h2;grind [AAg] }
theorem AAP {l:List Oper} {s:MS} {K:MS->Prop} (h:vpD P l.toArray K l s):DrawK P l.toArray s K:=⟨0,.inl ⟨[],s.st,rfl,h⟩⟩
theorem AAR {l:List Oper} {s:MS} {K:MS->Prop} (h:vpE P none l.toArray K l 0 [(0,s.st)] [] s):DrawK P l.toArray s K:=⟨0,.inr (.inl ⟨none,rfl,h⟩)⟩
theorem AEY {ops:Array Oper} {s:MS} {K:MS->Prop} (h:AJG P ops s K):DrawK P ops s K:=⟨0,.inr (.inr h)⟩
theorem ACc {l:List Oper} {s:MS} {K:MS->Prop} (j p:Nat) (hf:yZ l.toArray (some (j,p))=true) (h:vpE P (some (j,p)) l.toArray K l 0 [(0,s.st)] [] s):DrawK P l.toArray s K:=⟨0,.inr (.inl ⟨_,hf,h⟩)⟩
theorem DrawX.up:∀ {d:Nat} {ops:Array Oper} {s:MS} {K:MS->Prop},DrawX P d ops s K->DrawX P (d+1) ops s K
 | 0,_,_,_,h=>.inl h
 | _+1,_,_,_,.inl h=>.inl h
 | _+1,_,_,_,.inr ⟨l,e1,e2,σ1,σ2,js,e,hne,h1,k1,.inl hp⟩=>.inr ⟨l,e1,e2,σ1,σ2,js,e,hne,h1,DrawX.up k1,.inl hp⟩
 | _+1,_,_,_,.inr ⟨l,e1,e2,σ1,σ2,js,e,hne,h1,k1,.inr ⟨h2,k2⟩⟩=>.inr ⟨l,e1,e2,σ1,σ2,js,e,hne,h1,DrawX.up k1,.inr ⟨h2,DrawX.up k2⟩⟩
theorem DrawX.le {d:Nat} {ops:Array Oper} {s:MS} {K:MS->Prop} (h:DrawX P d ops s K):∀ k,DrawX P (d+k) ops s K
 | 0=>h
 | k+1=>(DrawX.le h k).up
theorem ACb {l:List Oper} {s:MS} {K:MS->Prop} (e1 e2:Nat) (σ1 σ2:List Nat) (hne:Nat.beq e1 e2=false) (h1:UK s.n l σ1 e1 e2=true) (h2:UK s.n l σ2 e2 e1=true)
  (k1:DrawK P (Ia σ1 e1 e2 l).toArray s K) (k2:DrawK P (Ia σ2 e2 e1 l).toArray s K):DrawK P l.toArray s K:=by
 obtain⟨d1,k1⟩:=k1
 obtain⟨d2,k2⟩:=k2
 have k2':=DrawX.le k2 d1
 rw[Nat.add_comm] at k2'
 exact⟨d1+d2+1,.inr ⟨l,e1,e2,σ1,σ2,[],rfl,aby hne,h1,k1.le d2,.inr ⟨h2,k2'⟩⟩⟩
theorem ACi {l:List Oper} {s:MS} {K:MS->Prop} (e1 e2:Nat) (σ js:List Nat) (hne:Nat.beq e1 e2=false) (hp:dS l e1 js=true) (hl:js.getLast?=some e2) (h1:UK s.n l σ e1 e2=true)
  (k1:DrawK P (Ia σ e1 e2 l).toArray s K):DrawK P l.toArray s K:=by
 obtain⟨d1,k1⟩:=k1
 exact⟨d1+1,.inr ⟨l,e1,e2,σ,σ,js,rfl,aby hne,h1,k1,.inl ⟨hp,hl⟩⟩⟩
theorem dX (h:Core w0 St0 St β s a w) (o:Oper) (hc:o.op.operands.toList.all Ap=true) {y:AV} {st':List Ob} (he:FM P s o.op y st') (Q:Exit->Act->World->Prop) :
  o.wp P a w (fun a' w'=>Sim w0 St0 (MS.put ⟨s.n,s.env,st'⟩ o.dst y) a' w') Q:=by
 have key:Rn P o.op o.dst s (fun s'=>s'=MS.put ⟨s.n,s.env,st'⟩ o.dst y):=by
  cases hop:o.op with
  | call c =>
   rw[hop] at he
   simp only[FM] at he
   split at he
   .rename_i f hcl
    simp only[Rn,hcl]
    rcases he with ⟨args,rs,st1,h1,h2,rfl,rfl⟩ | ⟨args,rs,h1,h2,h3,rfl,rfl⟩ | ⟨hin,hs⟩
    .refine .inl ?_
     rw[h1]
     exact⟨rs,h2,fun _=>rfl⟩
    .exact .inr (.inl ⟨args,rs,h1,h2,h3,fun _=>rfl⟩)
    .exact .inr (.inr (.inr ⟨hin,fun w0 St0 St β a w us h1 h2=>(hs w0 St0 St β s a w us rfl h1 h2).mono fun e w' ⟨u,e1,St',β',q1,q2⟩=>⟨u,e1,⟨s.n,s.env,st'⟩,y,rfl,rfl,St',β',q1,q2⟩⟩))
   .rename_i hne
    simp only[Rn]
    split
    .rename_i f hcl; exact absurd hcl (hne f)
    .rename_i t hcl
     simp[XA,hcl,I4,same] at he
    .rw[he]; rfl
  | _ =>
   rw[hop] at he
   simp only[FM] at he
   simp only[Rn]
   rw[he]; rfl
 grind [Oper.wp_mono,step_ok]
theorem UL {s s':MS} (hst:s'.st=s.st) (o:Op) (heff:Yc o=true) (h:∀ t,.tmp t∈o.operands.toList->CG s'.env t=CG s.env t) {y:AV} {st':List Ob} (hr:FM P s o y st'):FM P s' o y st':=by
 have he:∀ x,x∈o.operands.toList->Eo s' x=Eo s x:=fun x hx=>kH fun t ht=>h t AOo;cases o with
 | call c =>
  have hargs:∀ x∈c.args.toList,Eo s' x=Eo s x:=fun x hx=>he x (by
   simp only[Op.operands,Call.operands,aaQ,yF];exact .inr hx)
  have hmap:c.args.toList.map (Eo s')=c.args.toList.map (Eo s):=aaP hargs
  simp only[FM] at hr ⊢
  split at hr
  .grind
  .rename_i hne
   simp only[Yc] at heff
   split at heff
   .grind
   .rename_i hcl
    simp only[XA,hcl] at hr ⊢
    split at hr
    .rename_i x y2 T T' hca hct
     rw[hargs x AOo,hargs y2 AOo]
     have ea:∀ T X Y,yP P s' T X Y=yP P s T X Y:=fun T X Y=>by simp only[yP,ADl,ADk,ADj,yO,hst]
     have es:∀ T T' X Y,yQ P s' T T' X Y=yQ P s T T' X Y:=fun T T' X Y=>by simp only[yQ,ADm,hst]
     grind
    .cases hr
   .cases heff
 | alloc T=>simp only[FM,XA,QP,hst] at hr ⊢; exact hr
 | box T x=>simp only[FM,XA,ADW,hst] at hr ⊢; rw[he x AOv]; exact hr
 | store T p x=>simp only[FM,XA,dG,hst] at hr ⊢; rw[he p AOv,he x AOv]; exact hr
 | makeSlice T l c=>simp only[FM,XA,uN,hst] at hr ⊢; rw[he l AOv,he c AOv]; exact hr
 | buildSlice T len ps =>
  have hps:∀ p∈ps.toList,Eo s' p.2=Eo s p.2:=fun p hp=>he p.2 (by
   simp only[Op.operands];grind)
  have key:∀ (l:List (Nat×Operand)),(∀ p∈l,Eo s' p.2=Eo s p.2)->I5 s' l=I5 s l:=by exact AMc
  simp only[FM,XA,MF,key _ hps,hst] at hr ⊢
  exact hr
 | _=>simp[Yc] at heff
def Bd (E:Nat->Bool) (q:Nat):Prop:=q=0\/∃ e,E e=true/\q=e+1
def V4 (P:Program) (n:Nat) (ops:Array Oper) (x:Option (Nat×Nat)) (env:List (Nat×AV)) (R:Nat->AV) (S:Nat->List Ob) (E:Nat->Bool) (m i:Nat) (o:Oper):Prop:=
 ∃ b,oW ops (B_ ops R env (fun _=>true) i) o.guard=some b/\(b=false->R i = .undef/\E i=false/\S (i+1)=S i) /\
  (b=true->E i=true->Yc o.op=true/\FM P ⟨n,B_ ops R env (fun _=>true) i,S i⟩ o.op (R i) (S (i+1))/\∀ e,E e=true->e<i->(∀ e',e<e'->e'<i->E e'=false)->Bj o e=true\/∃ p,x=some (i,p)/\E p=true/\e<=p) /\
  (b=true->E i=false->S (i+1)=S i/\∀ q,Bd E q->q<=m->(∀ e,E e=true->Bj o e=true->e<q)->(∀ e oe,e<m->ops[e]?=some oe->E e=true->Bj oe i=true->q<=e) ->
   C9 P ⟨n,B_ ops R env (fun _=>true) i,S q⟩ o.op (R i))
theorem Ut {ops:Array Oper} {env:List (Nat×AV)} {R1 R2:Nat->AV}:∀ (m:Nat),(∀ i,i<m->R1 i=R2 i)->B_ ops R1 env (fun _=>true) m=B_ ops R2 env (fun _=>true) m
 | 0,_=>rfl
 | m+1,hm=>by simp only[B_,Ut m (fun i hi=>hm i AOl),hm m AOl]
structure Ghost (P:Program) (w0:Bs) (St0:Nat->Nat->Prop) (T:TypeId) (wg:Bs) (b:Nat):Prop where
 may:w0.may b
 old:BelowB w0 wg.w
 lt:b<wg.heap.size
 own:∀ y,wg.own y↔(w0.may y/\y≠b)
 st:∀ o,¬ St0 b o
 gs:wg.gs=w0.gs
 cells:∃ (zs:List Value) (cs:Array Value),Uj P T=some (zs.map .v)/\ng zs=true/\wg.heap[b]?=some (.cells cs T (0,0))/\cs.toList=zs
def dY (b:Nat):Value:=.pointer (some ⟨b,0,none⟩)
theorem AD3 (h:Core w0 St0 St β s a w) (o:Oper) (T:TypeId) (ho:o.op = .alloc T) {y:AV} {st1 st':List Ob} {n1:Nat} {env1:List (Nat×AV)} (hy:QP P ⟨n1,env1,st1⟩ T=some (y,st')) (Q:Exit->Act->World->Prop) :
  o.wp P a w (fun a' w'=>∃ wg b,Ghost P w0 St0 T wg b/\Sim wg St0 (MS.put s o.dst (.pin .un (dY b))) a' w') Q:=by
 unfold QP at hy
 split at hy
 .rename_i cs0 hz0
  obtain⟨zs,hz,hwf,rfl⟩:=O6 hz0
  obtain⟨z,hz1,hz2⟩:=Vd hz w
  have hb:Below w.heap.size w (w.alloc (.cells z.cells T)):=YW w _
  have hc:Core w0 St0 St β s a (w.alloc (.cells z.cells T)):=h.grow hb (fun _ _ h=>h) (fun _ _ h _=>h) fun b o hbo=>bm (h.stIn b o hbo) hb.size
  have hN:Own w0 (fun x=>x=w.heap.size) (w.alloc (.cells z.cells T)) St s.st β:=h.own.grow hb (fun _ _ h=>h) (fun _ _ h _=>h) h.stIn (fun l ob b h1 h2 h3=>(h.obs l ob b h1 h2 h3).2.1) fun x hx e=>AOl
  have hw0:=h.below.size
  have hsz:w.heap.size<(w.alloc (.cells z.cells T)).heap.size:=AOm
  have hrun:(execOp a.eval o).run P w = .ok (.value (dY w.heap.size)) (w.alloc (.cells z.cells T)):=by simp[execOp,ho,Instr.alloc,hz1,newVar,newRow,dY]
  unfold Oper.wp
  rw[hrun]
  refine⟨⟨w.alloc (.cells z.cells T),fun y=>w0.may y/\y≠w.heap.size,w0.gs⟩,w.heap.size,⟨.inl hw0,hc.below,by simp only[Bs.heap]; omega,fun y=>Iff.rfl,fun o hso=>?_,rfl,zs,z.cells,hz0,hwf,alloc_at w _,hz2⟩,St,β, ?_⟩
  .have:=h.stIn _ _ (h.st0 _ _ hso); omega
  .refine Core.put (x:=.pin .un (dY w.heap.size)) (u:=dY w.heap.size) ?_ o.dst (by simp[AVR])
   exact {
    defers:=hc.defers
    size:=hc.size
    lim:=hc.lim
    env:=hc.env
    below:=BelowB.refl _ _
    st0:=hc.st0
    stOld:=fun b o hbo hlt hno=>by
     refine h.stOld b o hbo ?_ ?_
     .rcases bh b w0.heap.size with h' | h'
      .exact h'
      .exact absurd ⟨.inl h',by have:=h.stIn b o hbo; omega⟩ hno
     .intro h';exact hno ⟨.inr h',by have:=h.stIn b o hbo; omega⟩
    stIn:=hc.stIn
    obs:=fun l ob b h1 h2 h3=>by obtain⟨q1,q2,q3⟩:=hc.obs l ob b h1 h2 h3;have:=(h.obs l ob b h1 h2 h3).2.1;exact⟨.inr ⟨q1,AOl⟩,q2,q3⟩
    nil:=hc.nil
    inj:=hc.inj
    sep:=hc.sep
    own:=by obtain⟨φ,o1,o2,o3⟩:=hN;refine⟨φ,o1,fun l k x hx=>⟨(o2 l k x hx).1, ?_⟩,o3⟩;obtain⟨q1,q2,q3⟩:=(o2 l k x hx).2;exact⟨.inr ⟨q1,q2⟩,fun h=>h,q3⟩ }
 .cases hy
theorem Ghost.adopt {T:TypeId} {wg:Bs} {b d:Nat} (g:Ghost P w0 St0 T wg b) (h:Core wg St0 St β s a w) {y:AV} {st':List Ob} {n1:Nat} {env1:List (Nat×AV)} (hy:QP P ⟨n1,env1,s.st⟩ T=some (y,st')) (hp:a.tmps.getD d Go.undef=dY b) :
  ∃ β',Core w0 St0 St β' ⟨s.n,(d,y)::s.env,st'⟩ a w:=by
 have hno:¬ wg.own b:=fun h=>((g.own b).1 h).2 rfl
 have hblk:w.heap[b]?=wg.heap[b]?:=h.below.blk b g.lt hno
 have hw0:w0.heap.size<=wg.heap.size:=g.old.size
 have hwg:wg.heap.size<=w.heap.size:=h.below.size
 have hmay:∀ y,wg.may y->w0.may y/\y≠b:=fun y hy=>by
  rcases hy with hy | hy
  .exact⟨.inl AOl,by have:=g.lt; omega⟩
  .exact(g.own y).1 hy
 have hnown:∀ k,k<w0.heap.size->¬ w0.own k->¬ wg.own k:=fun k h1 h2 h3=>by
  rcases((g.own k).1 h3).1 with h' | h'
  .omega
  grind
 have hSt:∀ o,¬ St b o:=fun o hbo=>g.st o (h.stOld b o hbo g.lt hno)
 have hN:Own w0 (fun x=>x=b) w St s.st β:=by obtain⟨φ,o1,o2,o3⟩:=h.own;refine⟨φ,o1,fun l k x hx=>⟨(o2 l k x hx).1, ?_⟩,o3⟩;obtain⟨q1,q2,q3⟩:=(o2 l k x hx).2;exact⟨(hmay x q1).1,(hmay x q1).2,q3⟩
 have hc:Core w0 St0 St β s a w:={
  defers:=h.defers
  size:=h.size
  lim:=h.lim
  env:=fun i=>by have:=h.env i; unfold nm at this ⊢; rw[<- g.gs]; exact this
  below:=g.old.step (n:=0) h.below.rest (fun k h1 h2=>h.below.blk k AOl (hnown k h1 h2)) fun k h1=>h.below.siz k AOl
  st0:=h.st0
  stOld:=fun x o hxo h1 h2=>h.stOld x o hxo AOl (hnown x h1 h2)
  stIn:=h.stIn
  obs:=fun l ob x h1 h2 h3=>by obtain⟨q1,q2,q3⟩:=h.obs l ob x h1 h2 h3;grind
  nil:=h.nil
  inj:=h.inj
  sep:=h.sep
  own:=by obtain⟨φ,o1,o2,o3⟩:=hN;refine⟨φ,o1,fun l k x hx=>⟨(o2 l k x hx).1, ?_⟩,o3⟩;obtain⟨q1,q2,q3⟩:=(o2 l k x hx).2;exact⟨q1,fun h=>h,q3⟩ }
 obtain⟨zs,cs,hz,hwf,hcs,hcl⟩:=g.cells
 unfold QP at hy
 rw[hz] at hy
 simp only[ai,bb] at hy
 obtain⟨rfl,rfl⟩:=hy
 obtain⟨h1,h2,_⟩:=hc.addOb ⟨T,(zs.map Cl.v).length,[zs.map .v],true,true⟩ (some b) AOm (fun x hx=>by
  simp only[ai] at hx;subst hx;refine⟨g.may,AOo,fun l o2 p1 p2 p3=>?_,fun o hbo=>absurd hbo (hSt o),cs,AOo,AOm,fun k c hk=>?_⟩
  .exact(hmay _ (h.obs l o2 _ p1 p2 p3).1).2 rfl
  .simp only[XV,aaH,bc,nX,aao] at hk;obtain⟨v,hv,rfl⟩:=hk;refine⟨v,AOo, ?_⟩;simp only[RdC,RdD,true_and];exact aC.1 hwf v (aT hv)) hN (fun x hx e=>hx.2.1 AOo)
 refine⟨_,{ h1 with env:=fun i=>?_ }⟩
 simp only[CG]
 by_cases e:d=i
 .subst e
  have hd:d<1000000:=by
   rcases bh d a.tmps.size with h' | h'
   .exact bm h' (by rw[h.size]; exact h.lim)
   .simp[h',undef,dY] at hp
  simp only[aO]
  rw[Va hd,hp]
  simp[AVR,dY]
 .simp only[e,aL]
  exact h1.env i
def Ru (R:Nat->AV) (j b:Nat):Nat->AV:=fun i=>if i=j then .pin .un (dY b) else R i
def PhA (w0:Bs) (St0:Nat->Nat->Prop) (n:Nat) (ops:Array Oper) (env:List (Nat×AV)) (R:Nat->AV) (S:Nat->List Ob) (E:Nat->Bool) (listed:Array Bool) (a:Act) (w:World):Prop:=
 ∃ q,Bd E q/\(∀ e,E e=true->(listed.getD e false=true↔e<q))/\Sim w0 St0 ⟨n,B_ ops R env (fun i=>listed.getD i false) ops.size,S q⟩ a w
def PhB (P:Program) (w0:Bs) (St0:Nat->Nat->Prop) (n:Nat) (ops:Array Oper) (env:List (Nat×AV)) (R:Nat->AV) (S:Nat->List Ob) (E:Nat->Bool) (x:Option (Nat×Nat)) (listed:Array Bool) (a:Act) (w:World):Prop:=
 ∃ (j p q b:Nat) (wg:Bs) (T:TypeId) (oj:Oper),x=some (j,p)/\ops[j]?=some oj/\oj.op = .alloc T/\E j=true/\E p=true/\(∀ e,E e=true->e<j->e<=p)/\Bd E q/\q<=p/\listed.getD j false=true /\
  (∀ e,E e=true->e≠j->(listed.getD e false=true↔e<q))/\Ghost P w0 St0 T wg b/\Sim wg St0 ⟨n,B_ ops (Ru R j b) env (fun i=>listed.getD i false) ops.size,S q⟩ a w
theorem o6 {ops:Array Oper} {j p:Nat} (h:yZ ops (some (j,p))=true) {oj:Oper} (hoj:ops[j]?=some oj) :
  (∃ T,oj.op = .alloc T)/\oj.after = #[]/\oj.guard=none/\(∃ d,oj.dst=some d)/\p<j/\∀ (i:Nat) (o:Oper),ops[i]?=some o->Bj o j=true->Bj o p=true:=by
 simp only[yZ,hoj,ar,aQ] at h
 obtain⟨⟨⟨⟨⟨h1,h2⟩,h3⟩,h4⟩,h5⟩,h6⟩:=h
 refine⟨?_,AOo,AQA,Option.isSome_iff_exists.1 h4,h5,fun i o ho hb=>?_⟩
 .cases hop:oj.op with
  | alloc T=>grind
  | _=>rw[hop] at h1; cases h1
 grind
theorem AB4 {ops:Array Oper} {n:Nat} (hok:FY n ops=true) (hops:(ops.toList.all fun o=>o.op.operands.toList.all Ap)=true) (env:List (Nat×AV)) (R:Nat->AV) (S:Nat->List Ob) (E:Nat->Bool) (x:Option (Nat×Nat)) (hx:yZ ops x=true)
  (hR:∀ (i:Nat) (o:Oper),ops[i]?=some o->V4 P n ops x env R S E ops.size i o) (hE:∀ e,E e=true->e<ops.size)
  (Q:Exit->Act->World->Prop) (hQ:∀ a w,Sim w0 St0 ⟨n,B_ ops R env (fun _=>true) ops.size,S ops.size⟩ a w->Q .normal a w) :
  ∀ (fuel:Nat) (listed:Array Bool) (a:Act) (w:World),listed.size=ops.size->listed.toList.countP (fun b=>!b)<=fuel ->
   (∀ (i:Nat) (o:Oper),listed.getD i false=true->ops[i]?=some o->∀ e∈o.after,Region.binds .any e=true->listed.getD e.on false=true) ->
   PhA w0 St0 n ops env R S E listed a w\/PhB P w0 St0 n ops env R S E x listed a w->wpAny P .any ops Q fuel listed a w:=by
 have hdst:=dO hok
 have hstay:∀ (d i:Nat),i+d<=ops.size->(∀ e,i<=e->e<i+d->E e=false)->S (i+d)=S i:=by
  intro d;induction d with
  | zero=>intro i _ _; rfl
  | succ d ih =>
   intro i hi hno
   have hlt:i+d<ops.size:=AOl
   obtain⟨b,_,h1,h2,h3⟩:=hR (i+d) ops[i+d] (by simp[hlt])
   have hf:=hno (i+d) AOl AOl
   have e1:S (i+d+1)=S (i+d):=by
    cases b with
    | true=>exact(h3 rfl hf).1
    | false=>exact(h1 rfl).2.2
   rw[show i+(d+1)=i+d+1 from AOl,e1]
   exact ih i AOl fun e he1 he2=>hno e he1 AOl
 have hstay2:∀ i j,i<=j->j<=ops.size->(∀ e,i<=e->e<j->E e=false)->S j=S i:=fun i j h1 h2 h3=>by have:=hstay (j-i) i AOl (fun e he1 he2=>h3 e he1 AOl);rwa [show i+(j-i)=j from AOl] at this
 have hall:∀ (listed:Array Bool) (a:Act) (w:World),(∀ i,i<ops.size->listed.getD i false=true)->PhA w0 St0 n ops env R S E listed a w\/PhB P w0 St0 n ops env R S E x listed a w->Q .normal a w:=by
  rintro listed a w hl (⟨q,hb,hq,hs⟩ | ⟨j,p,q,b,wg,T,oj,hxx,hoj,hopj,hEj,hEp,hle,hb,hqp,hlj,hq,hg,hs⟩)
  .have hqs:q<=ops.size:=by
    rcases hb with rfl | ⟨e,he,rfl⟩
    .omega
    .exact hE e he
   have eS:S ops.size=S q:=hstay2 q ops.size hqs (aG _) fun e h1 h2=>by
    cases hc:E e with
    | false=>rfl
    | true=>have:=(hq e hc).1 (hl e h2); omega
   refine hQ a w (hs.congr rfl eS fun t=>?_);exact ALM
  .subst hxx;have hpj:=(o6 hx hoj).2.2.2.2.1;have:=(hq p hEp AOl).1 (hl p (hE p hEp));omega
 have hready:∀ (listed:Array Bool),Region.ready .any ops listed = []->listed.size=ops.size->∀ i,i<ops.size->listed.getD i false=true:=by
  intro listed hr hsz i;induction i using Nat.strongRecOn with
  | _ i ih =>
   intro hi
   cases hc:listed.getD i false with
   | true=>rfl
   | false =>
    exfalso
    have:i∈Region.ready .any ops listed:=by
     rw[mem_ready];refine⟨?_,ops[i],AQe,fun e he hb=>?_⟩
     .have hi':i<listed.size:=by omega
      simp[hi'] at hc ⊢;exact hc
     .have:=(Gs hok (i:=i) (o:=ops[i]) AQe).1 e he hb;exact ih e.on this AOl
    rw[hr] at this
    cases this
 intro fuel
 induction fuel with
 | zero =>
  intro listed a w hsz hcnt hcl hs
  have hl:∀ i,i<ops.size->listed.getD i false=true:=by exact ALn
  refine⟨?_,hall listed a w hl hs⟩
  apply List.eq_nil_iff_forall_not_mem.2
  intro i hi
  rw[mem_ready] at hi
  obtain⟨h1,o,ho,_⟩:=hi
  have hi':i<ops.size:=(bd.1 ho).1
  have h2:=hl i hi'
  have hi2:i<listed.size:=AOl
  simp[hi2] at h1 h2
  rw[h1] at h2; cases h2
 | succ fuel ih =>
  intro listed a w hsz hcnt hcl hs
  refine⟨fun hr=>hall listed a w (hready listed hr hsz) hs,fun i hi=>?_⟩
  rw[mem_ready] at hi
  obtain⟨hun,o,ho,hafter⟩:=hi
  have hi':i<ops.size:=(bd.1 ho).1
  have hi2:i<listed.size:=AOl
  have hun':listed.getD i false=false:=by exact AOQ
  have hread:∀ (R':Nat->AV),(∀ k,Bj o k=true->R' k=R k)->∀ t∈Rk ops o,CG (B_ ops R' env (fun i=>listed.getD i false) ops.size) t=CG (B_ ops R env (fun _=>true) i) t:=by
   intro R' hRR t ht;by_cases hj:∃ (j:Nat),(ops[j]?).bind (·.dst)=some t
   .obtain⟨j,hj⟩:=hj;cases hoj:ops[j]? with
    | none=>simp[hoj] at hj
    | some oj =>
     have hjd:oj.dst=some t:=by simpa [hoj] using hj
     have hjs:j<ops.size:=(bd.1 hoj).1
     rcases Nat.lt_trichotomy j i with h1 | h1 | h1
     .have hb:=(Oh hok hoj ho hjd ht AOl).1 h1
      have hl:=Dp hb hafter
      rw[F7 (X:=fun i=>listed.getD i false) hdst hj hl ops.size hjs,F7 (X:=fun _=>true) hdst hj rfl i h1]
      exact hRR j hb
     .subst h1
      rw[Bg (X:=fun i=>listed.getD i false) ops.size (fun k _ hk=>by have:=hdst k j t hk hj; subst this; exact hun'),
       Bg (X:=fun _=>true) j (fun k hk hkd=>by have:=hdst k j t hkd hj; omega)]
     .have hb:=(Oh hok hoj ho hjd ht AOl).2 h1
      have hl:listed.getD j false=false:=by
       cases hc:listed.getD j false with
       | false=>rfl
       | true =>
        have:=Dp hb (hcl j oj hc hoj)
        rw[this] at hun'; cases hun'
      rw[Bg (X:=fun i=>listed.getD i false) ops.size (fun k _ hk=>by have:=hdst k j t hk hj; subst this; exact hl),
       Bg (X:=fun _=>true) i (fun k hk hkd=>by have:=hdst k j t hkd hj; omega)]
   .rw[Bg (X:=fun i=>listed.getD i false) ops.size (fun k _ hk=>(hj ⟨k,hk⟩).elim),Bg (X:=fun _=>true) i (fun k _ hk=>(hj ⟨k,hk⟩).elim)]
  obtain⟨b,hb1,hb2,hb3,hb4⟩:=hR i o ho
  have hfin:∀ (a':Act) (w':World),PhA w0 St0 n ops env R S E (listed.setIfInBounds i true) a' w'\/PhB P w0 St0 n ops env R S E x (listed.setIfInBounds i true) a' w'->wpAny P .any ops Q fuel (listed.setIfInBounds i true) a' w':=by
   intro a' w' hph;refine ih _ a' w' (by simpa using hsz) ?_ ?_ hph
   .have hset:(listed.setIfInBounds i true).toList=listed.toList.set i true:=by simp
    rw[hset,List.countP_set (by simpa using hi2)];have hv:listed.toList[i]'(by simpa using hi2)=false:=by simpa [hi2] using hun'
    rw[hv];have hpos:0<listed.toList.countP (fun b=>!b):=List.countP_pos_iff.2 ⟨listed.toList[i]'(by simpa using hi2),an _,by rw[hv]; rfl⟩;simp only[aH,aO,aD,ax,aL];omega
   .intro j oj hj hoj e he hbd;rw[I9 hi2] at hj ⊢;by_cases e1:i=j
    .subst e1;rw[ho] at hoj;simp only[ai] at hoj;subst hoj;have:=hafter e he hbd;rw[this]; simp
    .simp only[e1,aL] at hj;have:=hcl j oj hj hoj e he hbd;rw[this]; simp
  have hput:∀ (wb:Bs) (R':Nat->AV) (st:List Ob) (a':Act) (w':World),Sim wb St0 (MS.put ⟨n,B_ ops R' env (fun i=>listed.getD i false) ops.size,st⟩ o.dst (R' i)) a' w'->Sim wb St0 ⟨n,B_ ops R' env (fun j=>(listed.setIfInBounds i true).getD j false) ops.size,st⟩ a' w':=by
   intro wb R' st a' w' hsim;refine hsim.congr ?_ ?_ fun t=>?_
   .exact AL4
   .exact AL4
   .have hX:(fun j=>(listed.setIfInBounds i true).getD j false)=fun j=>if i=j then true else listed.getD j false:=funext fun j=>I9 hi2
    rw[hX];cases hd:o.dst with
    | none =>
     simp only[MS.put]
     by_cases hj:∃ (j:Nat),(ops[j]?).bind (·.dst)=some t
     .obtain⟨j,hj⟩:=hj
      have hjs:j<ops.size:=by exact AOB
      have hne:i≠j:=fun e=>by subst e; simp[ho,hd] at hj
      exact AJ6
     .exact ALt
    | some d =>
     have hdn:=(Gs hok ho).2 d hd
     have hid:(ops[i]?).bind (·.dst)=some d:=by simp[ho,hd]
     simp only[MS.put,hdn,aO,CG]
     by_cases e1:d=t
     .subst e1
      simp only[aO]
      rw[F7 (X:=fun j=>if i=j then true else listed.getD j false) hdst hid AOm ops.size hi']
     .simp only[e1,aL]
      by_cases hj:∃ (j:Nat),(ops[j]?).bind (·.dst)=some t
      .obtain⟨j,hj⟩:=hj
       have hjs:j<ops.size:=by exact AOB
       have hne:i≠j:=fun e=>by subst e; rw[hid] at hj; exact e1 (uG hj)
       exact AJ6
      .exact ALt
  have hset:∀ (q q':Nat),(∀ e,E e=true->(e<q'↔(e<q\/e=i)))->∀ e,E e=true->(listed.getD e false=true↔e<q)->((listed.setIfInBounds i true).getD e false=true↔e<q'):=by
   intro q q' hqq e he hq;rw[I9 hi2,hqq e he,<- hq];by_cases e1:i=e
   .simp[e1]
   .have e2:¬ e=i:=fun h=>e1 h.symm;simp[e1,e2]
  have hkeep:∀ (q:Nat),E i=false->∀ e,E e=true->(listed.getD e false=true↔e<q)->((listed.setIfInBounds i true).getD e false=true↔e<q):=fun q hEi=>hset q q fun e he=>⟨.inl,fun h=>h.elim id fun h=>by subst h; rw[hEi] at he; cases he⟩
  have hmix:∀ (R':Nat->AV),(∀ k,Bj o k=true->R' k=R k)->(∀ t,.tmp t∈o.op.operands.toList->CG (B_ ops R' env (fun i=>listed.getD i false) ops.size) t=CG (B_ ops R env (fun _=>true) i) t):=fun R' hRR t ht=>hread R' hRR t (by
   simp only[Rk,yF];left;rw[List.mem_filterMap];exact⟨.tmp t,ht,rfl⟩)
  unfold wpOp
  rcases hs with ⟨q,hbd,hq,St,β,hcore⟩ | ⟨j,p,q,bg,wg,T,oj,hxx,hoj,hopj,hEj,hEp,hle,hbd,hqp,hlj,hq,hg,St,β,hcore⟩
  .
   have hop:=hmix R fun _ _=>rfl
   have hg1:=hb1
   rw[<- Xh (hread R fun _ _=>rfl)] at hg1
   have hwant:=oZ hcore (o:=o) hg1
   simp only[ho,hwant]
   cases b with
   | false =>
    simp only[ax,aL]
    obtain⟨g1,g2,g3⟩:=hb2 rfl
    refine hfin _ _ (.inl ⟨q,hbd,fun e he=>hkeep q g2 e he (hq e he),hput _ _ _ _ _ ⟨St,β,hcore.put o.dst ?_⟩⟩)
    rw[g1]
    simp only[AVR]
   | true =>
    simp only[aO]
    left
    cases hEi:E i with
    | false =>
     obtain⟨g1,g2⟩:=hb4 rfl hEi
     have hqs:q<=ops.size:=by exact AOc
     have hd:=g2 q hbd hqs (fun e he hbt=>(hq e he).1 (Dp hbt hafter)) (fun e oe _ hoe he hbt=>by
      rcases bh e q with h' | h'
      .have:=(hq e he).2 h';exact AOZ
      .exact h')
     have hstep:=QQ (P:=P) (s:=⟨n,B_ ops R env (fun _=>true) i,S q⟩) (s':=⟨n,B_ ops R env (fun i=>listed.getD i false) ops.size,S q⟩) rfl o.op hop (R i) hd
     exact Oper.wp_mono (fun a' w' hs=>hfin a' w' (.inl ⟨q,hbd,fun e he=>hkeep q hEi e he (hq e he),hput _ _ _ _ _ hs⟩)) (Xg hcore o (MG hops ho) hstep Q)
    | true =>
     obtain⟨g1,g2,g3⟩:=hb3 rfl hEi
     have hiq:q<=i:=by
      have:¬ i<q:=fun h'=>by have:=(hq i hEi).2 h'; rw[this] at hun'; cases hun'
      omega
     have heff:(∀ e,E e=true->e<i->e<q)->o.wp P a w (fun a' w'=>wpAny P .any ops Q fuel (listed.setIfInBounds i true) a' w') Q:=by
      intro hprev;have eS:S i=S q:=hstay2 q i hiq AOl fun e x1 x2=>by exact AOT
      rw[eS] at g2;have hstep:=UL (P:=P) (s:=⟨n,B_ ops R env (fun _=>true) i,S q⟩) (s':=⟨n,B_ ops R env (fun i=>listed.getD i false) ops.size,S q⟩) rfl o.op g1 hop g2
      exact Oper.wp_mono (fun a' w' hs=>hfin a' w' (.inl ⟨i+1,.inr ⟨i,hEi,rfl⟩,fun e he=>hset q (i+1) (fun e he=>⟨fun h=>by
       rcases bh e i with h' | h'
       .exact .inl (hprev e he h')
       .exact .inr AOl,fun h=>by
       rcases h with h | h
       .omega
       .omega⟩) e he (hq e he),hput _ _ _ _ _ hs⟩)) (dX hcore o (MG hops ho) hstep Q)
     by_cases hxi:∃ p,x=some (i,p)/\E p=true/\(∀ e,E e=true->e<i->e<=p)/\¬ p<q
     .
      obtain⟨p,hxx,hEp,hle,hpq⟩:=hxi
      subst hxx
      obtain⟨⟨T,hT⟩,_,_,_,hpi,_⟩:=o6 hx ho
      rw[hT] at g2
      simp only[FM,XA] at g2
      refine Oper.wp_mono (fun a' w' hs=>?_) (AD3 hcore o T hT g2 Q)
      obtain⟨wg,bg,hgh,hsim⟩:=hs
      refine hfin a' w' (.inr ⟨i,p,q,bg,wg,T,o,rfl,ho,hT,hEi,hEp,hle,hbd,AOl,by rw[I9 hi2]; simp,fun e he hne=>?_,hgh, ?_⟩)
      .rw[I9 hi2]
       have e1:¬ i=e:=fun h=>hne h.symm
       simp only[e1,aL]
       exact hq e he
      .refine hput wg (Ru R i bg) (S q) a' w' ?_
       have e1:Ru R i bg i = .pin .un (dY bg):=by simp[Ru]
       rw[e1]
       refine hsim.congr ?_ ?_ fun t=>?_
       .exact AL4
       .exact AL4
       .have e2:∀ m,B_ ops (Ru R i bg) env (fun i=>listed.getD i false) m=B_ ops R env (fun i=>listed.getD i false) m:=by
         intro m
         induction m with
         | zero=>rfl
         | succ m ihm =>
          simp only[B_,ihm]
          by_cases hm:m=i
          .subst hm
           simp only[hun',ax,aL]
          .simp only[Ru,hm,aL]
        rw[e2]
     .refine heff ?_
      have key:∀ d e,i-e<=d->E e=true->e<i->e<q:=by
       intro d;induction d with
       | zero=>intro e h1 _ h3; omega
       | succ d ihd =>
        intro e h1 he hei
        by_cases hex:∃ e',e<e'/\e'<i/\E e'=true
        .exact AOb
        .have hbt:=g3 e he hei fun e' x1 x2=>by
          exact AOL
         rcases hbt with hbt | ⟨p,hp1,hp2,hp3⟩
         .exact(hq e he).1 (Dp hbt hafter)
         .have hpq:p<q:=by
           rcases bh p q with h' | h'
           .exact h'
           .refine absurd ⟨p,hp1,hp2,fun e' he' hei'=>?_,AOl⟩ hxi
            have:e'<=e:=by
             rcases bh e e' with h2 | h2
             .exact absurd ⟨e',h2,hei',he'⟩ hex
             .exact h2
            omega
          omega
      exact fun e he hei=>key (i-e) e (aG _) he hei
  .
   subst hxx
   obtain⟨_,haft,_,⟨d,hd⟩,hpj,hbp⟩:=o6 hx hoj
   have hnj:i≠j:=fun e=>by subst e; rw[hlj] at hun'; cases hun'
   have hpl:listed.getD p false=false:=by
    cases hc:listed.getD p false with
    | false=>rfl
    | true=>have:=(hq p hEp AOl).1 hc; omega
   have hnb:Bj o j=false:=by
    cases hc:Bj o j with
    | false=>rfl
    | true =>
     have:=Dp (hbp i o ho hc) hafter
     rw[this] at hpl; cases hpl
   have hRR:∀ k,Bj o k=true->Ru R j bg k=R k:=fun k hk=>by
    have:¬ k=j:=fun e=>by subst e; rw[hnb] at hk; cases hk
    simp only[Ru,this,aL]
   have hop:=hmix (Ru R j bg) hRR
   have hRi:Ru R j bg i=R i:=by simp only[Ru,hnj,aL]
   have hg1:=hb1
   rw[<- Xh (hread (Ru R j bg) hRR)] at hg1
   have hwant:=oZ hcore (o:=o) hg1
   have hlj':(listed.setIfInBounds i true).getD j false=true:=by rw[I9 hi2,hlj]; simp
   simp only[ho,hwant]
   cases b with
   | false =>
    simp only[ax,aL]
    obtain⟨g1,g2,g3⟩:=hb2 rfl
    refine hfin _ _ (.inr ⟨j,p,q,bg,wg,T,oj,rfl,hoj,hopj,hEj,hEp,hle,hbd,hqp,hlj',fun e he hne=>hkeep q g2 e he (hq e he hne),hg,hput _ _ _ _ _ ⟨St,β,hcore.put o.dst ?_⟩⟩)
    rw[hRi,g1]
    simp only[AVR]
   | true =>
    simp only[aO]
    left
    cases hEi:E i with
    | false =>
     obtain⟨g1,g2⟩:=hb4 rfl hEi
     have hqs:q<=ops.size:=by exact AOc
     have hd2:=g2 q hbd hqs (fun e he hbt=>(hq e he (fun h=>by subst h; rw[hnb] at hbt; cases hbt)).1 (Dp hbt hafter)) (fun e oe _ hoe he hbt=>by
      by_cases hej:e=j
      .omega
      .rcases bh e q with h' | h'
       .have:=(hq e he hej).2 h';exact AOZ
       .exact h')
     have hstep:=QQ (P:=P) (s:=⟨n,B_ ops R env (fun _=>true) i,S q⟩) (s':=⟨n,B_ ops (Ru R j bg) env (fun i=>listed.getD i false) ops.size,S q⟩) rfl o.op hop (R i) hd2
     exact Oper.wp_mono (fun a' w' hs=>hfin a' w' (.inr ⟨j,p,q,bg,wg,T,oj,rfl,hoj,hopj,hEj,hEp,hle,hbd,hqp,hlj',fun e he hne=>hkeep q hEi e he (hq e he hne),hg,hput _ _ _ _ _ (by rw[hRi]; exact hs)⟩)) (Xg hcore o (MG hops ho) hstep Q)
    | true =>
     obtain⟨g1,g2,g3⟩:=hb3 rfl hEi
     have hlisted:∀ e,E e=true->e<i->(∀ e',e<e'->e'<i->E e'=false)->listed.getD e false=true/\e≠j:=fun e he hei hno=>by
      rcases g3 e he hei hno with hbt | ⟨p',hp1,_,_⟩
      .exact⟨Dp hbt hafter,fun h=>by subst h; rw[hnb] at hbt; cases hbt⟩
      .simp only[ai,bb] at hp1;exact absurd hp1.1.symm hnj
     have key:∀ d e,i-e<=d->E e=true->e<i->e<q:=by
      intro d;induction d with
      | zero=>intro e h1 _ h3; omega
      | succ d ihd =>
       intro e h1 he hei
       by_cases hex:∃ e',e<e'/\e'<i/\E e'=true
       .exact AOb
       .obtain⟨y1,y2⟩:=hlisted e he hei fun e' x1 x2=>by
         exact AOL
        exact(hq e he y2).1 y1
     have hprev:∀ e,E e=true->e<i->e<q:=fun e he hei=>key (i-e) e (aG _) he hei
     have hij:i<j:=by
      rcases bh i j with h' | h'
      .exact h'
      .have:=hprev j hEj AOl; omega
     have hip:i<=p:=hle i hEi hij
     have hiq:q<=i:=by
      have:¬ i<q:=fun h'=>by have:=(hq i hEi hnj).2 h'; rw[this] at hun'; cases hun'
      omega
     have eS:S i=S q:=hstay2 q i hiq AOl fun e x1 x2=>by exact AOT
     rw[eS] at g2
     have hstep:=UL (P:=P) (s:=⟨n,B_ ops R env (fun _=>true) i,S q⟩) (s':=⟨n,B_ ops (Ru R j bg) env (fun i=>listed.getD i false) ops.size,S q⟩) rfl o.op g1 hop g2
     refine Oper.wp_mono (fun a' w' hs=>hfin a' w' ?_) (dX hcore o (MG hops ho) hstep Q)
     have hs2:Sim wg St0 ⟨n,B_ ops (Ru R j bg) env (fun j=>(listed.setIfInBounds i true).getD j false) ops.size,S (i+1)⟩ a' w':=hput _ _ _ _ _ (by rw[hRi]; exact hs)
     have hq2:∀ e,E e=true->e≠j->((listed.setIfInBounds i true).getD e false=true↔e<i+1):=fun e he hne=>hset q (i+1) (fun e he=>⟨fun h=>by
      rcases bh e i with h' | h'
      .exact .inl (hprev e he h')
      .exact .inr AOl,fun h=>by
      rcases h with h | h
      .omega
      .omega⟩) e he (hq e he hne)
     by_cases hpi:i=p
     .
      left
      subst hpi
      obtain⟨bj,hj1,hj2,hj3,_⟩:=hR j oj hoj
      have hbj:bj=true:=by
       cases bj with
       | true=>rfl
       | false=>have:=(hj2 rfl).2.1; rw[hEj] at this; cases this
      obtain⟨_,k2,_⟩:=hj3 hbj hEj
      rw[hopj] at k2
      simp only[FM,XA] at k2
      have eSj:S j=S (i+1):=hstay2 (i+1) j AOl (Nat.le_of_lt (hE j hEj)) fun e x1 x2=>by
       cases hc:E e with
       | false=>rfl
       | true=>have:=hle e hc x2; omega
      rw[eSj] at k2
      obtain⟨St2,β2,hc2⟩:=hs2
      have hjd:(ops[j]?).bind (·.dst)=some d:=by simp[hoj,hd]
      have hpt:a'.tmps.getD d Go.undef=dY bg:=by have:=hc2.env d;rw[F7 (X:=fun j=>(listed.setIfInBounds i true).getD j false) hdst hjd hlj' ops.size (hE j hEj)] at this;simp only[Ru,aO,AVR] at this;rw[<- Va (w0:=wg) (bm ((Gs hok hoj).2 d hd) hc2.lim)];exact this.1
      obtain⟨β3,hc3⟩:=hg.adopt hc2 k2 hpt
      refine⟨j+1,.inr ⟨j,hEj,rfl⟩,fun e he=>?_,⟨St2,β3,hc3.congr rfl rfl fun t=>?_⟩⟩
      .by_cases hej:e=j
       .subst hej; rw[hlj']; simp
       .rw[hq2 e he hej]
        constructor
        .intro h; omega
        .intro h
         have:=hle e he AOl
         omega
      .simp only[CG]
       by_cases e1:d=t
       .subst e1
        simp only[aO]
        rw[F7 (X:=fun j=>(listed.setIfInBounds i true).getD j false) hdst hjd hlj' ops.size (hE j hEj)]
       .simp only[e1,aL]
        by_cases hjx:∃ (k:Nat),(ops[k]?).bind (·.dst)=some t
        .obtain⟨k,hk⟩:=hjx
         have hks:k<ops.size:=by
          cases hok2:ops[k]? with
          | none=>simp[hok2] at hk
          | some ok=>exact(bd.1 hok2).1
         have hkj:¬ k=j:=fun e=>by subst e; rw[hjd] at hk; exact e1 (uG hk)
         cases hl:(listed.setIfInBounds i true).getD k false with
         | true =>
          rw[F7 (X:=fun j=>(listed.setIfInBounds i true).getD j false) hdst hk hl ops.size hks,F7 (X:=fun j=>(listed.setIfInBounds i true).getD j false) hdst hk hl ops.size hks]
          simp only[Ru,hkj,aL]
         | false =>
          rw[Bg (X:=fun j=>(listed.setIfInBounds i true).getD j false) ops.size (fun m _ hm=>by have:=hdst m k t hm hk; subst this; exact hl),Bg (X:=fun j=>(listed.setIfInBounds i true).getD j false) ops.size (fun m _ hm=>by have:=hdst m k t hm hk; subst this; exact hl)]
        .rw[Bg (X:=fun j=>(listed.setIfInBounds i true).getD j false) ops.size (fun m _ hm=>(hjx ⟨m,hm⟩).elim),Bg (X:=fun j=>(listed.setIfInBounds i true).getD j false) ops.size (fun m _ hm=>(hjx ⟨m,hm⟩).elim)]
     .right
      exact⟨j,p,i+1,bg,wg,T,oj,rfl,hoj,hopj,hEj,hEp,hle,.inr ⟨i,hEi,rfl⟩,AOl,hlj',hq2,hg,hs2⟩
structure InvE (P:Program) (n:Nat) (ops:Array Oper) (x:Option (Nat×Nat)) (env:List (Nat×AV)) (k:Nat) (R:Nat->AV) (S:Nat->List Ob) (E:Nat->Bool) (H:List (Nat×List Ob)) (pd:List PE):Prop where
 below:∀ e,E e=true->e<k
 hist:∀ q,Bd E q->(q,S q)∈H
 histB:∀ h∈H,Bd E h.1
 head:∃ q0 st0 H',H=(q0,st0)::H'/\∀ e,E e=true->e<q0
 pend:∀ (i:Nat) (o:Oper),i<k->ops[i]?=some o->oW ops (B_ ops R env (fun _=>true) i) o.guard=some true->E i=false->(∀ e oe,ops[e]?=some oe->E e=true->Bj oe i=false)->(⟨i,o.op,B_ ops R env (fun _=>true) i,R i⟩:PE)∈pd
 spec:∀ (i:Nat) (o:Oper),i<k->ops[i]?=some o->V4 P n ops x env R S E k i o
theorem kL {E:Nat->Bool} {o:Oper} {q:Nat} (hq:∀ e,E e=true->Bj o e=true->e<q):∀ {H:List (Nat×List Ob)},(∀ h∈H,Bd E h.1)->Xj o q H=true
 | [],_=>rfl
 | h::H,hB=>by
  simp only[Xj,ar,aaN,aQ];refine⟨?_,kL hq fun h' hh=>hB h' (by simp[hh])⟩;rcases hB h AOm with h0 | ⟨e,he,h1⟩
  .left; omega
  grind
theorem kM {n:Nat} {env:List (Nat×AV)} {o:Oper} {r:AV} {H:List (Nat×List Ob)}:∀ {G:List (Nat×List Ob)},Xk P n env o r H G->∀ h∈G,Xj o h.1 H=true->C9 P ⟨n,env,h.2⟩ o.op r
 | [],_,h,hh,_=>by simp at hh
 | g::G,hp,h,hh,ha=>by
  simp only[Xk,CondK] at hp;rcases TM.1 hh with rfl | hh
  .grind
  .exact kM hp.2 h hh ha
theorem kN {n:Nat} {oe:Oper} {st':List Ob}:∀ {ps:List PE},Xl P n oe st' ps->∀ p∈ps,Bj oe p.i=false->C9 P ⟨n,p.env,st'⟩ p.o p.r
 | [],_,p,hp,_=>by simp at hp
 | q::ps,h,p,hp,hb=>by
  simp only[Xl,CondK] at h;rcases TM.1 hp with rfl | hp
  .grind
  .exact kN h.2 p hp hb
theorem kP {oe:Oper}:∀ {ps:List PE} {p:PE},p∈ps->Bj oe p.i=false->p∈Us oe ps
 | [],p,h,_=>APN
 | q::ps,p,h,hb=>by
  simp only[Us];rcases TM.1 h with rfl | h
  .rw[hb]; simp
  .have:=kP h hb;grind
theorem yh {n:Nat} {ops:Array Oper} {x:Option (Nat×Nat)} {K:MS->Prop} (hok:FY n ops=true) (env:List (Nat×AV)):∀ (l:List Oper) (k:Nat) (R:Nat->AV) (S:Nat->List Ob) (E:Nat->Bool) (H:List (Nat×List Ob)) (pd:List PE),(∀ j,l[j]?=ops[k+j]?)->k+l.length=ops.size ->
  InvE P n ops x env k R S E H pd->vpE P x ops K l k H pd ⟨n,B_ ops R env (fun _=>true) k,S k⟩ ->
  ∃ (R':Nat->AV) (S':Nat->List Ob) (E':Nat->Bool),K ⟨n,B_ ops R' env (fun _=>true) ops.size,S' ops.size⟩/\S' 0=S 0/\(∀ e,E' e=true->e<ops.size)/\∀ (i:Nat) (o:Oper),ops[i]?=some o->V4 P n ops x env R' S' E' ops.size i o:=by
 intro l
 induction l with
 | nil =>
  intro k R S E H pd hl hk hI h
  simp only[aj,abC] at hk
  subst hk
  exact⟨R,S,E,h,rfl,hI.below,fun i o ho=>hI.spec i o (bd.1 ho).1 ho⟩
 | cons o l ih =>
  intro k R S E H pd hl hk hI h
  have ho:ops[k]?=some o:=by simpa using(hl 0).symm
  have hks:k<ops.size:=(bd.1 ho).1
  have hEk:∀ e,k<=e->E e=false:=fun e he=>by
   cases hc:E e with
   | false=>rfl
   | true=>have:=hI.below e hc; omega
  simp only[vpE,UJ,gE,ADz,CondK] at h
  have hSk:∀ st',(fun j=>if j<=k then S j else S k) (k+1)=(fun j=>if j<=k then S j else st') k:=fun st'=>by have h1:¬ k+1<=k:=AOl;simp only[h1,aL,aG,aO]
  have put:∀ (r:AV) (st':List Ob),MS.put ⟨n,B_ ops R env (fun _=>true) k,st'⟩ o.dst r=⟨n,B_ ops (fun i=>if i=k then r else R i) env (fun _=>true) (k+1),st'⟩:=fun r st'=>by
   have e1:=Ut (ops:=ops) (env:=env) (R1:=fun i=>if i=k then r else R i) (R2:=R) k (fun i hi=>AOn);simp only[B_,ho,abv,e1];cases hd:o.dst with
   | none=>simp only[MS.put]
   | some d =>
    have:=(Gs hok ho).2 d hd
    simp[MS.put,this]
  have go:∀ (r:AV) (st':List Ob) (eff:Bool) (H':List (Nat×List Ob)) (pd':List PE),vpE P x ops K l (k+1) H' pd' (MS.put ⟨n,B_ ops R env (fun _=>true) k,st'⟩ o.dst r) ->
    InvE P n ops x env (k+1) (fun i=>if i=k then r else R i) (fun j=>if j<=k then S j else st') (fun i=>if i=k then eff else E i) H' pd' ->
    ∃ (R':Nat->AV) (S':Nat->List Ob) (E':Nat->Bool),K ⟨n,B_ ops R' env (fun _=>true) ops.size,S' ops.size⟩/\S' 0=S 0/\(∀ e,E' e=true->e<ops.size)/\∀ (i:Nat) (o:Oper),ops[i]?=some o->V4 P n ops x env R' S' E' ops.size i o:=by
   intro r st' eff H' pd' hv hI'
   rw[put] at hv
   have e2:st'=(fun j=>if j<=k then S j else st') (k+1):=(aR AOl).symm
   rw[e2] at hv
   obtain⟨R',S',E',x1,x2,x3,x4⟩:=ih (k+1) _ _ _ H' pd' (fun j=>by
    have:=hl (j+1);simpa [Nat.add_assoc,Nat.add_comm 1 j] using this) (by simp only[ag] at hk; omega) hI' hv
   exact⟨R',S',E',x1,by simpa using x2,x3,x4⟩
  have hag:∀ (r:AV) (i:Nat),i<=k->B_ ops (fun i=>if i=k then r else R i) env (fun _=>true) i=B_ ops R env (fun _=>true) i:=fun r i hi=>Ut i fun j hj=>AOn
  have keepSpec:∀ (r:AV) (st':List Ob) (eff:Bool),(eff=true->∀ (i:Nat) (oi:Oper),i<k->ops[i]?=some oi->oW ops (B_ ops R env (fun _=>true) i) oi.guard=some true->E i=false->(∀ e oe,ops[e]?=some oe->E e=true->Bj oe i=false)->Bj o i=false->C9 P ⟨n,B_ ops R env (fun _=>true) i,st'⟩ oi.op (R i)) ->
    ∀ (i:Nat) (oi:Oper),i<k->ops[i]?=some oi->V4 P n ops x env (fun i=>if i=k then r else R i) (fun j=>if j<=k then S j else st') (fun i=>if i=k then eff else E i) (k+1) i oi:=by
   intro r st' eff hnew i oi hi hoi
   obtain⟨b,s1,s2,s3,s4⟩:=hI.spec i oi hi hoi
   have hne:¬ i=k:=AOl
   have hle:i<=k:=AOl
   have hle1:i+1<=k:=AOl
   refine⟨b,by rw[hag r i hle]; exact s1,fun hb=>?_,fun hb he=>?_,fun hb he=>?_⟩
   .simpa only[hne,aL,hle,hle1,aO] using s2 hb
   .simp only[hne,aL] at he
    obtain⟨y1,y2,y3⟩:=s3 hb he
    refine⟨y1,by simp only[hne,aL,hle,hle1,aO]; rw[hag r i hle]; exact y2,fun e hee hei hno=>(y3 e ?_ hei fun e' z1 z2=>?_).imp id fun⟨p,hp1,hp2,hp3⟩=>⟨p,hp1, ?_,hp3⟩⟩
    .have:¬ e=k:=by omega
     simpa only[this,aL] using hee
    .have:=hno e' z1 z2
     have h2:¬ e'=k:=AOl
     simpa only[h2,aL] using this
    .have:¬ p=k:=by have:=hI.below p hp2; omega
     simpa only[this,aL] using hp2
   .simp only[hne,aL] at he
    obtain⟨y1,y2⟩:=s4 hb he
    refine⟨by simpa only[hle,hle1,aO] using y1,fun q hbd hq hpast hfut=>?_⟩
    simp only[hne,aL]
    rw[hag r i hle]
    have hpast':∀ e,E e=true->Bj oi e=true->e<q:=fun e hee hbt=>hpast e (by
     have:¬ e=k:=by have:=hI.below e hee; omega
     simpa only[this,aL] using hee) hbt
    by_cases hqk:q<=k
    .simp only[hqk,aO]
     refine y2 q ?_ hqk hpast' fun e oe hek hoe hee hbt=>hfut e oe AOl hoe (by
      have:¬ e=k:=AOl;simpa only[this,aL] using hee) hbt
     rcases hbd with rfl | ⟨e,hee,rfl⟩
     .exact .inl rfl
     .have:¬ e=k:=by omega
      simp only[this,aL] at hee
      exact .inr ⟨e,hee,rfl⟩
    .have hq2:q=k+1:=by omega
     subst hq2
     have hek:eff=true:=by
      rcases hbd with h0 | ⟨e,hee,h1⟩
      .omega
      .have:e=k:=by omega
       subst this;simpa using hee
     simp only[hqk,aL]
     subst hb
     refine hnew hek i oi hi hoi s1 he (fun e oe hoe hee=>?_) ?_
     .cases hc:Bj oe i with
      | false=>rfl
      | true =>
       have h2:=hI.below e hee
       have:=hfut e oe AOl hoe (by
        have:¬ e=k:=AOl;simpa only[this,aL] using hee) hc
       omega
     .cases hc:Bj o i with
      | false=>rfl
      | true =>
       have:=hfut k o AOl ho (by simpa using hek) hc
       omega
  have readInv:∀ (r:AV) (pd':List PE),(∀ p∈pd,p∈pd')->(oW ops (B_ ops R env (fun _=>true) k) o.guard=some true->(⟨k,o.op,B_ ops R env (fun _=>true) k,r⟩:PE)∈pd') ->
    V4 P n ops x env (fun i=>if i=k then r else R i) (fun j=>if j<=k then S j else S k) (fun i=>if i=k then false else E i) (k+1) k o->InvE P n ops x env (k+1) (fun i=>if i=k then r else R i) (fun j=>if j<=k then S j else S k) (fun i=>if i=k then false else E i) H pd':=by
   intro r pd' hpd hnewp hs
   have hEE:∀ e,(if e=k then false else E e)=true↔E e=true:=fun e=>by
    by_cases h':e=k
    .subst h'; simp[hEk e (aG _)]
    .simp[h']
   have hBd:∀ q,Bd (fun i=>if i=k then false else E i) q↔Bd E q:=fun q=>by unfold Bd;simp only[hEE]
   refine⟨fun e he=>?_,fun q hq=>?_,fun h hh=>(hBd _).2 (hI.histB h hh), ?_,fun i oi hi hoi hg hE0 hno=>?_,fun i oi hi hoi=>?_⟩
   .have:=hI.below e ((hEE e).1 he); omega
   .have hq':=(hBd q).1 hq
    have hqk:q<=k:=by
     rcases hq' with rfl | ⟨e,he,rfl⟩
     .omega
     .exact hI.below e he
    simp only[hqk,aO]
    exact hI.hist q hq'
   .obtain⟨q0,st0,H',e1,e2⟩:=hI.head
    exact⟨q0,st0,H',e1,fun e he=>e2 e ((hEE e).1 he)⟩
   .rcases bh i k with h' | h'
    .have hne:¬ i=k:=by omega
     simp only[hne,aL] at hE0 ⊢
     rw[hag r i AOl] at hg ⊢
     exact hpd _ (hI.pend i oi h' hoi hg hE0 fun e oe hoe hee=>hno e oe hoe ((hEE e).2 hee))
    .have:i=k:=by omega
     subst this
     rw[ho] at hoi
     cases hoi
     rw[hag r i (aG _)] at hg ⊢
     simpa using hnewp hg
   .rcases bh i k with h' | h'
    .exact keepSpec r (S k) false (fun h=>AP8) i oi h' hoi
    .have:i=k:=by omega
     subst this
     rw[ho] at hoi
     cases hoi
     exact hs
  split at h
  .rename_i b hb
   cases b with
   | false =>
    refine go .undef (S k) false H pd (h.2 rfl) (readInv .undef pd (fun _ h=>h) (fun hg=>by rw[hb] at hg; cases hg) ?_)
    unfold V4
    refine⟨false,by rw[hag _ k (aG _)]; exact hb,fun _=>⟨AOm,AOm,hSk (S k)⟩,fun h=>Bool.noConfusion h,fun h=>Bool.noConfusion h⟩
   | true =>
    have h1:=h.1 rfl
    cases heff:Yc o.op with
    | false =>
     obtain⟨r,hr1,hr2,hr3⟩:=h1.2 heff
     refine go r (S k) false H _ hr3 (readInv r _ (fun p hp=>abg _ hp) (fun _=>List.mem_cons_self ..) ?_)
     unfold V4
     refine⟨true,by rw[hag _ k (aG _)]; exact hb,fun h=>Bool.noConfusion h,fun _ he=>by simp at he,fun _ _=>⟨hSk (S k),fun q hbd hq hpast hfut=>?_⟩⟩
     have hbd':Bd E q:=by
      rcases hbd with rfl | ⟨e,hee,rfl⟩
      .exact .inl rfl
      .by_cases h':e=k
       .simp[h'] at hee
       .simp only[h',aL] at hee;exact .inr ⟨e,hee,rfl⟩
     have hqk:q<=k:=by
      rcases hbd' with rfl | ⟨e,he,rfl⟩
      .omega
      .exact hI.below e he
     have hpast':∀ e,E e=true->Bj o e=true->e<q:=fun e hee hbt=>hpast e (by
      have:¬ e=k:=by have:=hI.below e hee; omega
      simpa only[this,aL] using hee) hbt
     simp only[hqk,aO]
     rw[hag r k (aG _)]
     exact kM hr2 (q,S q) (hI.hist q hbd') (kL hpast' hI.histB)
    | true =>
     have h2:=h1.1 heff
     cases hch:Xm x k o H with
     | false=>exact(h2.2 hch).elim
     | true =>
      have h3:=h2.1 hch
      have h4:∃ y st',FM P ⟨n,B_ ops R env (fun _=>true) k,S k⟩ o.op y st'/\AFh P o ⟨n,B_ ops R env (fun _=>true) k,S k⟩ H pd k (vpE P x ops K l (k+1)) y st':=by
       generalize hop:o.op=op at h3;cases op with
       | call c =>
        simp only[ADy,Ns,uZ,UI] at h3
        split at h3
        .rename_i f hcl
         rcases h3 with h3 | h3 | ⟨y,st',h3,hk2⟩
         rotate_right
         .refine⟨y,st', ?_,hk2⟩
          simp only[FM,hcl]
          exact .inr (.inr h3)
         .split at h3
          .rename_i args st1 hf
           obtain⟨rs,hc,hk2⟩:=h3
           refine⟨_,_, ?_,hk2⟩
           simp only[FM,hcl]
           exact .inl ⟨args,rs,st1,hf,hc,rfl,rfl⟩
          .exact h3.elim
         .obtain⟨args,rs,hf,hcl2,hc,hk2⟩:=h3
          refine⟨_,_, ?_,hk2⟩
          simp only[FM,hcl]
          exact .inr (.inl ⟨args,rs,hf,hcl2,hc,rfl,rfl⟩)
        .rename_i hne
         exact ANV
       | _ =>
        simp only[ADy,UI] at h3
        exact ANV
      obtain⟨y,st',g1,g2,g3⟩:=h4
      refine go y st' true _ _ g3 ?_
      have hEE:∀ e,(if e=k then true else E e)=true↔(E e=true\/e=k):=fun e=>by
       by_cases h':e=k
       .simp[h']
       .simp[h']
      refine⟨fun e he=>?_,fun q hq=>?_,fun h hh=>?_,⟨k+1,st',H,rfl,fun e he=>?_⟩,fun i oi hi hoi hg hE0 hno=>?_,fun i oi hi hoi=>?_⟩
      .exact AOR
      .rcases hq with rfl | ⟨e,he,rfl⟩
       .simp only[aq,aO]
        exact abg _ (hI.hist 0 (.inl rfl))
       .rcases(hEE e).1 he with h' | h'
        .have:=hI.below e h'
         have h2:e+1<=k:=AOl
         simp only[h2,aO]
         exact abg _ (hI.hist _ (.inr ⟨e,h',rfl⟩))
        .subst h'
         have h2:¬ e+1<=e:=AOl
         simp only[h2,aL]
         exact List.mem_cons_self ..
      .rcases TM.1 hh with rfl | hh
       .exact .inr ⟨k,AOm,rfl⟩
       .rcases hI.histB h hh with h0 | ⟨e,he,h1⟩
        .exact .inl h0
        .exact .inr ⟨e,(hEE e).2 (.inl he),h1⟩
      .exact AOR
      .have hlt:i<k:=by
        rcases bh i k with h' | h'
        .exact h'
        .have:i=k:=by omega
         subst this
         simp at hE0
       have hne:¬ i=k:=AOl
       simp only[hne,aL] at hE0 ⊢
       rw[hag y i AOl] at hg ⊢
       refine kP (hI.pend i oi hlt hoi hg hE0 fun e oe hoe hee=>hno e oe hoe ((hEE e).2 (.inl hee))) ?_
       exact hno k o ho AOm
      .rcases bh i k with h' | h'
       .refine keepSpec y st' true (fun _ j oj hj hoj hg hE0 hno hbo=>?_) i oi h' hoi
        exact kN g2 _ (hI.pend j oj hj hoj hg hE0 hno) hbo
       .have:i=k:=by omega
        subst this
        rw[ho] at hoi
        cases hoi
        unfold V4
        refine⟨true,by rw[hag y i (aG _)]; exact hb,fun h=>Bool.noConfusion h,fun _ _=>⟨heff, ?_,fun e hee hei hno=>?_⟩,fun _ he=>by simp at he⟩
        .have h2:¬ i+1<=i:=by omega
         simp only[aG,aO,h2,aL]
         rw[hag y i (aG _)]
         exact g1
        .have hne:¬ e=i:=by omega
         simp only[hne,aL] at hee
         obtain⟨q0,st0,H',e1,e2⟩:=hI.head
         have hb0:=hI.histB (q0,st0) (by rw[e1]; exact List.mem_cons_self ..)
         rw[e1] at hch
         rcases hb0 with h0 | ⟨e0,he0,h1⟩
         .have:=e2 e hee
          simp only at h0
          omega
         .simp only at h1
          have hlt:=e2 e hee
          have hi0:=hI.below e0 he0
          have hold:chainB o ((q0,st0)::H')=true->Bj o e=true:=fun hch=>by
           by_cases heq:e=e0
           .subst heq;simp only[chainB,h1] at hch;exact hch
           .have:=hno e0 AOl hi0;have hne0:¬ e0=i:=AOl;simp only[hne0,aL] at this;rw[he0] at this; cases this
          cases x with
          | none=>exact .inl (hold hch)
          | some jp =>
           obtain⟨j,p⟩:=jp
           simp only[Xm] at hch
           by_cases hij:i=j
           .subst hij
            simp only[aO,oz,aQ] at hch
            have hp:e0=p:=AOl
            subst hp
            have hne0:¬ e0=i:=AOl
            exact .inr ⟨e0,rfl,by simp only[hne0,aL]; exact he0,AOl⟩
           .rw[aR hij] at hch
            exact .inl (hold hch)
  .exact h.elim
theorem V5 {ops:Array Oper} {x:Option (Nat×Nat)} (hx:yZ ops x=true) (hok:FY s.n ops=true) (hops:(ops.toList.all fun o=>o.op.operands.toList.all Ap)=true) (h:Core w0 St0 St β s a w) {K:MS->Prop} (hK:vpE P x ops K ops.toList 0 [(0,s.st)] [] s) :
  wpAny P .any ops (fun e a' w'=>e = .normal/\∃ s',K s'/\s'.n=s.n/\Sim w0 St0 s' a' w') ops.size (Array.replicate ops.size false) a { w with drawn:=w.drawn+1 }:=by
 have hI:InvE P s.n ops x s.env 0 (fun _=>.un) (fun _=>s.st) (fun _=>false) [(0,s.st)] []:=by
  refine⟨fun e he=>?_,fun q hq=>?_,fun h hh=>?_,⟨0,s.st,[],rfl,fun e he=>?_⟩,fun i o hi=>?_,fun i o hi=>?_⟩
  .cases he
  .rcases hq with rfl | ⟨e,he,_⟩
   .simp
   .cases he
  .simp only[TM,List.not_mem_nil,or_false] at hh;subst hh;exact .inl rfl
  .cases he
  .omega
  .omega
 obtain⟨R,S,E,hKs,hS0,hE,hR⟩:=yh (K:=K) hok s.env ops.toList 0 (fun _=>.un) (fun _=>s.st) (fun _=>false) [(0,s.st)] [] (fun j=>AOm) AOm hI (by simpa [B_] using hK)
 have hgrow:Core w0 St0 St β s a { w with drawn:=w.drawn+1 }:=h.grow (w':={ w with drawn:=w.drawn+1 }) ⟨rfl,rfl,rfl,aG _,fun _ _=>rfl⟩ (fun _ _ h=>h) (fun _ _ h _=>h) h.stIn
 have hno:∀ i,(Array.replicate ops.size false).getD i false=false:=fun i=>by simp[aa5];split<;>rfl
 refine AB4 (P:=P) (n:=s.n) hok hops s.env R S E x hx hR hE _ (fun a w hs=>⟨rfl,_,hKs,rfl,hs⟩) ops.size (Array.replicate ops.size false) a _ AOm ?_ ?_ (.inl ⟨0,.inl rfl,fun e he=>?_, ?_⟩)
 .grind
 .grind
 .grind
 .refine⟨St,β,hgrow.congr rfl (by rw[hS0]) fun t=>?_⟩
  grind [Bg]
theorem Ye {ops:Array Oper} (hok:FY s.n ops=true) (hops:(ops.toList.all fun o=>o.op.operands.toList.all Ap)=true) (h:Core w0 St0 St β s a w) {K:MS->Prop} (hv:AD0 P ops s K) :
  ∀ L,IC ops (Array.replicate ops.size false) L->wpOps P ops (fun e a' w'=>e = .normal/\∃ s',K s'/\s'.n=s.n/\Sim w0 St0 s' a' w') L a { w with drawn:=w.drawn+1 }:=by
 intro L hL
 rcases hv with ⟨ls,st',hf,hv⟩ | ⟨x,hx,hv⟩ | hv
 .obtain⟨St1,h1⟩:=dW ls s.st st' St h hf
  exact QR L _ _ _ _ (Ya AOl hops h1 hv) hL
 .exact QR L _ _ _ _ (V5 hx hok hops h hv) hL
 .exact QR L _ _ _ _ (hv w0 St0 St β a w h) hL
theorem Oj {K:MS->Prop} (h:Core w0 St0 St β s a w):∀ (d:Nat) (ops:Array Oper),FY s.n ops=true->(ops.toList.all fun o=>o.op.operands.toList.all Ap)=true->DrawX P d ops s K ->
  ∀ L,IC ops (Array.replicate ops.size false) L->wpOps P ops (fun e a' w'=>e = .normal/\∃ s',K s'/\s'.n=s.n/\Sim w0 St0 s' a' w') L a { w with drawn:=w.drawn+1 }
 | 0,_,hok,hops,hv=>Ye hok hops h hv
 | _+1,_,hok,hops,.inl hv=>Ye hok hops h hv
 | d+1,_,hok,hops,.inr hx=>by
  obtain⟨l,e1,e2,σ1,σ2,js,e,hne,h1,k1,k2⟩:=hx;subst e;obtain⟨_,_,d1,o1⟩:=Rl h1;rcases k2 with ⟨hp,hl⟩ | ⟨h2,k2⟩
  .exact AHL hne hok hp hl h1 (Oj h d _ d1 o1 k1)
  .obtain⟨_,_,d2,o2⟩:=Rl h2;exact split_ok hne hok h1 h2 (Oj h d _ d1 o1 k1) (Oj h d _ d2 o2 k2)
theorem AAi (hm:P.follows .mixedOrders=true) (n:Nat):∀ (c:Code),codeOk n c=true->∀ (s:MS) (Q:Ex->MS->Prop) (a:Act) (w:World),s.n=n->vp P c s Q->Sim w0 St0 s a w->c.wp P (AJJ w0 St0 n Q) a w:=by
 intro c;induction c with
 | skip=>intro _ s Q a w hn hv hs; exact wp_skip ⟨.normal,s,rfl,hv,hn,hs⟩
 | region id ops draw =>
  intro hc s Q a w hn hv hs
  cases draw with
  | false =>
   simp only[vp] at hv
   simp only[codeOk] at hc
   exact wp_region_list (yf ops _ (Q .normal) n ops.toList 0 (fun j=>AOm) hc s a w hn hs hv fun s' a' w' hK hn' hs'=>⟨.normal,s',rfl,hK,hn',hs'⟩)
  | true =>
   simp only[vp] at hv
   simp only[codeOk,ar] at hc
   obtain⟨d,hv⟩:=hv
   obtain⟨St,β,h⟩:=hs
   refine wp_mono (ZB hm (Oj h d ops AOo hc.1 hv)) ?_
   rintro e a' w' ⟨rfl,s',hK,hn',hs'⟩
   exact⟨.normal,s',rfl,hK,hn'.trans hn,hs'⟩
 | seq x y ihx ihy =>
  intro hc s Q a w hn hv hs
  simp only[codeOk,ar] at hc
  simp only[vp] at hv
  refine wp_seq (wp_mono (ihx hc.1 s _ a w hn hv hs) ?_)
  rintro e a' w' ⟨ex,s',rfl,hq,hn',hs'⟩
  cases ex with
  | normal=>exact ihy hc.2 s' Q a' w' hn' hq hs'
  | exit i=>exact⟨.exit i,s',rfl,hq,hn',hs'⟩
  | ret=>exact⟨.ret,s',rfl,hq,hn',hs'⟩
 | cond c x y ihx ihy =>
  intro hc s Q a w hn hv hs
  simp only[codeOk,ar] at hc
  simp only[vp,AAb] at hv
  split at hv
  .rename_i b hev
   obtain⟨St,β,h⟩:=hs
   have he:=CU h c hc.1.1
   rw[hev] at he
   obtain⟨hval,_⟩:=O8 he
   exact wp_cond_split hval (fun hb=>ihx hc.1.2 s Q a w hn (hv.1 hb) ⟨St,β,h⟩) (fun hb=>ihy hc.2 s Q a w hn (hv.2 hb) ⟨St,β,h⟩)
  grind
 | block id x ih =>
  intro hc s Q a w hn hv hs
  simp only[codeOk] at hc
  simp only[vp] at hv
  refine wp_block (wp_mono (ih hc s _ a w hn hv hs) ?_)
  rintro e a' w' ⟨ex,s',rfl,hq,hn',hs'⟩
  cases ex with
  | normal=>exact⟨.normal,s',rfl,hq,hn',hs'⟩
  | exit i =>
   simp only[Ex.of,Exit.inBlock]
   simp only[AB0] at hq
   by_cases e:i=id
   .simp only[e,aO] at hq ⊢
    exact⟨.normal,s',rfl,hq,hn',hs'⟩
   .simp only[e,aL] at hq ⊢
    exact⟨.exit i,s',rfl,hq,hn',hs'⟩
  | ret=>exact⟨.ret,s',rfl,hq,hn',hs'⟩
 | loop x ih =>
  intro hc s Q a w hn hv hs
  simp only[codeOk] at hc
  simp only[vp] at hv
  obtain⟨H1,H2,A,f,p,μ,hH,⟨x0,t1,t2,hp0⟩,hround⟩:=hv
  refine wp_loop_ghost (fun m a w=>∃ y,μ y=m/\p y/\(f y).n=n/\Sim w0 St0 (f y) a w) (μ x0) ⟨x0,rfl,hp0, ?_, ?_⟩ ?_
  .exact(hH _ _ t1 t2).1.trans hn
  .obtain⟨St,β,h⟩:=hs
   exact(hH _ _ t1 t2).2 _ _ _ _ _ _ h
  .rintro m a w ⟨y,rfl,hp,hny,hsy⟩
   refine wp_mono (ih hc (f y) _ a w hny (hround y hp) hsy) ?_
   rintro e a' w' ⟨ex,s',rfl,hq,hn',hs'⟩
   cases ex with
   | normal =>
    obtain⟨z,u1,u2,u3,u4⟩:=hq
    obtain⟨St,β,h⟩:=hs'
    refine⟨μ z,u4,z,rfl,u3, ?_, ?_⟩
    .exact(hH _ _ u1 u2).1.trans hn'
    .exact(hH _ _ u1 u2).2 _ _ _ _ _ _ h
   | exit i=>exact⟨.exit i,s',rfl,hq,hn',hs'⟩
   | ret=>exact⟨.ret,s',rfl,hq,hn',hs'⟩
 | exit id=>intro _ s Q a w hn hv hs; exact wp_exit ⟨.exit id,s,rfl,hv,hn,hs⟩
 | scope x ih =>
  intro hc s Q a w hn hv hs
  simp only[codeOk] at hc
  simp only[vp] at hv
  refine wp_scope_straight (wp_mono (ih hc s Q a w hn hv hs) ?_)
  rintro e a' w' ⟨ex,s',rfl,hq,hn',hs'⟩
  cases ex with
  | normal=>exact⟨.normal,s',rfl,hq,hn',hs'⟩
  | exit i=>exact⟨.exit i,s',rfl,hq,hn',hs'⟩
  | ret=>exact⟨.ret,s',rfl,hq,hn',hs'⟩
 | ret=>intro _ s Q a w hn hv hs; exact wp_ret ⟨.ret,s,rfl,hv,hn,hs⟩
 | _=>intro _ s Q a w _ hv _; simp only[vp] at hv
theorem uo {xs:List (List Cl)} {sz:Nat} (hl:∀ x∈xs,x.length=sz):∀ {k:Nat} {c:Cl},xs.flatten[k]?=some c->∃ (i j:Nat) (x:List Cl),xs[i]?=some x/\x[j]?=some c/\k=i*sz+j/\j<sz:=by
 induction xs with
 | nil=>intro k c h; simp at h
 | cons x xs ih =>
  intro k c h
  have hx:x.length=sz:=hl x AOm
  simp only[XV] at h
  rcases bh k x.length with h' | h'
  .rw[aY h'] at h
   exact⟨0,k,x,AOm,h,AOl,AOl⟩
  .rw[aS h'] at h
   obtain⟨i,j,y,q1,q2,q3,q4⟩:=ih (fun y hy=>hl y AP_) h
   exact⟨i+1,j,y,by simpa using q1,q2,by rw[dE]; omega,q4⟩
theorem AHN {i i' j j' sz:Nat} (hj:j<sz) (hj':j'<sz) (h:i*sz+j=i'*sz+j'):i=i'/\j=j':=by
 have h1:(i*sz+j)/sz=i:=by rw[Nat.mul_comm,Nat.mul_add_div AOl,Nat.div_eq_of_lt hj]; rfl
 have h2:(i'*sz+j')/sz=i':=by rw[Nat.mul_comm,Nat.mul_add_div AOl,Nat.div_eq_of_lt hj']; rfl
 have:i=i':=by rw[<- h1,h,h2]
 subst this;exact⟨rfl,AOl⟩
def BR (l:Nat) (st:List Ob):List Ob:=match st[l]? with
 | some ob=>st.set l ⟨ob.ty,ob.sz,ob.xs,ob.wr,false⟩
 | none=>st
def Yf:List Nat->List Ob->List Ob
 | [],st=>st
 | l::ls,st=>Yf ls (BR l st)
theorem AD4 (l:Nat) (st:List Ob) (l':Nat):(BR l st)[l']?=(st[l']?).map fun ob=>if l=l' then⟨ob.ty,ob.sz,ob.xs,ob.wr,false⟩ else ob:=by unfold BR;grind
theorem dZ:∀ (ls:List Nat) (st:List Ob) (l':Nat),(Yf ls st)[l']?=(st[l']?).map fun ob=>if l'∈ls then⟨ob.ty,ob.sz,ob.xs,ob.wr,false⟩ else ob
 | [],st,l'=>by simp[Yf]
 | l::ls,st,l'=>by rw[Yf,dZ ls,AD4];grind
def Aa (used:List Nat) (l0 i:Nat) (row':List Cl) (ob:Ob) (st:List Ob):List Ob:=Yf used (st.set l0 ⟨ob.ty,ob.sz,ob.xs.set i row',ob.wr,ob.live⟩)
theorem Core.closeRow (h:Core w0 St0 St β s a w) {l0 i:Nat} {ob:Ob} {row row':List Cl} {used:List Nat} (hob:DF s.st l0=some ob) (hrw:ob.xs[i]?=some row) (hwr:ob.wr=true) (hl0:l0∉used)
  (ho:OwnL s.st row row' [l0] fun us=>∀ l∈us,l=l0\/l∈used):Core w0 St0 St β ⟨s.n,s.env,Aa used l0 i row' ob s.st⟩ a w:=by
 obtain⟨hl,hlive⟩:=Bo hob
 obtain⟨φ,hφ⟩:=h.own
 have hi:i<ob.xs.length:=(az.1 hrw).1
 obtain⟨R,hR⟩:∃ R,R=ob.xs:=⟨_,rfl⟩
 have hxs:ob.xs=R.set i row:=by
  subst hR;apply abl;intro m;rw[wu];by_cases e:i=m
  .grind
  .simp[e]
 have hi:i<R.length:=by rw[hR]; exact hi
 have hlN:l0<s.st.length:=(az.1 hl).1
 have hst0:∀ l,(Aa used l0 i row' ob s.st)[l]?=((if l0=l then some (⟨ob.ty,ob.sz,R.set i row',ob.wr,ob.live⟩:Ob) else s.st[l]?)).map fun o=>if l∈used then⟨o.ty,o.sz,o.xs,o.wr,false⟩ else o:=fun l=>by unfold Aa;grind [dZ]
 have hget:∀ (l:Nat) (o2:Ob),(Aa used l0 i row' ob s.st)[l]?=some o2->o2.live=true->l∉used/\((l=l0/\o2=⟨ob.ty,ob.sz,R.set i row',ob.wr,ob.live⟩)\/(l≠l0/\s.st[l]?=some o2)):=by
  intro l o2 h2 hlv;rw[hst0 l] at h2;by_cases e:l0=l
  .grind
  .grind
 have hmk:∀ (l:Nat) (o2:Ob),s.st[l]?=some o2->∃ o3,(Aa used l0 i row' ob s.st)[l]?=some o3/\(o3.live=true->o2.live=true)/\(l∉used->o3.live=o2.live)/\o3.sz=o2.sz/\o3.ty=o2.ty/\o3.xs.length=o2.xs.length/\(o2.xs = []->o3.xs = []):=by
  intro l o2 h2;rw[hst0 l];by_cases e:l0=l
  .grind
  .grind
 have hr:∀ (l:Nat) (u:Value),BQ w s.st β l u->BQ w (Aa used l0 i row' ob s.st) β l u:=by intro l u hu;unfold BQ at hu ⊢;exact ANC
 have hBB:∀ (c:Cl) (u:Value),RdB w St s.st β c u->RdB w St (Aa used l0 i row' ob s.st) β c u:=fun c u hu=>RdB.mono (fun _ _ h=>h) (fun _ _ _=>rfl) hr c u hu
 have hp:∀ l i2 off u,AVR w St s.st β (.lp l i2 off) u->AVR w St (Aa used l0 i row' ob s.st) β (.lp l i2 off) u:=by intro l i2 off u hu;simp only[AVR] at hu ⊢;exact ANC
 have hrow:(R.set i row)[i]?=some row:=by rw[wu]; simp[hi]
 have hrow':(R.set i row')[i]?=some row':=by rw[wu]; simp[hi]
 have hβcases:∀ b,β l0=some b->∃ (cs:Array Value),w.heap[b]?=some (.cells cs ob.ty (0,0))/\row.length=ob.sz/\row'.length=ob.sz/\(∀ x∈R.set i row',x.length=ob.sz) /\
   ∃ (used1:List Nat) (Φ:Nat->Nat->Prop),(∀ l∈used1,l=l0\/l∈used)/\(∀ (j:Nat) (c:Cl),row'[j]?=some c->∃ y,cs[i*ob.sz+j]?=some y/\RdO w St c y (Φ j))/\(∀ k x,Φ k x->∃ l,l≠l0/\l∈used1/\Fp s.st β φ l x/\∀ o2,s.st[l]?=some o2->o2.wr=true) /\
    (∀ k k' x,Φ k x->Φ k' x->k=k')/\∀ (k:Nat) (c:Cl),(R.set i row').flatten[k]?=some c->(∃ j,j<ob.sz/\k=i*ob.sz+j/\row'[j]?=some c)\/((∀ j,j<ob.sz->k≠i*ob.sz+j)/\ob.xs.flatten[k]?=some c):=by
  intro b hb
  obtain⟨_,_,cs,g1,g2,g3⟩:=h.obs l0 ob b hl hlive hb
  have hrl:row.length=ob.sz:=g2 row AOo
  have hcr:∀ (j:Nat) (c:Cl),row[j]?=some c->∃ y,cs[i*ob.sz+j]?=some y/\RdB w St s.st β c y:=fun j c hj=>g3 _ c (F6 g2 i j row c AOl hj)
  have hvs:∃ vs:List Value,vs.length=row.length/\∀ (j:Nat),j<row.length->vs[j]?=cs[i*ob.sz+j]?:=by refine⟨(List.range row.length).map fun j=>(cs[i*ob.sz+j]?).getD Go.undef,AOm,fun j hj=>?_⟩;obtain⟨y,hy,_⟩:=hcr j _ (am hj);simp[hj,hy]
  obtain⟨vs,hv1,hv2⟩:=hvs
  have hnow:∀ (j:Nat) (c:Cl),row[j]?=some c->HY c=false:=by
   have gen:∀ (xs ys:List Cl) (us:List Nat) (K:List Nat->Prop),OwnL s.st xs ys us K->∀ (j:Nat) (c:Cl),xs[j]?=some c->HY c=false:=by
    intro xs;induction xs with
    | nil=>grind
    | cons x xs ih =>
     intro ys us K ho j c hj
     cases ys with
     | nil=>simp[OwnL] at ho
     | cons y ys =>
      have pl:x=y/\AB y=true/\OwnL s.st xs ys us K->HY c=false:=by
       rintro⟨rfl,hp,hrest⟩;cases j with
       | zero=>grind [ab,ai,MC]
       | succ j=>grind
      cases y with
      | v z=>exact pl AO2
      | sl z=>exact pl AO2
      | ref z=>exact pl AO2
      | ow ty sz zs =>
       simp only[OwnL] at ho
       split at ho
       .rename_i l
        split at ho
        .exact AOG
        grind
       .exact AOG
       grind
   exact gen row row' [l0] _ ho
  obtain⟨used1,Φ,r1,r2,r3,r4,r5,r6⟩:=oq h hφ row row' vs [l0] _ hv1 (fun j c hj=>by
   obtain⟨y,hy,hr⟩:=hcr j c hj;exact⟨y,AOo,hr.toC (hnow j c hj)⟩) ho
  have hset:∀ x∈R.set i row',x.length=ob.sz:=fun x hx=>by grind
  refine⟨cs,g1,hrl,by rw[r3,hrl],hset,used1,Φ,r1,fun j c hj=>?_,fun k x hx=>?_,r6,fun k c hk=>?_⟩
  .grind
  .grind
  .obtain⟨i',j,x,q1,q2,q3,q4⟩:=uo hset hk
   grind [AHN,F6]
 exact {
  defers:=h.defers
  size:=h.size
  lim:=h.lim
  env:=fun k=>AVR.mono (fun _ _ h=>h) (fun _ _ _=>rfl) hr hp _ _ (h.env k)
  below:=h.below,st0:=h.st0,stOld:=h.stOld,stIn:=h.stIn
  obs:=fun l o2 b h2 hlv hβ=>by
   obtain⟨hlt,⟨rfl,rfl⟩ | ⟨hne,h3⟩⟩:=hget l o2 h2 hlv
   .obtain⟨q1,q2,_⟩:=h.obs l ob b hl hlive hβ;obtain⟨cs,g1,g2,g3,g4,used1,Φ,r1,r2,r3,r4,r5⟩:=hβcases b hβ;refine⟨q1,q2,cs,g1,g4,fun k c hk=>?_⟩;rcases r5 k c hk with ⟨j,hj,rfl,hc⟩ | ⟨_,hc⟩
    .obtain⟨y,hy,hr⟩:=r2 j c hc;exact⟨y,hy,hr.toB⟩
    .obtain⟨_,_,cs',p1,p2,p3⟩:=h.obs l ob b hl hlive hβ;grind
   .obtain⟨q1,q2,cs,g1,g2,g3⟩:=h.obs l o2 b h3 hlv hβ;exact AN9
  nil:=fun l o2 h2 hlv hβ=>by
   obtain⟨hlt,⟨rfl,rfl⟩ | ⟨hne,h3⟩⟩:=hget l o2 h2 hlv
   .have:=h.nil l ob hl hlive hβ;grind
   .exact h.nil l o2 h3 hlv hβ
  inj:=fun l l' o1 o2 b h1 h2 h3 h4 h5 h6=>by
   have key:∀ (l:Nat) (o1:Ob),(Aa used l0 i row' ob s.st)[l]?=some o1->o1.live=true->∃ o,s.st[l]?=some o/\o.live=true:=by
    intro l o1 h1 h3;obtain⟨_,⟨rfl,rfl⟩ | ⟨_,q⟩⟩:=hget l o1 h1 h3
    .grind
    .grind
   exact AM4
  sep:=fun l o2 b o h2 hlv hβ hbo=>by
   obtain⟨hlt,⟨rfl,rfl⟩ | ⟨hne,h3⟩⟩:=hget l o2 h2 hlv
   .have:=h.sep l ob b o hl hlive hβ hbo;grind
   .exact h.sep l o2 b o h3 hlv hβ hbo
  own:=by
   cases hβ0:β l0 with
   | none =>
    have:=h.nil l0 ob hl hlive hβ0
    grind
   | some b0 =>
    obtain⟨cs,g1,g2,g3,g4,used1,Φ,r1,r2,r3,r4,r5⟩:=hβcases b0 hβ0
    have hΦN:∀ k x,Φ k x->∃ l,l∈used/\Fp s.st β φ l x/\∀ o2,s.st[l]?=some o2->o2.wr=true:=fun k x hx=>by grind
    refine⟨fun l k x=>(l=l0/\∃ j,j<ob.sz/\k=i*ob.sz+j/\Φ j x)\/(l∉used/\(l=l0->∀ j,j<ob.sz->k≠i*ob.sz+j)/\φ l k x), ?_, ?_, ?_⟩
    .intro l o2 b k c h2 hlv hβ hk hc
     obtain⟨hlt,⟨rfl,rfl⟩ | ⟨hne,h3⟩⟩:=hget l o2 h2 hlv
     .rw[hβ0] at hβ
      cases hβ
      rcases r5 k c hk with ⟨j,hj,rfl,hcj⟩ | ⟨hnj,hck⟩
      .obtain⟨y,hy,hr⟩:=r2 j c hcj
       exact⟨y,by simp[World.cell?,g1,hy],RdO.mono (fun _ _ h=>h) (fun _ _ _=>rfl) c y _ _ (fun x hx=>.inl ⟨rfl,j,hj,rfl,hx⟩) (fun _ _=>rfl) hr⟩
      .obtain⟨u,hu,hr⟩:=hφ.1 l ob b0 k c hl hlive hβ0 hck hc
       exact⟨u,hu,RdO.mono (fun _ _ h=>h) (fun _ _ _=>rfl) c u _ _ (fun x hx=>.inr ⟨hlt,fun _=>hnj,hx⟩) (fun _ _=>rfl) hr⟩
     .obtain⟨u,hu,hr⟩:=hφ.1 l o2 b k c h3 hlv hβ hk hc
      exact⟨u,hu,RdO.mono (fun _ _ h=>h) (fun _ _ _=>rfl) c u _ _ (fun x hx=>.inr ⟨hlt,fun e=>absurd e hne,hx⟩) (fun _ _=>rfl) hr⟩
    .rintro l k x (⟨rfl,j,hj,rfl,hx⟩ | ⟨hlt,hnj,hx⟩)
     .obtain⟨l2,q1,q2,q3⟩:=hΦN j x hx
      obtain⟨t1,t2,t3⟩:=Vo h hφ q2 q3
      obtain⟨o3,p1,_,p2,_⟩:=hmk l ob hl
      refine⟨⟨o3,b0,p1,AOo,hβ0⟩,t1,fun h=>h,t2,t3,fun l' o2 h2 hlv hb=>?_⟩
      obtain⟨hlt',hcase⟩:=hget l' o2 h2 hlv
      have:Fp s.st β φ l' x:=by
       rcases hcase with ⟨rfl,rfl⟩ | ⟨_,q⟩
       .exact⟨ob,hl,hlive,.inl hb⟩
       .exact⟨o2,q,hlv,.inl hb⟩
      have:=Ji h hφ q2 this
      grind
     .obtain⟨⟨o2,b,p1,p2,p3⟩,q1,q2,q3,q4,q5⟩:=hφ.2.1 l k x hx
      obtain⟨o3,s1,_,s2,_⟩:=hmk l o2 p1
      refine⟨⟨o3,b,s1,AOo,p3⟩,q1,q2,q3,q4,fun l' o4 h4 hlv=>?_⟩
      grind
    .rintro l l' k k' x (⟨rfl,j,hj,rfl,hx⟩ | ⟨hlt,hnj,hx⟩) (⟨rfl,j',hj',rfl,hx'⟩ | ⟨hlt',hnj',hx'⟩)
     .grind
     .obtain⟨l2,q1,q2,_⟩:=hΦN j x hx
      obtain⟨⟨o2,b,p1,p2,p3⟩,_⟩:=hφ.2.1 l' k' x hx'
      have:=Ji h hφ q2 ⟨o2,p1,p2,.inr ⟨k',hx'⟩⟩
      grind
     .obtain⟨l2,q1,q2,_⟩:=hΦN j' x hx'
      obtain⟨⟨o2,b,p1,p2,p3⟩,_⟩:=hφ.2.1 l k x hx
      have:=Ji h hφ q2 ⟨o2,p1,p2,.inr ⟨k,hx⟩⟩
      grind
     grind }
theorem yj {l N:Nat} (h:N<=l) (st:List Ob):(BR l st).take N=st.take N:=by
 unfold BR;split
 .rw[List.take_set_of_le h]
 .rfl
theorem df {N:Nat}:∀ (used:List Nat) (_:∀ l∈used,N<=l) (st:List Ob),(Yf used st).take N=st.take N
 | [],_,st=>rfl
 | l::ls,h,st=>by rw[Yf,df ls (fun x hx=>h x AP3),yj (h l AOm)]
theorem OwnL.mono {st:List Ob}:∀ (xs ys:List Cl) (us:List Nat) (K K':List Nat->Prop),(∀ us',(∀ l∈us',l∈us\/l<st.length)->K us'->K' us')->OwnL st xs ys us K->OwnL st xs ys us K'
 | [],[],us,K,K',h,ho=>h us (fun l hl=>.inl hl) ho
 | [],y::ys,_,_,_,_,ho=>by cases y<;>simp[OwnL] at ho
 | x::xs,[],_,_,_,_,ho=>AQZ
 | x::xs,y::ys,us,K,K',h,ho=>by
  cases y with
  | ow ty sz zs =>
   cases x with
   | ref l =>
    simp only[OwnL] at ho ⊢
    split at ho
    .rename_i ob hob
     obtain⟨h1,h2,h3,h4,h5,h6,h7⟩:=ho
     have hl:l<st.length:=by obtain⟨hl,_⟩:=Bo hob;exact(az.1 hl).1
     exact⟨h1,h2,h3,h4,h5,h6,OwnL.mono xs ys _ K K' (fun us' hu hk=>h us' (fun m hm=>by
      rcases hu m hm with q | q
      .rcases TM.1 q with rfl | q
       .exact .inr hl
       .exact .inl q
      .exact .inr q) hk) h7⟩
    .exact ho.elim
   | v x =>
    cases x with
    | slice a n c =>
     cases a with
     | none =>
      match n,c,ho with
      | 0,0,ho=>simp only[OwnL] at ho ⊢; exact⟨ho.1,OwnL.mono xs ys us K K' h ho.2⟩
      | 0,c+1,ho=>simp[OwnL] at ho
      | n+1,_,ho=>simp[OwnL] at ho
     | some a=>simp[OwnL] at ho
    | _=>simp[OwnL] at ho
   | _=>simp[OwnL] at ho
  | v y=>simp only[OwnL] at ho ⊢; exact⟨ho.1,ho.2.1,OwnL.mono xs ys us K K' h ho.2.2⟩
  | sl y=>simp only[OwnL] at ho ⊢; exact⟨ho.1,ho.2.1,OwnL.mono xs ys us K K' h ho.2.2⟩
  | ref y=>simp only[OwnL] at ho ⊢; exact⟨ho.1,ho.2.1,OwnL.mono xs ys us K K' h ho.2.2⟩
def Ol (P:Program) (s:MS):List ResultVar->Option (List AV)
 | []=>some []
 | .tmp t::r=>if t<1000000 then match Ol P s r with
  | some xs=>some (CG s.env t::xs)
  | none=>none
  else none
 | .cell t T::r=>if t<1000000 then match I4 P s (.load T (.tmp t)),Ol P s r with
  | some x,some xs=>some (x::xs)
  | _,_=>none
  else none
def PZ (st:List Ob):List AV->List Res->List Nat->Prop
 | [],[],_=>True
 | _::xs,.val _::rs,us=>PZ st xs rs us
 | x::xs,.own ty sz ys wr::rs,us=>match x with
  | .c (.ref l)=>match DF st l with
   | some ob=>ob.ty=ty/\ob.sz=sz/\ob.xs=ys/\(wr=true->ob.wr=true)/\DR ys=true/\l∉us/\PZ st xs rs (l::us)
   | none=>False
  | .c (.v (.slice none 0 0))=>ys = []/\PZ st xs rs us
  | _=>False
 | x::xs,.agg ys::rs,us=>match x with
  | .agg zs=>OwnL st zs ys us fun us'=>PZ st xs rs us'
  | _=>False
 | _,_,_=>False
def Rw (st:List Ob):List AV->List Res->(List Ob->Prop)->Prop
 | [],[],K=>K st
 | x::xs,.val y::rs,K=>match fzA st x with
  | some (y',st')=>y'=y/\Rw st' xs rs K
  | none=>False
 | _::xs,.own _ _ _ _::rs,K=>Rw st xs rs K
 | _::xs,.agg _::rs,K=>Rw st xs rs K
 | _,_,_=>False
def Post (P:Program) (vars:List ResultVar) (rs:List Res) (s:MS):Prop:=match Ol P s vars with
 | some xs=>Rw s.st xs rs fun st=>PZ st xs rs []
 | none=>False
theorem dh {w':World} {St':Nat->Nat->Prop} {st st':List Ob} {β':Nat->Option Nat} (hA:∀ x u,AVR w St st β x u->AVR w' St' st' β' x u):∀ {xs:List AV} {us:List Value},AVRs w St st β xs us->AVRs w' St' st' β' xs us
 | [],us,h=>APr
 | x::xs,us,h=>by simp only[AVRs] at h ⊢;obtain⟨y,ys,h1,h2,h3⟩:=h;exact⟨y,ys,h1,hA x y h2,dh hA h3⟩
theorem V6:∀ (xs:List AV) (rs:List Res) (us:List Value) (st:List Ob) (St:Nat->Nat->Prop) (K:List Ob->Prop),Core w0 St0 St β ⟨s.n,s.env,st⟩ a w->AVRs w St st β xs us->Rw st xs rs K ->
  ∃ st' St',K st'/\Core w0 St0 St' β ⟨s.n,s.env,st'⟩ a w/\(∀ b o,St b o->St' b o)/\(∀ x u,AVR w St st β x u->AVR w St' st' β x u) /\
   (∀ (j:Nat) (y:AV),rs[j]?=some (.val y)->∃ u,us[j]?=some u/\RdA w St' y u)
 | [],rs,us,st,St,K,h,hx,hv=>by
  cases rs with
  | nil=>exact⟨st,St,hv,h,fun _ _ h=>h,fun _ _ h=>h,fun j y hj=>by simp at hj⟩
  | cons r rs=>cases r<;>simp[Rw] at hv
 | x::xs,rs,us,st,St,K,h,hx,hv=>by
  cases rs with
  | nil=>simp[Rw] at hv
  | cons r rs =>
   simp only[AVRs] at hx
   obtain⟨u,us',rfl,h1,h2⟩:=hx
   cases r with
   | val y =>
    simp only[Rw] at hv
    split at hv
    .rename_i y' st1 hf
     obtain⟨rfl,hv⟩:=hv
     obtain⟨St1,q1,q2,q3,q4⟩:=ADd h hf
     have hm:=Un (w:=w) (w':=w) (β:=β) (St:=St) (St':=St1) fun l ob hl=>AAW hf hl
     have hA:∀ x u,AVR w St st β x u->AVR w St1 st1 β x u:=fun x u hx=>AVR.mono q2 (fun _ _ _=>rfl) q3 hm x u hx
     obtain⟨st',St',r1,r2,r3,r4,r5⟩:=V6 xs rs us' st1 St1 K q1 (dh hA h2) hv
     refine⟨st',St',r1,r2,fun b o hbo=>r3 b o (q2 b o hbo),fun x u hx=>r4 x u (hA x u hx),fun j z hj=>?_⟩
     cases j with
     | zero =>
      simp only[ab,ai,Res.val.injEq] at hj
      subst hj
      exact⟨u,rfl,(q4 u h1).mono r3 (fun _ _ _=>rfl)⟩
     | succ j=>grind
    grind
   | own ty sz ys wr =>
    exact ANo
   | agg ys =>
    exact ANo
section owns
variable {φ:Nat->Nat->Nat->Prop}
theorem uq (h:Core w0 St0 St β s a w) (hφ:Vl w0 w St s.st β φ) (hno:∀ x,¬ w0.own x):∀ (xs:List AV) (rs:List Res) (us:List Value) (used:List Nat),AVRs w St s.st β xs us->PZ s.st xs rs used ->
  (∀ (j:Nat) (y:AV),rs[j]?=some (.val y)->∃ u,us[j]?=some u/\RdA w St y u) ->
  ∃ bs Φs,ResR w St w0.heap.size rs us bs Φs/\FpOk w St w0.heap.size bs Φs /\
   (∀ (i b:Nat),bs[i]?=some (some b)->∃ l ob,s.st[l]?=some ob/\ob.live=true/\β l=some b/\l∉used) /\
   ∀ (i:Nat) (Φ:Nat->Nat->Prop) (k x:Nat),Φs[i]?=some Φ->Φ k x->∃ l,l∉used/\Fp s.st β φ l x
 | [],rs,us,used,hx,ho,hv=>by
  cases rs with
  | nil =>
   simp only[AVRs] at hx
   subst hx
   exact⟨[],[],⟨rfl,rfl,rfl⟩,⟨fun i j b hi=>by simp at hi,fun i Φ k x hi=>by simp at hi,fun i i' Φ Φ' k k' x hi=>by simp at hi⟩,fun i b hi=>by simp at hi,fun i Φ k x hi=>by simp at hi⟩
  | cons r rs=>cases r<;>simp[PZ] at ho
 | x::xs,rs,us,used,hx,ho,hv=>by
  cases rs with
  | nil=>simp[PZ] at ho
  | cons r rs =>
   simp only[AVRs] at hx
   obtain⟨u,us',rfl,h1,h2⟩:=hx
   have hv':∀ (j:Nat) (y:AV),rs[j]?=some (.val y)->∃ u,us'[j]?=some u/\RdA w St y u:=fun j y hj=>by simpa using hv (j+1) y AOo
   have cons:∀ (used1:List Nat) (b:Option Nat) (Φ:Nat->Nat->Prop),(∀ l∈used,l∈used1)->Res1 w St w0.heap.size r u b Φ->PZ s.st xs rs used1 ->
     (∀ b0,b=some b0->∃ l ob,s.st[l]?=some ob/\ob.live=true/\β l=some b0/\l∉used/\l∈used1) ->
     (∀ k x,Φ k x->∃ l,l∉used/\l∈used1/\Fp s.st β φ l x/\w0.may x/\x<w.heap.size/\(∀ o,¬ St x o)/\b≠some x)->(∀ k k' x,Φ k x->Φ k' x->k=k') ->
     ∃ bs Φs,ResR w St w0.heap.size (r::rs) (u::us') bs Φs/\FpOk w St w0.heap.size bs Φs/\(∀ (i b:Nat),bs[i]?=some (some b)->∃ l ob,s.st[l]?=some ob/\ob.live=true/\β l=some b/\l∉used) /\
      ∀ (i:Nat) (Φ:Nat->Nat->Prop) (k x:Nat),Φs[i]?=some Φ->Φ k x->∃ l,l∉used/\Fp s.st β φ l x:=by
    intro used1 b Φ hu hr hrest hb hΦ hdis
    obtain⟨bs,Φs,q1,q2,q3,q4⟩:=uq h hφ hno xs rs us' used1 h2 hrest hv'
    refine⟨b::bs,Φ::Φs,⟨u,us',b,bs,Φ,Φs,rfl,rfl,rfl,hr,q1⟩,⟨fun i j b0 hi hj=>?_,fun i Ψ k x hi hk=>?_,fun i i' Ψ Ψ' k k' x hi hi' hk hk'=>?_⟩,fun i b0 hi=>?_,fun i Ψ k x hi hk=>?_⟩
    .have hclash:∀ m b1,b=some b1->bs[m]?=some (some b1)->False:=fun m b1 hb1 hm=>by
      obtain⟨l,ob,p1,p2,p3,p4,p5⟩:=hb b1 hb1
      obtain⟨l2,ob2,k1,k2,k3,k4⟩:=q3 m b1 hm
      have:=h.inj l l2 ob ob2 b1 p1 k1 p2 k2 p3 k3
      grind
     cases i with
     | zero =>
      grind
     | succ i =>
      cases j with
      | zero =>
       grind
      | succ j=>have:=q2.nodup i j b0 AOo AOo; omega
    .cases i with
     | zero =>
      simp only[ab,ai] at hi
      subst hi
      obtain⟨l,p1,p2,p3,p4,p5,p6,p7⟩:=hΦ k x hk
      refine⟨p4.resolve_right (hno _),p5,p6,fun j hj=>?_⟩
      cases j with
      | zero=>grind
      | succ j =>
       obtain⟨l2,ob2,k1,k2,k3,k4⟩:=q3 j x AOo
       have:=Ji h hφ p3 ⟨ob2,k1,k2,.inl k3⟩
       grind
     | succ i =>
      obtain⟨g1,g2,g3,g4⟩:=q2.fresh i Ψ k x AOo hk
      refine⟨g1,g2,g3,fun j hj=>?_⟩
      cases j with
      | zero =>
       simp only[ab,ai] at hj
       obtain⟨l,ob,p1,p2,p3,p4,p5⟩:=hb x hj
       obtain⟨l2,k1,k2⟩:=q4 i Ψ k x AOo hk
       have:=Ji h hφ ⟨ob,p1,p2,.inl p3⟩ k2
       grind
      | succ j=>grind
    .have hx2:∀ (m:Nat) (Ψ:Nat->Nat->Prop) (k k' x:Nat),Φ k x->Φs[m]?=some Ψ->Ψ k' x->False:=fun m Ψ k k' x hk hm hk'=>by
      obtain⟨l,p1,p2,p3,_⟩:=hΦ k x hk
      obtain⟨l2,k1,k2⟩:=q4 m Ψ k' x hm hk'
      grind [Ji]
     cases i with
     | zero =>
      simp only[ab,ai] at hi
      subst hi
      cases i' with
      | zero =>
       simp only[ab,ai] at hi'
       subst hi'
       grind
      | succ i'=>exact(hx2 i' Ψ' k k' x hk AOo hk').elim
     | succ i =>
      cases i' with
      | zero =>
       simp only[ab,ai] at hi'
       subst hi'
       exact(hx2 i Ψ k' k x hk' AOo hk).elim
      | succ i' =>
       have:=q2.dis i i' Ψ Ψ' k k' x AOo AOo hk hk'
       omega
    .grind
    .cases i with
     | zero =>
      simp only[ab,ai] at hi
      subst hi
      grind
     | succ i =>
      obtain⟨l,p1,p2⟩:=q4 i Ψ k x AOo hk
      grind
   cases r with
   | val y =>
    obtain⟨u2,hu2,hr⟩:=hv 0 y rfl
    simp only[ab,ai] at hu2
    subst hu2
    exact cons used none (fun _ _=>False) (fun _ h=>h) ⟨hr,rfl⟩ (by simpa only[PZ] using ho) (fun b0 h=>AP8) (fun _ _ h=>h.elim) (fun _ _ _ h=>h.elim)
   | agg ys =>
    simp only[PZ] at ho
    split at ho
    .rename_i zs
     simp only[AVR] at h1
     obtain⟨vs,rfl,hl,hc⟩:=h1
     obtain⟨used',Φ,r1,r2,r3,r4,r5,r6⟩:=oq h hφ zs ys vs used _ hl hc ho
     refine cons used' none Φ r2 ⟨rfl,vs,rfl,AOl,r4⟩ r1 (fun b0 h=>AP8) (fun k x hx=>?_) r6
     grind [Vo]
    grind
   | own ty sz ys wr =>
    simp only[PZ] at ho
    split at ho
    .rename_i l
     split at ho
     .rename_i ob hob
      obtain⟨rfl,rfl,rfl,hwr,hp,hnu,ho⟩:=ho
      obtain⟨hl,hlive⟩:=Bo hob
      simp only[AVR,RdC,BQ,hl] at h1
      have h1':=h1.2 hlive
      cases hβ:β l with
      | none =>
       simp only[hβ] at h1'
       exact cons (l::used) none (fun _ _=>False) (fun l' hl'=>by simp[hl']) h1' ho (fun b0 h=>AP8) (fun _ _ h=>h.elim) (fun _ _ _ h=>h.elim)
      | some b0 =>
       simp only[hβ] at h1'
       obtain⟨cap,cs,e1,e2,e3,e4,e5⟩:=h1'
       obtain⟨g1,g2,cs',g3,g4,g5⟩:=h.obs l ob b0 hl hlive hβ
       refine cons (l::used) (some b0) (φ l) (fun l' hl'=>by simp[hl']) ⟨g1.resolve_right (hno _),g2,g4,fun o hbo=>?_,cap,cs,e1,e2,e3,e4,e5,dK h hφ hl hlive hβ hp e4⟩ ho (fun b1 h=>AOo) (fun k x hx=>?_) (fun k k' x hx hx'=>(hφ.2.2 l l k k' x hx hx').2)
       .have:=h.sep l ob b0 o hl hlive hβ hbo
        grind
       .have hf:=(hφ.2.1 l k x hx).2
        refine⟨l,hnu,AOm,⟨ob,hl,hlive,.inr ⟨k,hx⟩⟩,hf.1,hf.2.2.1,hf.2.2.2.1,fun e=>?_⟩
        cases e
        exact hf.2.2.2.2 l ob hl hlive hβ
     grind
    .obtain⟨rfl,ho⟩:=ho
     obtain⟨hu,_⟩:=O8 h1
     exact cons used none (fun _ _=>False) (fun _ h=>h) ⟨hu,rfl⟩ ho (fun b0 h=>AP8) (fun _ _ h=>h.elim) (fun _ _ _ h=>h.elim)
    grind
end owns
def o7 (tmps:Array Value):ResultVar->Sem Value
 | .tmp t=>pure (tmps.getD t Go.undef)
 | .cell t T=>do loadVar T (<- asAddr (tmps.getD t Go.undef))
theorem Uu (fn:Func) (tmps:Array Value):results fn tmps=(do
  let vs <- fn.results.mapM (o7 tmps)
  pure (if h:vs.size=1 then vs[0] else .tuple vs)):=by
 unfold results
 congr 1
theorem Rx (h:Core w0 St0 St β s a w):∀ (vars:List ResultVar) (xs:List AV),Ol P s vars=some xs ->
  ∃ us,AVRs w St s.st β xs us/\(vars.mapM (o7 a.tmps)).run P w = .ok us w
 | [],xs,hr=>by simp only[Ol,ai] at hr;subst hr;exact⟨[],by simp[AVRs],AOm⟩
 | .tmp t::vars,xs,hr=>by
  simp only[Ol] at hr;split at hr;rotate_left
  .cases hr
  rename_i ht;split at hr
  .rename_i ys hys;simp only[ai] at hr;subst hr;obtain⟨us,h1,h2⟩:=Rx h vars ys hys;refine⟨a.tmps.getD t Go.undef::us,by simp only[AVRs]; exact⟨_,_,rfl,by rw[<- Va (w0:=w0) ht]; exact h.env t,h1⟩, ?_⟩;simp only[List.mapM_cons,o7,Sem.run_bind,Sem.run_pure,Result.andThen_ok,h2]
  .cases hr
 | .cell t T::vars,xs,hr=>by
  simp only[Ol] at hr;split at hr;rotate_left
  .cases hr
  rename_i ht;split at hr
  .rename_i x ys hx hys;simp only[ai] at hr;subst hr;obtain⟨us,h1,h2⟩:=Rx h vars ys hys;obtain ⟨v, g1, g2⟩ := n_ (P := P) h { dst := none, op := .load T (.tmp t), type := 0, pos := "", after := #[], guard := none } (by simp [Op.operands, Ap, ht]) hx;refine⟨v::us,by simp only[AVRs]; exact⟨_,_,rfl,g2,h1⟩, ?_⟩
   have hload:(do loadVar T (<- asAddr (a.tmps.getD t Go.undef)):Sem Value).run P w = .ok v w:=by
    simp only[execOp,Act.eval,Instr.loadAt,Sem.run_bind] at g1;generalize a.tmps.getD t Go.undef=z at g1 ⊢;cases z with
    | pointer ad =>
     cases ad with
     | none=>simp[Instr.sureAddr] at g1
     | some ad =>
      simp only[Instr.sureAddr,Sem.run_pure,Result.andThen_ok,asAddr] at g1 ⊢
      simp only[Sem.run_bind,Sem.run_pure,Result.andThen_ok]
      generalize (loadVar T ad).run P w=r at g1 ⊢
      cases r with
      | ok v2 w2=>simp_all
      | halt hh w2=>simp at g1
    | _=>simp[Instr.sureAddr] at g1
   have hload':(o7 a.tmps (.cell t T)).run P w = .ok v w:=hload;simp_all
  .cases hr
theorem Ze {w0:World} {fn:Func} {rs:List Res} (hs:Sim ⟨w0,fun _=>False,fun _=>Go.undef⟩ St0 s a w) (hp:Post P fn.results.toList rs s):∃ us bs St',(results fn a.tmps).run P w = .ok (Xd us) w/\a.defers = []/\Back w0 St0 rs (.returned (Xd us)) w us bs St':=by
 obtain⟨St,β,h⟩:=hs;unfold Post at hp;split at hp
 .rename_i xs hxs;obtain⟨us,h1,h2⟩:=Rx h fn.results.toList xs hxs;obtain⟨st',St',r1,r2,r3,r4,r5⟩:=V6 xs rs us s.st St _ h h1 hp;obtain⟨φ,hφ⟩:=r2.own;obtain⟨bs,Φs,o1,o2,_⟩:=uq r2 hφ (fun _ h=>h) xs rs us [] (dh r4 h1) r1 r5;refine⟨us,bs,St', ?_,h.defers,⟨rfl,h.below.plain,fun b o hbo=>r3 b o (h.st0 b o hbo),fun b o hbo hlt=>r2.stOld b o hbo hlt (fun h=>h),r2.stIn,Φs,o1,o2⟩⟩;rw[Uu,Sem.run_bind,abq,Sem.run_map,h2];simp only[Result.andThen_ok,Sem.run_pure];congr 1;match us with
  | []=>rfl
  | [u]=>rfl
  | u::u2::us=>simp[Xd]
 grind
def Nu:List AV->Nat->List (Nat×AV)
 | [],_=>[]
 | x::xs,k=>(k,x)::Nu xs (k+1)
theorem QU:∀ (xs:List AV) (k i:Nat),CG (Nu xs k) i=if k<=i then xs.getD (i-k) .un else .un
 | [],k,i=>by simp[Nu,CG]
 | x::xs,k,i=>by simp only[Nu,CG,QU xs (k+1) i];grind
theorem Zf {w:World} {St:Nat->Nat->Prop}:∀ {xs:List AV} {us:List Value},RdAs w St xs us->us.length=xs.length/\∀ (j:Nat) (x:AV),xs[j]?=some x->∃ u,us[j]?=some u/\RdA w St x u
 | [],us,h=>by simp only[RdAs] at h; grind
 | x::xs,us,h=>by obtain⟨y,ys,rfl,h1,h2⟩:=h;obtain⟨q1,q2⟩:=Zf h2;grind
def AFl (P:Program) (vars:List ResultVar) (rs:List Res) (e:Ex) (s:MS):Prop:=match e with
 | .exit _=>False
 | _=>Post P vars rs s
theorem Ctr.mk {f:FuncId} {fn:Func} {c:Code} {args:List AV} {rs:List Res} (hin:CallsIn P f) (hf:P.funcs[f]?=some fn) (hb:fn.body=some c) (hm:P.follows .mixedOrders=true) {n:Nat} (hn:fn.ntmps=n) {vars:Array ResultVar} (hvars:fn.results=vars) (hc:codeOk n c=true) (hlen0:(Nat.ble args.length n&&Nat.ble n 1000000)=true)
  (h:ABn args->vp P c ⟨n,Nu args 0,[]⟩ (AFl P vars.toList rs)):Ctr P f args rs:=by
 subst hn
 subst hvars
 obtain⟨hlen0,hlim0⟩:=Bool.and_eq_true_iff.1 hlen0
 have hlim:fn.ntmps<=1000000:=aaS hlim0
 have hlen:args.length<=fn.ntmps:=aaS hlen0
 refine⟨hin,fun w St vs hSt hrd=>?_⟩
 obtain⟨hvl,hva⟩:=Zf hrd
 refine calls_of_wp hf hb (wp_mono (AAi (w0:=⟨w,fun _=>False,fun _=>Go.undef⟩) (St0:=St) hm fn.ntmps c hc ⟨fn.ntmps,Nu args 0,[]⟩ _ { tmps:=vs.toArray++Array.replicate (fn.ntmps-vs.toArray.size) Go.undef,defers:=[] } w rfl (h hrd.wf) ⟨St,fun _=>none, ?_⟩) ?_)
 .exact AHB
 .rintro e a' w' ⟨ex,s',rfl,hq,_,hs'⟩
  cases ex with
  | exit i=>exact hq.elim
  | normal =>
   obtain⟨us,bs,St',p1,p2,p3⟩:=Ze hs' hq
   exact⟨p2,_,p1,us,bs,St',p3⟩
  | ret =>
   obtain⟨us,bs,St',p1,p2,p3⟩:=Ze hs' hq
   exact⟨p2,_,p1,us,bs,St',p3⟩
def EndH (P:Program) (vars:List ResultVar) (rs:List Res) (e:Ex) (s:MS):Prop:=match e with
 | .exit _=>False
 | _=>∃ t,Head s t/\Post P vars rs t
theorem ACf {f:FuncId} {fn:Func} {c:Code} {args:List AV} {rs:List Res} (hin:CallsIn P f) (hf:P.funcs[f]?=some fn) (hb:fn.body=some c) (hm:P.follows .mixedOrders=true) {n:Nat} (hn:fn.ntmps=n) {vars:Array ResultVar} (hvars:fn.results=vars) (hc:codeOk n c=true) (hlen0:(Nat.ble args.length n&&Nat.ble n 1000000)=true)
  (h:ABn args->vp P c ⟨n,Nu args 0,[]⟩ (EndH P vars.toList rs)):Ctr P f args rs:=by
 subst hn
 subst hvars
 obtain⟨hlen0,hlim0⟩:=Bool.and_eq_true_iff.1 hlen0
 have hlim:fn.ntmps<=1000000:=aaS hlim0
 have hlen:args.length<=fn.ntmps:=aaS hlen0
 refine⟨hin,fun w St vs hSt hrd=>?_⟩
 obtain⟨hvl,hva⟩:=Zf hrd
 refine calls_of_wp hf hb (wp_mono (AAi (w0:=⟨w,fun _=>False,fun _=>Go.undef⟩) (St0:=St) hm fn.ntmps c hc ⟨fn.ntmps,Nu args 0,[]⟩ _ { tmps:=vs.toArray++Array.replicate (fn.ntmps-vs.toArray.size) Go.undef,defers:=[] } w rfl (h hrd.wf) ⟨St,fun _=>none, ?_⟩) ?_)
 .exact AHB
 .rintro e a' w' ⟨ex,s',rfl,hq,_,hs'⟩
  cases ex with
  | exit i=>exact hq.elim
  | normal =>
   exact AL5
  | ret =>
   exact AL5
theorem Core.tell (h:Core w0 St0 St β s a w) (i:Nat) {x:AV} (hx:AVR w St s.st β x (nm w0 a i)):Core w0 St0 St β ⟨s.n,(i,x)::s.env,s.st⟩ a w:=
 have he:∀ j,AVR w St s.st β (CG ((i,x)::s.env) j) (nm w0 a j):=fun j=>by
  simp only[CG];by_cases e:i=j
  .grind
  .simpa [e] using h.env j
 { h with env:=he }
theorem AAj {St':Nat->Nat->Prop}:∀ {xs:List AV} {us:List Value},xs.all isV=true->RdAs w St xs us->RdAs w St' xs us
 | [],us,_,h=>h
 | x::xs,us,hx,h=>by
  simp only[aI,ar] at hx;obtain⟨y,ys,h1,h2,h3⟩:=h;refine⟨y,ys,h1, ?_,AAj hx.2 h3⟩;cases x with
  | c c =>
   cases c with
   | v v=>exact h2
   | _=>simp[isV] at hx
  | _=>simp[isV] at hx
theorem AD5 {g:Bool} {zs:List Cl} {us:List Value} {st:List Ob} (hg:g=true\/zs.length=1) (hg2:g=true\/us.length=1) (h:AVR w St st β (mkA g zs) (mkV g us)) :
  us.length=zs.length/\∀ (k:Nat) (c:Cl),zs[k]?=some c->∃ y,us[k]?=some y/\RdC w St st β c y:=by
 cases g with
 | true =>
  simp only[mkA,aO,AVR,mkV] at h
  grind
 | false =>
  have hz:zs.length=1:=by simpa using hg
  have hu:us.length=1:=by simpa using hg2
  match zs,us,hz,hu with
  | [z],[u],_,_ =>
   simp only[mkA,mkV,ax,aL,AVR,List.headD_cons] at h
   grind
theorem AHO {g:Bool} {zs:List Cl} {us:List Value} {st:List Ob} (hl:us.length=zs.length) (hg:g=true\/zs.length=1) (h:∀ (k:Nat) (c:Cl),zs[k]?=some c->∃ y,us[k]?=some y/\RdC w St st β c y):AVR w St st β (mkA g zs) (mkV g us):=by
 cases g with
 | true =>
  simp only[mkA,aO,AVR,mkV]
  grind
 | false =>
  have hz:zs.length=1:=by simpa using hg
  match zs,us,hz,hl with
  | [z],[u],_,_ =>
   simp only[mkA,mkV,ax,aL,AVR,List.headD_cons]
   grind [ab,ai]
def AAk (P:Program) (vars:List ResultVar) (g:Bool) (us:List Value) (Q:List Cl->List AV->Prop) (s:MS):Prop:=
 ∃ zs cl' rs,CG s.env 0 = .pin (mkA g zs) (mkV g us)/\(g=true\/zs.length=1)/\OwnL s.st zs cl' [] (fun _=>True)/\GN cl'=true/\rs.all isV=true/\Ol P s vars=some rs/\Q cl' rs
def AHP (P:Program) (vars:List ResultVar) (g:Bool) (us:List Value) (Q:List Cl->List AV->Prop) (e:Ex) (s:MS):Prop:=match e with
 | .exit _=>False
 | _=>AAk P vars g us Q s
theorem uu {w0:World} {fn:Func} {g:Bool} {us:List Value} {Q:List Cl->List AV->Prop} {G:Nat->Nat->Prop} (hg:g=true\/us.length=1) (hs:Sim ⟨w0,fun x=>∃ k,G k x,fun _=>Go.undef⟩ St0 s a w) (hp:AAk P fn.results.toList g us Q s) :
  ∃ cl' rs rv,Q cl' rs/\(results fn a.tmps).run P w = .ok (Xd rv) w/\a.defers = []/\∃ G',Below 0 w0 w/\(∀ k,k<w0.heap.size->(∀ j,¬ G j k)->w.heap[k]?=w0.heap[k]?)/\(∀ k,k<w0.heap.size->w_ w k=w_ w0 k)/\RdAs w St0 rs rv/\RdL2 w St0 cl' us G'/\∀ k x,G' k x->(∃ j,G j x)\/(w0.heap.size<=x/\x<w.heap.size):=by
 obtain⟨St,β,h⟩:=hs
 obtain⟨zs,cl',rs,e0,hg2,ho,hclo,hrs,hret,hQ⟩:=hp
 have he:=h.env 0
 rw[Va AOu] at he
 rw[e0] at he
 simp only[AVR] at he
 obtain⟨he1,he2⟩:=he
 rw[he1] at he2
 obtain⟨hul,hur⟩:=AD5 hg2 hg he2
 obtain⟨φ,hφ⟩:=h.own
 have hrd:=AAd h hφ ho hul hur
 obtain⟨rv,h1,h2⟩:=Rx h fn.results.toList rs hret
 refine⟨cl',rs,rv,hQ, ?_,h.defers,_,h.below.rest,fun k hk hno=>h.below.blk k hk fun⟨j,hj⟩=>hno j hj,h.below.siz,AAj hrs (AAX hrs h1),⟨hrd.len,hrd.dis,fun k c hk=>?_⟩, ?_⟩
 .rw[Uu,Sem.run_bind,abq,Sem.run_map,h2]
  exact AM9
 .obtain⟨y,hy,hr⟩:=hrd.rd k c hk
  grind [RdO.clo,Rh,aT]
 .rintro k x ⟨l,q1,q2⟩
  obtain⟨_,ob,p1,p2,_⟩:=Oi zs cl' [] _ ho k l q1
  obtain⟨r1,r2,r3⟩:=Vo h hφ q2 fun ob' hob'=>by grind [Bo]
  rcases r1 with r1 | ⟨j,hj⟩
  .exact .inr ⟨r1,r2⟩
  grind
theorem ACe {f:FuncId} {fn:Func} {c:Code} {g:Bool} {cl:List Cl} {args:List AV} {Q:List Cl->List AV->Prop} (hin:CallsIn P f) (hf:P.funcs[f]?=some fn) (hb:fn.body=some c) (hm:P.follows .mixedOrders=true) {n:Nat} (hn:fn.ntmps=n) {vars:Array ResultVar} (hvars:fn.results=vars) (hc:codeOk n c=true) (hlen0:(Nat.ble (args.length+1) n&&Nat.ble n 1000000)=true)
  (hg:g=true\/cl.length=1)
  (h:∀ us:List Value,Xa cl->ABn args->vp P c ⟨n,(0,.pin (mkA g (Jv 0 cl)) (mkV g us))::Nu args 1,H7 cl⟩ (AHP P vars.toList g us Q)):MCtr P f g cl args Q:=by
 subst hn
 subst hvars
 obtain⟨hlen0,hlim0⟩:=Bool.and_eq_true_iff.1 hlen0
 have hlim:fn.ntmps<=1000000:=aaS hlim0
 have hlen:args.length+1<=fn.ntmps:=aaS hlen0
 refine⟨hin,hg,fun w St us G vs hSt hG hrd hvs=>?_⟩
 obtain⟨hvl,hva⟩:=Zf hvs
 have hcore0:Core ⟨w,fun x=>∃ k,G k x,fun _=>Go.undef⟩ St St (fun _=>none) ⟨fn.ntmps,Nu (.un::args) 0,[]⟩ { tmps:=(mkV g us::vs).toArray++Array.replicate (fn.ntmps-(mkV g us::vs).toArray.size) Go.undef,defers:=[] } w:={
  defers:=rfl
  size:=AOn
  lim:=hlim
  env:=fun i=>by
   rw[yJ AOn rfl];simp only[QU,aq,aO,yG];cases i with
   | zero=>simp only[List.getD_cons_zero,AVR]
   | succ i =>
    simp only[List.getD_cons_succ]
    rcases bh i args.length with hi | hi
    .obtain⟨u,hu,hr⟩:=hva i args[i] AQe
     have e1:args.getD i .un=args[i]:=AQe
     have e2:((mkV g us::vs).toArray++Array.replicate (fn.ntmps-(mkV g us::vs).toArray.size) Go.undef).getD (i+1) Go.undef=u:=by have hiv:i<vs.length:=AOl;simp only[aa6];rw[aay AOo];simp[hu]
     rw[e1,e2]
     exact hr.toAVR
    .have e1:args.getD i .un = .un:=by simp[hi]
     rw[e1]
     simp only[AVR]
  below:=BelowB.refl _ _
  st0:=fun _ _ h=>h
  stOld:=fun _ _ h _ _=>h
  stIn:=hSt
  obs:=fun l ob b hl=>AQP
  nil:=fun l ob hl=>AQP
  inj:=fun l l' ob ob' b hl=>AQP
  sep:=fun l ob b o hl=>AQP
  own:=⟨fun _ _ _=>False,fun l ob b k c hl=>AQP,fun _ _ _ h=>h.elim,fun _ _ _ _ _ h=>h.elim⟩ }
 have hN:Own ⟨w,fun x=>∃ k,G k x,fun _=>Go.undef⟩ (fun x=>∃ k,G k x) w St [] (fun _=>none):=⟨fun _ _ _=>False,fun l ob b k c hl=>AQP,fun _ _ _ h=>h.elim,fun _ _ _ _ _ h=>h.elim⟩
 obtain⟨β',q1,q2,q3,q4,q5,q6⟩:=Vk (s:=⟨fn.ntmps,Nu (.un::args) 0,[]⟩) cl us G [] (fun _=>none) _ hcore0 hN hrd.len hrd.rd (fun k x hx=>⟨⟨k,hx⟩,.inr ⟨k,hx⟩,(hG k x hx).1,(hG k x hx).2,fun l o2 hl=>AQP⟩) hrd.dis
 simp only[aA,aj] at q1 q3 q4
 have hgu:g=true\/us.length=1:=by rw[hrd.len]; exact hg
 have hval:=AHO (g:=g) (by rw[q4]; exact hrd.len) AOo q3
 have hcore1:=q1.tell 0 (x:=.pin (mkA g (Jv 0 cl)) (mkV g us)) (by
  have:((mkV g us::vs).toArray++Array.replicate (fn.ntmps-(mkV g us::vs).toArray.size) Go.undef).getD 0 Go.undef=mkV g us:=by simp only[aa6];rw[aay AOm];simp
  simp only[AVR];rw[Va AOu,this];exact⟨by first | trivial | rfl,hval⟩)
 have hcore2:=hcore1.congr (s':=⟨fn.ntmps,(0,.pin (mkA g (Jv 0 cl)) (mkV g us))::Nu args 1,H7 cl⟩) rfl rfl (fun t=>by
  simp only[CG,Nu];grind)
 have hwf:Xa cl:=dI cl fun k c hk=>by obtain⟨y,_,hr⟩:=hrd.rd k c hk;exact RdO.wf c y _ hr
 refine calls_of_wp hf hb (wp_mono (AAi (w0:=⟨w,fun x=>∃ k,G k x,fun _=>Go.undef⟩) (St0:=St) hm fn.ntmps c hc _ _ _ w rfl (h us hwf hvs.wf) ⟨St,β',hcore2⟩) ?_)
 rintro e a' w' ⟨ex,s',rfl,hq,_,hs'⟩
 cases ex with
 | exit i=>exact hq.elim
 | normal =>
  exact ANq
 | ret =>
  exact ANq
def Xn:List AV->Nat->List (Nat×AV)->List (Nat×AV)
 | [],_,e=>e
 | x::xs,k,e=>(k,x)::Xn xs (k+1) e
def yl:List (Nat×AV)->List (Nat×AV)
 | []=>[]
 | (k,x)::r=>(k+1000000,x)::yl r
def unE:List (Nat×AV)->List (Nat×AV)
 | []=>[]
 | (k,x)::r=>if k<1000000 then unE r else(k-1000000,x)::unE r
theorem AAl:∀ e,unE (yl e)=e
 | []=>rfl
 | (k,x)::r=>by simp[yl,unE,AAl r]
theorem uw:∀ (e:List (Nat×AV)) (i:Nat),CG (yl e) i=if i<1000000 then .un else CG e (i-1000000)
 | [],i=>by simp[yl,CG]
 | (k,x)::r,i=>by
  simp only[yl,CG,uw r i];by_cases h:i<1000000
  .have:¬ k+1000000=i:=by omega
   simp only[h,this,aO,aL]
  .by_cases e:k+1000000=i
   .have:k=i-1000000:=by omega
    simp only[h,e,<- this,aO,aL]
   .have:¬ k=i-1000000:=by omega
    simp only[h,e,this,aL]
theorem di:∀ (e:List (Nat×AV)) (i:Nat),CG (unE e) i=CG e (i+1000000)
 | [],i=>rfl
 | (k,x)::r,i=>by
  simp only[unE,CG];by_cases h:k<1000000
  .rw[aV h,aR AOl];exact di r i
  .rw[aR h];simp only[CG];by_cases e:k=i+1000000
   .rw[aV AOl,aV e]
   .rw[aR AOl,aR e];exact di r i
theorem kQ:∀ (xs:List AV) (k:Nat) (e:List (Nat×AV)) (i:Nat),CG (Xn xs k e) i=if k<=i/\i<k+xs.length then xs.getD (i-k) .un else CG e i
 | [],k,e,i=>by have:¬ (k<=i/\i<k+([]:List AV).length):=AOm;simp only[Xn,this,aL]
 | x::xs,k,e,i=>by
  simp only[Xn,CG,kQ xs (k+1) e i,ag];by_cases h:k=i
  .subst h; simp
  .by_cases h2:k+1<=i/\i<k+1+xs.length
   .have e1:k<=i/\i<k+(xs.length+1):=by omega
    simp only[h,h2,e1,aL,and_self,aO];rw[show i-k=(i-(k+1))+1 from AOl,List.getD_cons_succ]
   .have e1:¬ (k<=i/\i<k+(xs.length+1)):=by omega
    simp only[h,h2,e1,aL]
def MR (P:Program) (vars:List ResultVar) (m:Nat) (KK:AV->MS->Prop) (e:Ex) (t:MS):Prop:=match e with
 | .exit _=>False
 | _=>match Ol P t vars with
  | some xs=>KK (retA xs) ⟨m,unE t.env,t.st⟩
  | none=>False
def AHQ (dst:Option Nat) (K:MS->Prop) (x:AV) (t:MS):Prop:=K (t.put dst x)
def AJL (st:List Ob) (env:List (Nat×AV)) (r x:AV) (t:MS):Prop:=t.st=st/\t.env=env/\x=r
theorem uy:∀ {xs:List AV} {us:List Value},AVRs w St s.st β xs us->us.length=xs.length
 | [],us,h=>by simp only[AVRs] at h; subst h; rfl
 | x::xs,us,h=>by simp only[AVRs] at h;obtain⟨y,ys,rfl,_,h2⟩:=h;simp[uy h2]
theorem TS {f:FuncId} {fn:Func} {c:Code} {args:List AV} {KK:AV->MS->Prop} (hf:P.funcs[f]?=some fn) (hb:fn.body=some c) (hm:P.follows .mixedOrders=true) {n:Nat} (hn:fn.ntmps=n) {vars:Array ResultVar} (hvars:fn.results=vars) (hc:codeOk n c=true)
  (hlen0:(Nat.ble args.length n&&Nat.ble n 1000000)=true) (h:∃ st1,Head ⟨n,Xn args 0 (yl s.env),s.st⟩ ⟨n,Xn args 0 (yl s.env),st1⟩/\vp P c ⟨n,Xn args 0 (yl s.env),st1⟩ (MR P vars.toList s.n KK)) {us:List Value} (hcore:Core w0 St0 St β s a w) (hargs:AVRs w St s.st β args us) :
  Calls P f us.toArray w fun e w'=>∃ u,e = .returned u/\∃ (t:MS) (x:AV),t.n=s.n/\KK x t/\∃ St' β',Core w0 St0 St' β' t a w'/\AVR w' St' t.st β' x u:=by
 subst hn
 subst hvars
 obtain⟨hlen0,hlim0⟩:=Bool.and_eq_true_iff.1 hlen0
 have hlim:fn.ntmps<=1000000:=aaS hlim0
 have hlen:args.length<=fn.ntmps:=aaS hlen0
 have hul:=uy hargs
 have hua:=ny hargs
 have hcore2:Core ⟨w0.w,w0.own,nm w0 a⟩ St0 St β ⟨fn.ntmps,Xn args 0 (yl s.env),s.st⟩ { tmps:=us.toArray++Array.replicate (fn.ntmps-us.toArray.size) Go.undef,defers:=[] } w:={
  defers:=rfl
  size:=AOn
  lim:=hlim
  env:=fun i=>by
   rw[kQ,uw];by_cases hi:i<args.length
   .obtain⟨u,hu,hr⟩:=hua i args[i] AQe;have e1:args.getD (i-0) .un=args[i]:=AQe;have e2:(us.toArray++Array.replicate (fn.ntmps-us.toArray.size) Go.undef).getD i Go.undef=u:=by have hiv:i<us.length:=AOl;simp only[aa6];rw[aay (by simpa using hiv)];simp[hu]
    rw[aV ⟨aq _,AOl⟩,Va AOl,e1,e2];exact hr
   .rw[aR AOl];by_cases h2:i<1000000
    .rw[aV h2]; simp only[AVR]
    .rw[aR h2];rw[AGJ h2];generalize i-1000000=j;exact hcore.env j
  below:=⟨hcore.below.rest,hcore.below.blk,hcore.below.siz⟩
  st0:=hcore.st0
  stOld:=hcore.stOld
  stIn:=hcore.stIn
  obs:=hcore.obs
  nil:=hcore.nil
  inj:=hcore.inj
  sep:=hcore.sep
  own:=hcore.own }
 obtain⟨st1,hh,h⟩:=h
 obtain⟨St2,β2,hcore3⟩:=hh.2 _ _ _ _ _ _ hcore2
 refine calls_of_wp hf hb (wp_mono (AAi (w0:=⟨w0.w,w0.own,nm w0 a⟩) (St0:=St0) hm fn.ntmps c hc _ _ _ w rfl h ⟨St2,β2,hcore3⟩) ?_)
 rintro e a' w' ⟨ex,s',rfl,hq,_,St1,β1,h1⟩
 have key:∀ xs,Ol P s' fn.results.toList=some xs->KK (retA xs) ⟨s.n,unE s'.env,s'.st⟩->∃ v,(results fn a'.tmps).run P w' = .ok v w'/\∃ (t:MS) (x:AV),t.n=s.n/\KK x t/\∃ St' β',Core w0 St0 St' β' t a w'/\AVR w' St' t.st β' x v:=fun xs hxs hK=>by
  obtain⟨rv,g1,g2⟩:=Rx h1 fn.results.toList xs hxs;refine⟨Xd rv, ?_,⟨s.n,unE s'.env,s'.st⟩,retA xs,rfl,hK,St1,β1, ?_,Lj g1⟩
  .rw[Uu,Sem.run_bind,abq,Sem.run_map,g2];exact AM9
  .exact {
    defers:=hcore.defers
    size:=hcore.size
    lim:=hcore.lim
    env:=fun i=>by
     have:=h1.env (i+1000000);rw[<- di] at this;have e:nm ⟨w0.w,w0.own,nm w0 a⟩ a' (i+1000000)=nm w0 a i:=by rw[AGJ AOl,Nat.add_sub_cancel]
     rwa [e] at this
    below:=⟨h1.below.rest,h1.below.blk,h1.below.siz⟩
    st0:=h1.st0
    stOld:=h1.stOld
    stIn:=h1.stIn
    obs:=h1.obs
    nil:=h1.nil
    inj:=h1.inj
    sep:=h1.sep
    own:=h1.own }
 have fin:∀ ex,MR P fn.results.toList s.n KK ex s'->∃ xs,Ol P s' fn.results.toList=some xs/\KK (retA xs) ⟨s.n,unE s'.env,s'.st⟩:=fun ex hq=>by
  cases ex with
  | exit i=>exact hq.elim
  | normal =>
   exact AOX
  | ret =>
   exact AOX
 obtain⟨xs,hxs,hK⟩:=fin ex hq
 obtain⟨v,k1,k2⟩:=key xs hxs hK
 cases ex with
 | exit i=>exact hq.elim
 | normal=>exact⟨h1.defers,_,k1,v,rfl,k2⟩
 | ret=>exact⟨h1.defers,_,k1,v,rfl,k2⟩
theorem AA8 {f:FuncId} {fn:Func} {c:Code} {args:List AV} {dst:Option Nat} {K:MS->Prop} {A B C:Prop} (hin:CallsIn P f) (hf:P.funcs[f]?=some fn) (hb:fn.body=some c) (hm:P.follows .mixedOrders=true) {n:Nat} (hn:fn.ntmps=n) {vars:Array ResultVar} (hvars:fn.results=vars) (hc:codeOk n c=true)
  (hlen0:(Nat.ble args.length n&&Nat.ble n 1000000)=true) (h:vp P c ⟨n,Xn args 0 (yl s.env),s.st⟩ (MR P vars.toList s.n (AHQ dst K))):Ns A (Ns B (Ns C (InlK P f s args dst K))):=
 .inr (.inr (.inr ⟨hin,fun w0 St0 St β a w us hcore hargs=>TS hf hb hm hn hvars hc hlen0 ⟨_,⟨rfl,fun _ _ _ _ _ _ h=>⟨_,_,h⟩⟩,h⟩ hcore hargs⟩))
theorem AB5 {f:FuncId} {fn:Func} {c:Code} {args:List AV} {st st':List Ob} {y:AV} (hin:CallsIn P f) (hf:P.funcs[f]?=some fn) (hb:fn.body=some c) (hm:P.follows .mixedOrders=true) {n:Nat} (hn:fn.ntmps=n) {vars:Array ResultVar} (hvars:fn.results=vars) (hc:codeOk n c=true)
  (hlen0:(Nat.ble args.length n&&Nat.ble n 1000000)=true) (h:∀ (m:Nat) (env:List (Nat×AV)),vp P c ⟨n,Xn args 0 (yl env),st⟩ (MR P vars.toList m (AJL st' env y))):InlS P f st args y st':=
 ⟨hin,fun w0 St0 St β s a w us hst hcore hargs=>by
  subst hst;refine(TS hf hb hm hn hvars hc hlen0 ⟨_,⟨rfl,fun _ _ _ _ _ _ h=>⟨_,_,h⟩⟩,h s.n s.env⟩ hcore hargs).mono fun e w' hx=>?_;obtain⟨u,e1,t,x,q1,⟨q2,q3,rfl⟩,St',β',q4,q5⟩:=hx;subst q2;have:t=⟨s.n,s.env,t.st⟩:=by rw[<- q1,<- q3]
  rw[this] at q4;exact⟨u,e1,St',β',q4,q5⟩⟩
