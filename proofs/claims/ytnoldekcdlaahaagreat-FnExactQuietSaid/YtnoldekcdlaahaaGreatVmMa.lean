/- A part. -/
import Derived.Test.YtnoldekcdlaahaaGreatVmL
set_option linter.unusedSimpArgs false
set_option linter.unusedVariables false
namespace Go.Vm
open Go.RowKit
mutual
def er:Cl→Cl
 | .ow _ _ xs=>.sl (Qa xs)
 | .v x=>.v x
 | .sl xs=>.sl xs
 | .ref l=>.ref l
def Qa:List (List Cl)→List (List Cl)
 | []=>[]
 | x::xs=>KI x::Qa xs
def KI:List Cl→List Cl
 | []=>[]
 | c::cs=>er c::KI cs
end
theorem VW:∀ (cs:List Cl),(KI cs).length=cs.length
 | []=>rfl
 | c::cs=>by simp[KI,VW cs]
theorem og:∀ (xs:List (List Cl)),(Qa xs).length=xs.length
 | []=>rfl
 | x::xs=>by simp[Qa,og xs]
theorem zC:∀ {cs:List Cl} {k:Nat} {c:Cl},(KI cs)[k]?=some c→∃ d,cs[k]?=some d∧c=er d
 | [],k,c,h=>by simp[KI] at h
 | d::cs,0,c,h=>by simp only[KI,aQ,ak] at h; exact⟨d,rfl,h.symm⟩
 | d::cs,k+1,c,h=>by simp only[KI,aaN] at h ⊢; exact zC h
theorem oh:∀ {xs:List (List Cl)} {k:Nat} {x:List Cl},(Qa xs)[k]?=some x→∃ y,xs[k]?=some y∧x=KI y
 | [],k,c,h=>by simp[Qa] at h
 | d::cs,0,c,h=>by simp only[Qa,aQ,ak] at h; exact⟨d,rfl,h.symm⟩
 | d::cs,k+1,c,h=>by simp only[Qa,aaN] at h ⊢; exact oh h
theorem oq {α:Type} (f:α→List Cl):∀ (l:List α),Qa (l.map f)=l.map fun x=>KI (f x)
 | []=>rfl
 | x::l=>by simp[Qa,oq f l]
mutual
theorem RdO.frz {w:World} {St:Nat→Nat→Prop}:∀ (c:Cl) (u:Value) (F:Nat→Prop),RdO w St c u F→RdD w (fun b o=>St b o∨F b) (er c) u
 | .v x,u,F,h=>by simp only[RdO,er,RdD] at h ⊢; exact h
 | .ref _,u,F,h=>by simp[RdO] at h
 | .sl xs,u,F,h=>by simp only[RdO,er] at h ⊢; exact RdD.mono (fun _ _ h=>.inl h) (fun _ _ _=>rfl) _ _ h
 | .ow ty sz xs,u,F,h=>by
  simp only[RdO] at h
  simp only[er,RdD,og]
  rcases h with ⟨rfl,rfl⟩ | ⟨b,cap,cs,G,rfl,h2,h3,h4,h5,h6,h7,h8,h9,h10⟩
  ·exact⟨none,0,rfl,AOi,by simp[maxLen],⟨0,by simp[Qa]⟩,.inl (by simp[Qa])⟩
  ·refine⟨some ⟨b,0,none⟩,cap,rfl,h2,h3,⟨sz,fun x hx=>?_⟩,.inr ⟨b,0,rfl, ?_⟩⟩
   ·obtain⟨k,hk⟩:=aa6.1 hx
    obtain⟨y,hy,rfl⟩:=oh hk
    rw[VW]; exact h6 y (bF hy)
   ·have:=RdOE.frz (w:=w) (St:=St) (b:=b) (ty:=ty) h4 xs 0 G h10
    exact RdE.mono (fun b' o hbo=>by
     rcases hbo with hbo | rfl | ⟨k,hk⟩
     ·exact .inl hbo
     ·exact .inr h7
     ·exact .inr (h8 k b' hk).1) (fun _ _ _=>rfl) _ _ _ this
theorem RdOE.frz {w:World} {St:Nat→Nat→Prop} {b:Nat} {ty:TypeId} {cs:Array Value} (hb:w.heap[b]?=some (.cells cs ty (0,0))):∀ (xs:List (List Cl)) (n:Nat) (G:Nat→Nat→Prop),RdOE w St xs n cs G→RdE w (fun b' o=>St b' o∨b'=b∨∃ k,G k b') (Qa xs) b n
 | [],_,_,_=>by simp[Qa,RdE]
 | x::xs,n,G,h=>by
  simp only[RdOE,Qa,RdE,VW] at h ⊢
  exact⟨RdOL.frz hb x n G h.1,RdOE.frz hb xs _ G h.2⟩
theorem RdOL.frz {w:World} {St:Nat→Nat→Prop} {b:Nat} {ty:TypeId} {cs:Array Value} (hb:w.heap[b]?=some (.cells cs ty (0,0))):∀ (cl:List Cl) (n:Nat) (G:Nat→Nat→Prop),RdOL w St cl n cs G→RdL w (fun b' o=>St b' o∨b'=b∨∃ k,G k b') (KI cl) b n
 | [],_,_,_=>by simp[KI,RdL]
 | c::cl,n,G,h=>by
  simp only[RdOL,KI,RdL] at h ⊢
  obtain⟨⟨y,h1,h2⟩,h3⟩:=h
  exact⟨⟨.inr (.inl trivial),y,by simp[World.cell?,hb,h1],RdD.mono (fun b' o hbo=>by
   rcases hbo with hbo | hbo
   ·exact .inl hbo
   ·exact .inr (.inr ⟨n,hbo⟩)) (fun _ _ _=>rfl) _ _ (RdO.frz c y (G n) h2)⟩,RdOL.frz hb cl _ G h3⟩
end
theorem RdOL.at {w:World} {St:Nat→Nat→Prop} {cs:Array Value} {G:Nat→Nat→Prop}:∀ {cl:List Cl} {n:Nat},RdOL w St cl n cs G→∀ {k:Nat} {c:Cl},cl[k]?=some c→∃ y,cs[n+k]?=some y∧RdO w St c y (G (n+k))
 | [],_,_,k,c,hk=>APM
 | d::cl,n,h,0,c,hk=>by
  simp only[RdOL] at h
  simp only[aQ,ak] at hk
  subst hk
  exact h.1
 | d::cl,n,h,k+1,c,hk=>by
  simp only[RdOL] at h
  have:=RdOL.at h.2 (k:=k) (c:=c) APN
  rwa [show n+1+k=n+(k+1) from AOh] at this
theorem RdOE.at {w:World} {St:Nat→Nat→Prop} {cs:Array Value} {G:Nat→Nat→Prop}:∀ {xs:List (List Cl)} {n:Nat},RdOE w St xs n cs G→∀ {k:Nat} {c:Cl},xs.flatten[k]?=some c→∃ y,cs[n+k]?=some y∧RdO w St c y (G (n+k))
 | [],_,_,k,c,hk=>APM
 | x::xs,n,h,k,c,hk=>by
  simp only[RdOE] at h
  simp only[dm] at hk
  rcases bQ k x.length with h' | h'
  ·rw[bG h'] at hk
   exact h.1.at hk
  ·rw[aY h'] at hk
   have:=RdOE.at h.2 hk
   rwa [show n+x.length+(k-x.length)=n+k from AOh] at this
theorem RdOL.mk {w:World} {St:Nat→Nat→Prop} {cs:Array Value} {G:Nat→Nat→Prop}:∀ {cl:List Cl} {n:Nat},(∀ (k:Nat) (c:Cl),cl[k]?=some c→∃ y,cs[n+k]?=some y∧RdO w St c y (G (n+k)))→RdOL w St cl n cs G
 | [],_,_=>by simp[RdOL]
 | d::cl,n,h=>by
  simp only[RdOL]
  refine⟨by simpa using h 0 d rfl,RdOL.mk fun k c hk=>?_⟩
  have:=h (k+1) c APN
  rwa [show n+(k+1)=n+1+k from AOh] at this
theorem RdOE.mk {w:World} {St:Nat→Nat→Prop} {cs:Array Value} {G:Nat→Nat→Prop}:∀ {xs:List (List Cl)} {n:Nat},(∀ (k:Nat) (c:Cl),xs.flatten[k]?=some c→∃ y,cs[n+k]?=some y∧RdO w St c y (G (n+k)))→RdOE w St xs n cs G
 | [],_,_=>by simp[RdOE]
 | x::xs,n,h=>by
  simp only[RdOE]
  refine⟨RdOL.mk fun k c hk=>?_,RdOE.mk fun k c hk=>?_⟩
  ·have hk':k<x.length:=(aF.1 hk).1
   exact h k c (by rw[dm,bG hk']; exact hk)
  ·have:=h (x.length+k) c (by rw[dm,aY AOh]; rwa [show x.length+k-x.length=k from AOh])
   rwa [show n+(x.length+k)=n+x.length+k from AOh] at this
theorem RdO.toB {w:World} {St:Nat→Nat→Prop} {st:List Ob} {β:Nat→Option Nat} {c:Cl} {u:Value} {F:Nat→Prop} (h:RdO w St c u F):RdB w St st β c u:=by
 cases c with
 | v x=>simp only[RdO] at h; exact(show RdD w St (.v x) u by simp only[RdD]; exact h)
 | sl xs=>simp only[RdO] at h; exact h
 | ref l=>simp[RdO] at h
 | ow ty sz xs =>
  simp only[RdO] at h
  rcases h with ⟨rfl,_⟩ | ⟨b,cap,cs,G,rfl,_⟩<;>rfl
theorem RdO.plain {w:World} {St:Nat→Nat→Prop} {c:Cl} {u:Value} {F:Nat→Prop} (hc:Gi c=false):RdO w St c u F↔RdD w St c u:=by
 cases c with
 | v x=>simp only[RdO,RdD]
 | sl xs=>simp only[RdO]
 | ref l=>simp[RdO,RdD]
 | ow ty sz xs=>simp[Gi] at hc
inductive Res where
 | val (x:AV)
 | own (ty:TypeId) (sz:Nat) (xs:List (List Cl)) (wr:Bool)
 | agg (cl:List Cl)
def Res1 (w':World) (St':Nat→Nat→Prop) (B:Nat):Res→Value→Option Nat→(Nat→Nat→Prop)→Prop
 | .val x,u,b,_=>RdA w' St' x u∧b=none
 | .own _ _ xs _,u,none,_=>u = .slice none 0 0∧xs = []
 | .own ty sz xs wr,u,some b,Φ=>B≤b∧b<w'.heap.size∧(∀ x∈xs,x.length=sz)∧(∀ o,St' b o→wr=false∧o<xs.length*sz) ∧
   ∃ (cap:Nat) (cs:Array Value),u = .slice (some ⟨b,0,none⟩) xs.length cap∧xs.length≤cap∧cap≤maxLen∧w'.heap[b]?=some (.cells cs ty (0,0))∧cs.size=cap*sz ∧
    ∀ (k:Nat) (c:Cl),xs.flatten[k]?=some c→∃ y,cs[k]?=some y∧RdO w' St' c y (Φ k)
 | .agg cl,u,b,Φ=>b=none∧∃ us:List Value,u = .agg us.toArray∧us.length=cl.length∧∀ (k:Nat) (c:Cl),cl[k]?=some c→∃ y,us[k]?=some y∧RdO w' St' c y (Φ k)
def ResR (w':World) (St':Nat→Nat→Prop) (B:Nat):List Res→List Value→List (Option Nat)→List (Nat→Nat→Prop)→Prop
 | [],us,bs,Φs=>us = []∧bs = []∧Φs = []
 | r::rs,us,bs,Φs=>∃ u us' b bs' Φ Φs',us=u::us'∧bs=b::bs'∧Φs=Φ::Φs'∧Res1 w' St' B r u b Φ∧ResR w' St' B rs us' bs' Φs'
structure FpOk (w':World) (St':Nat→Nat→Prop) (B:Nat) (bs:List (Option Nat)) (Φs:List (Nat→Nat→Prop)):Prop where
 nodup:∀ (i j b:Nat),bs[i]?=some (some b)→bs[j]?=some (some b)→i=j
 fresh:∀ (i:Nat) (Φ:Nat→Nat→Prop) (k x:Nat),Φs[i]?=some Φ→Φ k x→B≤x∧x<w'.heap.size∧(∀ o,¬ St' x o)∧∀ j:Nat,bs[j]?≠some (some x)
 dis:∀ (i i':Nat) (Φ Φ':Nat→Nat→Prop) (k k' x:Nat),Φs[i]?=some Φ→Φs[i']?=some Φ'→Φ k x→Φ' k' x→i=i'∧k=k'
theorem FpOk.tail {w':World} {St':Nat→Nat→Prop} {B:Nat} {b:Option Nat} {bs:List (Option Nat)} {Φ:Nat→Nat→Prop} {Φs:List (Nat→Nat→Prop)} (h:FpOk w' St' B (b::bs) (Φ::Φs)):FpOk w' St' B bs Φs where
 nodup:=fun i j x hi hj=>by have:=h.nodup (i+1) (j+1) x AOk AOk; omega
 fresh:=fun i Ψ k x hi hx=>by
  obtain⟨q1,q2,q3,q4⟩:=h.fresh (i+1) Ψ k x AOk hx
  exact⟨q1,q2,q3,fun j hj=>q4 (j+1) AOk⟩
 dis:=fun i i' Ψ Ψ' k k' x hi hi' hx hx'=>by
  have:=h.dis (i+1) (i'+1) Ψ Ψ' k k' x AOk AOk hx hx'
  omega
def XK:List Value→Value
 | [u]=>u
 | us=>.tuple us.toArray
structure Back (w:World) (St:Nat→Nat→Prop) (rs:List Res) (e:Ending) (w':World) (us:List Value) (bs:List (Option Nat)) (St':Nat→Nat→Prop):Prop where
 ret:e = .returned (XK us)
 below:Below w.heap.size w w'
 st:∀ b o,St b o→St' b o
 stOld:∀ b o,St' b o→b<w.heap.size→St b o
 stIn:∀ b o,St' b o→b<w'.heap.size
 res:∃ Φs,ResR w' St' w.heap.size rs us bs Φs∧FpOk w' St' w.heap.size bs Φs
def CallsIn (P:Program) (f:FuncId):Prop:=∀ args w,(callFunc f args).run P w = .ok (.enter f args) w
def Ctr (P:Program) (f:FuncId) (args:List AV) (rs:List Res):Prop:=
 CallsIn P f∧∀ (w:World) (St:Nat→Nat→Prop) (vs:List Value),(∀ b o,St b o→b<w.heap.size)→RdAs w St args vs →
  Calls P f vs.toArray w fun e w'=>∃ us bs St',Back w St rs e w' us bs St'
def WfR:Res→Prop
 | .val x=>WfA x
 | .own _ _ xs _=>xs.length≤maxLen∧kU xs
 | .agg cl=>XH cl
def Yy:List Res→Prop
 | []=>True
 | r::rs=>WfR r∧Yy rs
theorem ACB {xs:List (List Cl)} {sz:Nat} {Q:Cl→Prop} (hl:∀ x∈xs,x.length=sz) (h:∀ (k:Nat) (c:Cl),xs.flatten[k]?=some c→Q c):∀ x∈xs,∀ (j:Nat) (c:Cl),x[j]?=some c→Q c:=by
 intro x hx j c hj
 obtain⟨i,hi⟩:=aa6.1 hx
 exact h _ c (FZ hl i j x c hi hj)
mutual
theorem RdO.wf {w:World} {St:Nat→Nat→Prop}:∀ (c:Cl) (u:Value) (F:Nat→Prop),RdO w St c u F→uj c
 | .v x,u,F,h=>by simp only[RdO] at h; simp only[uj]; exact h.2
 | .sl xs,u,F,h=>by simp only[RdO] at h; exact RdD.wf _ _ h
 | .ref _,u,F,h=>by simp[RdO] at h
 | .ow ty sz xs,u,F,h=>by
  simp only[RdO] at h
  simp only[uj]
  rcases h with ⟨_,rfl⟩ | ⟨b,cap,cs,G,_,h2,h3,_,_,_,_,_,_,h10⟩
  ·exact⟨AOi,by simp[kU]⟩
  ·exact⟨AOh,RdOE.wf xs 0 cs G h10⟩
theorem RdOE.wf {w:World} {St:Nat→Nat→Prop}:∀ (xs:List (List Cl)) (n:Nat) (cs:Array Value) (G:Nat→Nat→Prop),RdOE w St xs n cs G→kU xs
 | [],_,_,_,_=>by simp[kU]
 | x::xs,n,cs,G,h=>by
  simp only[RdOE] at h
  simp only[kU]
  exact⟨RdOL.wf x n cs G h.1,RdOE.wf xs _ cs G h.2⟩
theorem RdOL.wf {w:World} {St:Nat→Nat→Prop}:∀ (cl:List Cl) (n:Nat) (cs:Array Value) (G:Nat→Nat→Prop),RdOL w St cl n cs G→XH cl
 | [],_,_,_,_=>by simp[XH]
 | c::cl,n,cs,G,h=>by
  simp only[RdOL] at h
  simp only[XH]
  obtain⟨⟨y,_,h2⟩,h3⟩:=h
  exact⟨RdO.wf c y _ h2,RdOL.wf cl _ cs G h3⟩
end
theorem ResR.wf {w':World} {St':Nat→Nat→Prop} {B:Nat}:∀ {rs:List Res} {us:List Value} {bs:List (Option Nat)} {Φs:List (Nat→Nat→Prop)},ResR w' St' B rs us bs Φs→Yy rs
 | [],_,_,_,_=>trivial
 | r::rs,us,bs,Φs,h=>by
  obtain⟨u,us',b,bs',Φ,Φs',_,_,_,h1,h2⟩:=h
  refine⟨?_,h2.wf⟩
  cases r with
  | val x=>exact h1.1.wf
  | agg cl =>
   obtain⟨_,us2,_,_,h3⟩:=h1
   exact dS _ fun k c hk=>by obtain⟨y,_,hy⟩:=h3 k c hk; exact RdO.wf c y _ hy
  | own ty sz xs wr =>
   cases b with
   | none=>obtain⟨_,rfl⟩:=h1; exact⟨AOi,trivial⟩
   | some b =>
    obtain⟨_,_,hl,_,cap,cs,_,q1,q2,_,_,q3⟩:=h1
    refine⟨AOh,AD1 _ fun x hx=>dS _ fun k c hk=>?_⟩
    exact ACB (Q:=uj) hl (fun k c hk=>by obtain⟨y,_,hy⟩:=q3 k c hk; exact RdO.wf c y _ hy) x hx k c hk
def dV:Res→Res
 | .val x=>.val x
 | .own _ _ xs _=>.val (.c (.sl (Qa xs)))
 | .agg cl=>.val (.agg (KI cl))
theorem VX {w w':World} {St St':Nat→Nat→Prop} {rs:List Res} {e:Ending} {us:List Value} {bs:List (Option Nat)} (hb:Back w St rs e w' us bs St'):∃ bs' St'',Back w St (rs.map dV) e w' us bs' St'':=by
 obtain⟨Φs,hr,hf⟩:=hb.res
 have key:∀ (rs:List Res) (us:List Value) (bs:List (Option Nat)) (Φs:List (Nat→Nat→Prop)) (T:Nat→Nat→Prop),ResR w' St' w.heap.size rs us bs Φs→(∀ b o,St' b o→T b o) →
   (∀ (i b:Nat),bs[i]?=some (some b)→∀ o,T b o)→(∀ (i:Nat) (Φ:Nat→Nat→Prop) (k x:Nat),Φs[i]?=some Φ→Φ k x→∀ o,T x o)→∃ bs' Φs',ResR w' T w.heap.size (rs.map dV) us bs' Φs'∧(∀ i b:Nat,bs'[i]?≠some (some b))∧∀ (i:Nat) (Φ:Nat→Nat→Prop) (k x:Nat),Φs'[i]?=some Φ→¬ Φ k x:=by
  intro rs
  induction rs with
  | nil =>
   intro us bs Φs T h _ _ _
   obtain⟨rfl,_,_⟩:=h
   exact⟨[],[],⟨rfl,rfl,rfl⟩,fun i b=>AOi,fun i Φ k x h=>AO_⟩
  | cons r rs ih =>
   intro us bs Φs T h hT hbs hΦ
   obtain⟨u,us',b,bs',Φ,Φs',rfl,rfl,rfl,h1,h2⟩:=h
   obtain⟨bs2,Φs2,q1,q2,q3⟩:=ih us' bs' Φs' T h2 hT (fun i b hi=>hbs (i+1) b AOk) (fun i Ψ k x hi=>hΦ (i+1) Ψ k x AOk)
   have hcell:∀ (c:Cl) (y:Value) (k:Nat),RdO w' St' c y (Φ k)→RdD w' T (er c) y:=fun c y k hy =>
    RdD.mono (fun b' o hbo=>by
     rcases hbo with hbo | hbo
     ·grind
     ·exact hΦ 0 Φ k b' rfl hbo o) (fun _ _ _=>rfl) _ _ (RdO.frz c y _ hy)
   have hcons:Res1 w' T w.heap.size (dV r) u none (fun _ _=>False):=by
    cases r with
    | val x=>exact⟨h1.1.mono hT (fun _ _ _=>rfl),rfl⟩
    | agg cl =>
     obtain⟨_,us2,e1,e2,e3⟩:=h1
     refine⟨⟨us2,e1,by rw[VW]; exact e2,fun k c hk=>?_⟩,rfl⟩
     grind [zC]
    | own ty sz xs wr =>
     cases b with
     | none =>
      obtain⟨rfl,rfl⟩:=h1
      refine⟨?_,rfl⟩
      simp only[RdA,RdD,Qa]
      exact⟨none,0,rfl,AOi,by simp[maxLen],⟨0,AOi⟩,.inl AOi⟩
     | some b =>
      obtain⟨g1,g2,g3,g4,cap,cs,rfl,e2,e3,e4,e5,e6⟩:=h1
      refine⟨?_,rfl⟩
      simp only[RdA,RdD,og]
      have hl:∀ x∈Qa xs,x.length=sz:=fun x hx=>by
       grind [aa6,oh,VW,bF]
      refine⟨some ⟨b,0,none⟩,cap,rfl,e2,e3,⟨sz,hl⟩,.inr ⟨b,0,rfl, ?_⟩⟩
      refine ADp sz hl fun i x hi=>AC7 fun j c hj=>?_
      obtain⟨x0,hx0,rfl⟩:=oh hi
      obtain⟨c0,hc0,rfl⟩:=zC hj
      obtain⟨v,hv,hc⟩:=e6 _ c0 (FZ g3 i j x0 c0 hx0 hc0)
      refine⟨hbs 0 b rfl _,v, ?_,hcell c0 v _ hc⟩
      rw[World.cell?,e4]
      grind
   refine⟨none::bs2,(fun _ _=>False)::Φs2,⟨u,us',none,bs2,_,Φs2,rfl,rfl,rfl,hcons,q1⟩,fun i b=>?_,fun i Ψ k x hi hx=>?_⟩
   ·grind
   ·cases i with
    | zero=>grind
    | succ i=>exact q3 i Ψ k x AOk hx
 obtain⟨bs',Φs',q1,q2,q3⟩:=key rs us bs Φs (fun b o=>St' b o∨(∃ i:Nat,bs[i]?=some (some b))∨∃ (i:Nat) (Φ:Nat→Nat→Prop) (k:Nat),Φs[i]?=some Φ∧Φ k b) hr (fun _ _ h=>.inl h) (fun i b hi o=>.inr (.inl ⟨i,hi⟩)) (fun i Φ k x hi hx o=>.inr (.inr ⟨i,Φ,k,hi,hx⟩))
 have hblk:∀ (rs:List Res) (us:List Value) (bs:List (Option Nat)) (Φs:List (Nat→Nat→Prop)),ResR w' St' w.heap.size rs us bs Φs→∀ (i b:Nat),bs[i]?=some (some b)→w.heap.size≤b∧b<w'.heap.size:=by
  intro rs
  induction rs with
  | nil=>intro us bs Φs h i b hi; obtain⟨_,rfl,_⟩:=h; simp at hi
  | cons r rs ih =>
   intro us bs Φs h i b hi
   obtain⟨u,us',b0,bs',Φ,Φs',rfl,rfl,rfl,h1,h2⟩:=h
   cases i with
   | succ i=>grind
   | zero =>
    simp only[aQ,ak] at hi
    subst hi
    cases r with
    | val x=>exact absurd h1.2 AOi
    | own ty sz xs wr=>exact⟨h1.1,h1.2.1⟩
    | agg cl=>exact absurd h1.1 AOi
 refine⟨bs',_,⟨hb.ret,hb.below,fun b o h=>.inl (hb.st b o h), ?_, ?_,Φs',q1,⟨fun i j b hi=>absurd hi (q2 i b),fun i Φ k x hi hx=>(q3 i Φ k x hi hx).elim,fun i i' Φ Φ' k k' x hi _ hx=>(q3 i Φ k x hi hx).elim⟩⟩⟩
 ·intro b o h hlt
  rcases h with h | ⟨i,hi⟩ | ⟨i,Φ,k,hi,hx⟩
  ·exact hb.stOld b o h hlt
  ·grind
  ·have:=(hf.fresh i Φ k b hi hx).1; omega
 ·intro b o h
  rcases h with h | ⟨i,hi⟩ | ⟨i,Φ,k,hi,hx⟩
  ·exact hb.stIn b o h
  ·grind
  ·exact(hf.fresh i Φ k b hi hx).2.1
theorem Ctr.frz {P:Program} {f:FuncId} {args:List AV} {rs:List Res} (h:Ctr P f args rs):Ctr P f args (rs.map dV):=
 ⟨h.1,fun w St vs h1 h2=>(h.2 w St vs h1 h2).mono fun e w' ⟨us,bs,St',hb⟩=>by
  grind [VX]⟩
variable {P:Program} {w0:Bs} {St0 St:Nat→Nat→Prop} {β:Nat→Option Nat} {s:MS} {a:Act} {w:World}
theorem Core.addObB (h:Core w0 St0 St β s a w) (ob:Ob) (ob':Option Nat) (hnone:ob'=none→ob.xs = [])
  (hsome:∀ b,ob'=some b→w0.may b∧b<w.heap.size∧(∀ l o2,s.st[l]?=some o2→o2.live=true→β l≠some b)∧(∀ o,St b o→ob.wr=false∧o<ob.xs.length*ob.sz) ∧
   ∃ cs:Array Value,w.heap[b]?=some (.cells cs ob.ty (0,0))∧(∀ x∈ob.xs,x.length=ob.sz)∧∀ (k:Nat) (c:Cl),ob.xs.flatten[k]?=some c→∃ u,cs[k]?=some u∧RdB w St s.st β c u)
  (hown:Own w0 (fun _=>False) w St (s.st ++ [ob]) (fun l=>if l=s.st.length then ob' else β l)) :
  Core w0 St0 St (fun l=>if l=s.st.length then ob' else β l) ⟨s.n,s.env,s.st ++ [ob]⟩ a w ∧
   (∀ x u,AVR w St s.st β x u→AVR w St (s.st ++ [ob]) (fun l=>if l=s.st.length then ob' else β l) x u)∧(∀ x u,RdC w St s.st β x u→RdC w St (s.st ++ [ob]) (fun l=>if l=s.st.length then ob' else β l) x u):=by
 have hold:∀ l,l<s.st.length→(s.st ++ [ob])[l]?=s.st[l]?:=fun l hl=>AOk
 have hr:∀ l u,BN w s.st β l u→BN w (s.st ++ [ob]) (fun l=>if l=s.st.length then ob' else β l) l u:=by
  intro l u hu
  have hl:=oV hu
  unfold BN at hu ⊢
  have hne:¬ l=s.st.length:=AOh
  simp only[hold l hl,hne,aW]
  exact hu
 have hp:∀ l i off u,AVR w St s.st β (.lp l i off) u→AVR w St (s.st ++ [ob]) (fun l=>if l=s.st.length then ob' else β l) (.lp l i off) u:=by
  exact AM8
 have hA:∀ x u,AVR w St s.st β x u→AVR w St (s.st ++ [ob]) (fun l=>if l=s.st.length then ob' else β l) x u:=fun x u hx=>AVR.mono (fun _ _ h=>h) (fun _ _ _=>rfl) hr hp x u hx
 have hC:∀ x u,RdC w St s.st β x u→RdC w St (s.st ++ [ob]) (fun l=>if l=s.st.length then ob' else β l) x u:=fun x u hx=>RdC.mono (fun _ _ h=>h) (fun _ _ _=>rfl) hr x u hx
 have hBB:∀ x u,RdB w St s.st β x u→RdB w St (s.st ++ [ob]) (fun l=>if l=s.st.length then ob' else β l) x u:=fun x u hx=>RdB.mono (fun _ _ h=>h) (fun _ _ _=>rfl) hr x u hx
 have hsplit:∀ l o2,(s.st ++ [ob])[l]?=some o2→(l<s.st.length∧s.st[l]?=some o2)∨(l=s.st.length∧o2=ob):=by
  exact AOV
 refine⟨?_,hA,hC⟩
 exact {
  defers:=h.defers
  size:=h.size
  lim:=h.lim
  env:=fun i=>hA _ _ (h.env i)
  below:=h.below
  st0:=h.st0
  stOld:=h.stOld
  stIn:=h.stIn
  obs:=fun l o2 b hl hlive hβ=>by
   rcases hsplit l o2 hl with ⟨h1,h2⟩ | ⟨rfl,rfl⟩
   ·have hne:¬ l=s.st.length:=by omega
    simp only[hne,aW] at hβ
    obtain⟨q1,q2,cs,g1,g2,g3⟩:=h.obs l o2 b h2 hlive hβ
    exact AN_
   ·simp only[aX] at hβ
    obtain⟨q1,q2,_,_,cs,g1,g2,g3⟩:=hsome b hβ
    exact AN_
  nil:=fun l o2 hl hlive hβ=>by
   exact AMY
  inj:=fun l1 l2 o1 o2 b h1 h2 h3 h4 h5 h6=>by
   rcases hsplit l1 o1 h1 with ⟨p1,p2⟩ | ⟨rfl,rfl⟩<;>rcases hsplit l2 o2 h2 with ⟨q1,q2⟩ | ⟨rfl,rfl⟩
   ·exact AMa
   ·grind
   ·grind
   ·rfl
  sep:=fun l o2 b o hl hlive hβ hbo=>by
   rcases hsplit l o2 hl with ⟨h1,h2⟩ | ⟨rfl,rfl⟩
   ·exact ANR
   grind
  own:=hown }
theorem Own.addOb {R:Nat→Prop} {st:List Ob} (hN:Own w0 R w St st β) (ob:Ob) (ob':Option Nat) (hfree:∀ x,PH w0 R w St st β x→ob'≠some x) (hno:∀ b,ob'=some b→∀ (k:Nat) (c:Cl),ob.xs.flatten[k]?=some c→Gi c=false) {R':Nat→Prop} (hR:∀ x,R' x→R x) :
  Own w0 R' w St (st ++ [ob]) (fun l=>if l=st.length then ob' else β l):=by
 refine hN.move id (fun x hx=>⟨⟨hx.1,fun h=>hx.2.1 (hR x h),hx.2.2.1,hx.2.2.2.1,fun l o2 hl hlv=>?_⟩,rfl⟩) (fun _ _ h=>h) (fun _ _ _=>rfl) (fun l o2 b k c hl hlive hβ hk hc=>?_) (fun _ _ _ _ _ _ _ _ e=>e)
 ·by_cases e:l=st.length
  ·grind
  ·simp only[e,aW]
   have hlt:l<st.length:=by
    exact AOW
   rw[bG hlt] at hl
   exact hx.2.2.2.2 l o2 hl hlv
 grind
theorem Core.addOb (h:Core w0 St0 St β s a w) (ob:Ob) (ob':Option Nat) (hnone:ob'=none→ob.xs = [])
  (hsome:∀ b,ob'=some b→w0.may b∧b<w.heap.size∧(∀ l o2,s.st[l]?=some o2→o2.live=true→β l≠some b)∧(∀ o,St b o→ob.wr=false∧o<ob.xs.length*ob.sz) ∧
   ∃ cs:Array Value,w.heap[b]?=some (.cells cs ob.ty (0,0))∧(∀ x∈ob.xs,x.length=ob.sz)∧∀ (k:Nat) (c:Cl),ob.xs.flatten[k]?=some c→∃ u,cs[k]?=some u∧RdC w St s.st β c u)
  {R:Nat→Prop} (hN:Own w0 R w St s.st β) (hfree:∀ x,PH w0 R w St s.st β x→ob'≠some x) :
  Core w0 St0 St (fun l=>if l=s.st.length then ob' else β l) ⟨s.n,s.env,s.st ++ [ob]⟩ a w ∧
   (∀ x u,AVR w St s.st β x u→AVR w St (s.st ++ [ob]) (fun l=>if l=s.st.length then ob' else β l) x u)∧(∀ x u,RdC w St s.st β x u→RdC w St (s.st ++ [ob]) (fun l=>if l=s.st.length then ob' else β l) x u):=by
 refine h.addObB ob ob' hnone (fun b hb=>?_) (hN.addOb ob ob' hfree (fun b hb k c hk=>?_) (fun _ h=>h.elim))
 ·obtain⟨q1,q2,q3,q4,cs,g1,g2,g3⟩:=hsome b hb
  refine⟨q1,q2,q3,q4,cs,g1,g2,fun k c hk=>?_⟩
  obtain⟨u,hu,hc⟩:=g3 k c hk
  exact⟨u,hu,hc.toB⟩
 ·obtain⟨q1,q2,q3,q4,cs,g1,g2,g3⟩:=hsome b hb
  obtain⟨u,hu,hc⟩:=g3 k c hk
  exact hc.notOw
theorem Own.addO {R:Nat→Prop} {st:List Ob} (hN:Own w0 R w St st β) (ob:Ob) {b:Nat} (hb:R b) (Ψ:Nat→Nat→Prop) (hΨ:∀ k x,Ψ k x→R x∧w0.may x∧x<w.heap.size∧(∀ o,¬ St x o)∧x≠b∧∀ (l:Nat) (o2:Ob),st[l]?=some o2→o2.live=true→β l≠some x)
  (hdis:∀ k k' x,Ψ k x→Ψ k' x→k=k') (hrd:∀ (k:Nat) (c:Cl),ob.xs.flatten[k]?=some c→Gi c=true→∃ u,w.cell? ⟨b,k,none⟩=some u∧RdO w St c u (Ψ k)) (hlive:ob.live=true) (R':Nat→Prop) (hR:∀ x,R' x→R x∧∀ k,¬ Ψ k x) :
  Own w0 R' w St (st ++ [ob]) (fun l=>if l=st.length then some b else β l):=by
 obtain⟨φ,h1,h2,h3⟩:=hN
 have hsplit:∀ (l:Nat) (o2:Ob),(st ++ [ob])[l]?=some o2→(l<st.length∧st[l]?=some o2)∨(l=st.length∧o2=ob):=by
  intro l o2 hl
  rcases bQ l st.length with q1 | q1
  ·grind
  ·grind
 have hφl:∀ l k x,φ l k x→l<st.length:=fun l k x hx=>by
  grind
 refine⟨fun l k x=>if l=st.length then Ψ k x else φ l k x, ?_, ?_, ?_⟩
 ·intro l o2 b2 k c hl hlv hβ hk hc
  rcases hsplit l o2 hl with ⟨q1,q2⟩ | ⟨rfl,rfl⟩
  ·have e:¬ l=st.length:=by omega
   simp_all
  grind
 ·intro l k x hx
  by_cases e:l=st.length
  ·subst e
   simp only[aX] at hx
   obtain⟨q1,q2,q3,q4,q5,q6⟩:=hΨ k x hx
   refine⟨⟨ob,b,AOi,hlive,AOi⟩,q2,fun h=>(hR x h).2 k hx,q3,q4,fun l o2 hl hlv=>?_⟩
   grind
  ·simp only[e,aW] at hx
   obtain⟨⟨o2,b2,p1,p2,p3⟩,q1,q2,q3,q4,q5⟩:=h2 l k x hx
   have hl:=hφl l k x hx
   refine⟨⟨o2,b2,AOk,p2,AOk⟩,q1,fun h=>q2 (hR x h).1,q3,q4,fun l' o3 hl' hlv=>?_⟩
   grind
 ·intro l l' k k' x hx hx'
  by_cases e:l=st.length<;>by_cases e':l'=st.length
  ·grind
  ·simp only[e,e',aX,aW] at hx hx'
   exact absurd (hΨ k x hx).1 (h2 l' k' x hx').2.2.1
  ·simp only[e,e',aX,aW] at hx hx'
   exact absurd (hΨ k' x hx').1 (h2 l k x hx).2.2.1
  grind
def G6:List Cl→List Ob
 | []=>[]
 | .ow ty sz xs::r=>⟨ty,sz,xs,true,true⟩::G6 r
 | .v _::r=>G6 r
 | .sl _::r=>G6 r
 | .ref _::r=>G6 r
def Jf (n:Nat):List Cl→List Cl
 | []=>[]
 | .ow _ _ _::r=>.ref n::Jf (n+1) r
 | .v x::r=>.v x::Jf n r
 | .sl xs::r=>.sl xs::Jf n r
 | .ref l::r=>.ref l::Jf n r
def Iw (st:List Ob):List Res→List AV×List Ob
 | []=>([],st)
 | .val x::r=>(x::(Iw st r).1,(Iw st r).2)
 | .own ty sz xs wr::r=>(.c (.ref st.length)::(Iw (st ++ [⟨ty,sz,xs,wr,true⟩]) r).1,(Iw (st ++ [⟨ty,sz,xs,wr,true⟩]) r).2)
 | .agg cl::r=>(.agg (Jf st.length cl)::(Iw (st++G6 cl) r).1,(Iw (st++G6 cl) r).2)
def XL:List Res→List AV
 | []=>[]
 | .val x::r=>x::XL r
 | .own _ _ xs _::r=>.c (.sl (Qa xs))::XL r
 | .agg cl::r=>.agg (KI cl)::XL r
def retA:List AV→AV
 | [x]=>x
 | xs=>.tup xs
theorem um (h:Core w0 St0 St β s a w) {R:Nat→Prop} (hN:Own w0 R w St s.st β) {ty:TypeId} {sz:Nat} {xs:List (List Cl)} (wr:Bool) {b cap:Nat} {cs:Array Value} {u:Value} (G:Nat→Nat→Prop) (hu:u = .slice (some ⟨b,0,none⟩) xs.length cap) (h2:xs.length≤cap) (h3:cap≤maxLen)
  (h4:w.heap[b]?=some (.cells cs ty (0,0))) (h5:cs.size=cap*sz) (h6:∀ x∈xs,x.length=sz) (hrd:∀ (k:Nat) (c:Cl),xs.flatten[k]?=some c→∃ y,cs[k]?=some y∧RdO w St c y (G k))
  (hb:R b) (hmay:w0.may b) (hlt:b<w.heap.size) (hfb:∀ l o2,s.st[l]?=some o2→o2.live=true→β l≠some b) (hsep:∀ o,St b o→wr=false∧o<xs.length*sz)
  (hG:∀ k x,G k x→R x∧w0.may x∧x<w.heap.size∧(∀ o,¬ St x o)∧x≠b∧∀ (l:Nat) (o2:Ob),s.st[l]?=some o2→o2.live=true→β l≠some x) (hdis:∀ k k' x,G k x→G k' x→k=k') :
  ∃ β',Core w0 St0 St β' ⟨s.n,s.env,s.st ++ [⟨ty,sz,xs,wr,true⟩]⟩ a w∧Own w0 (fun x=>R x∧∀ k,¬ G k x) w St (s.st ++ [⟨ty,sz,xs,wr,true⟩]) β' ∧
   (∀ x u,AVR w St s.st β x u→AVR w St (s.st ++ [⟨ty,sz,xs,wr,true⟩]) β' x u)∧RdC w St (s.st ++ [⟨ty,sz,xs,wr,true⟩]) β' (.ref s.st.length) u∧(∀ l,l<s.st.length→β' l=β l)∧β' s.st.length=some b:=by
 have hown:∀ R',(∀ x,R' x→R x∧∀ k,¬ G k x)→Own w0 R' w St (s.st ++ [⟨ty,sz,xs,wr,true⟩]) (fun l=>if l=s.st.length then some b else β l):=fun R' hR=>hN.addO ⟨ty,sz,xs,wr,true⟩ hb G hG hdis (fun k c hk _=>by
  obtain⟨y,hy,hr⟩:=hrd k c hk
  exact⟨y,by simp[World.cell?,h4,hy],hr⟩) rfl R' hR
 obtain⟨a1,a2,a3⟩:=h.addObB ⟨ty,sz,xs,wr,true⟩ (some b) AOi (fun b' hb'=>by
  simp only[ak] at hb'
  subst hb'
  refine⟨hmay,hlt,hfb,hsep,cs,h4,h6,fun k c hk=>?_⟩
  obtain⟨y,hy,hr⟩:=hrd k c hk
  exact⟨y,hy,hr.toB⟩) (hown _ fun _ h=>h.elim)
 refine⟨_,a1,hown _ fun _ h=>h,a2, ?_,fun l hl=>AOk,AOi⟩
 simp only[RdC,BN]
 rw[aY (aT _)]
 simp only[jP,aQ,aX]
 subst hu
 exact⟨by first | trivial | rfl,fun _=>⟨cap,cs,AOk,h2,h3,h4,h5⟩⟩
theorem AD4 (h:Core w0 St0 St β s a w) {R:Nat→Prop} (hN:Own w0 R w St s.st β) (ty:TypeId) (sz:Nat) (wr:Bool) :
  ∃ β',Core w0 St0 St β' ⟨s.n,s.env,s.st ++ [⟨ty,sz,[],wr,true⟩]⟩ a w∧Own w0 R w St (s.st ++ [⟨ty,sz,[],wr,true⟩]) β' ∧
   (∀ x u,AVR w St s.st β x u→AVR w St (s.st ++ [⟨ty,sz,[],wr,true⟩]) β' x u)∧RdC w St (s.st ++ [⟨ty,sz,[],wr,true⟩]) β' (.ref s.st.length) (.slice none 0 0)∧(∀ l,l<s.st.length→β' l=β l)∧β' s.st.length=none:=by
 obtain⟨a1,a2,a3⟩:=h.addOb ⟨ty,sz,[],wr,true⟩ none (fun _=>rfl) AOi hN AOi
 refine⟨_,a1,hN.addOb _ none AOi AOi (fun _ h=>h),a2, ?_,fun l hl=>AOk,AOi⟩
 simp only[RdC,BN]
 rw[aY (aT _)]
 simp only[jP,aQ,aX]
 simp[Value.oneCell']
theorem VY:∀ (cl:List Cl) (us:List Value) (Φ:Nat→Nat→Prop) (st:List Ob) (β:Nat→Option Nat) (R:Nat→Prop),Core w0 St0 St β ⟨s.n,s.env,st⟩ a w→Own w0 R w St st β→us.length=cl.length →
  (∀ (k:Nat) (c:Cl),cl[k]?=some c→∃ y,us[k]?=some y∧RdO w St c y (Φ k))→(∀ k x,Φ k x→R x∧w0.may x∧x<w.heap.size∧(∀ o,¬ St x o)∧∀ (l:Nat) (o2:Ob),st[l]?=some o2→o2.live=true→β l≠some x) →
  (∀ k k' x,Φ k x→Φ k' x→k=k')→∃ β',Core w0 St0 St β' ⟨s.n,s.env,st++G6 cl⟩ a w∧Own w0 (fun x=>R x∧∀ k,¬ Φ k x) w St (st++G6 cl) β' ∧
   (∀ (k:Nat) (c:Cl),(Jf st.length cl)[k]?=some c→∃ y,us[k]?=some y∧RdC w St (st++G6 cl) β' c y)∧(Jf st.length cl).length=cl.length∧(∀ x u,AVR w St st β x u→AVR w St (st++G6 cl) β' x u) ∧
   ∀ (l:Nat) (o2:Ob) (b:Nat),(st++G6 cl)[l]?=some o2→o2.live=true→β' l=some b→(st[l]?=some o2∧β l=some b)∨∃ k,Φ k b
 | [],us,Φ,st,β,R,h,hN,hl,hrd,hΦ,hdis=>by
  simp only[G6,bI,Jf]
  exact⟨β,h,hN.move id (fun x hx=>⟨⟨hx.1,fun h=>hx.2.1 h.1,hx.2.2⟩,rfl⟩) (fun _ _ h=>h) (fun _ _ _=>rfl) (fun l ob b k c h1 h2 h3 h4 _=>⟨ob,b,h1,h2,h3,h4,rfl⟩) (fun _ _ _ _ _ _ _ _ e=>e),
   fun k c hk=>APM,AOk,fun _ _ h=>h,fun l o2 b h1 h2 h3=>.inl ⟨h1,h3⟩⟩
 | c::cl,us,Φ,st,β,R,h,hN,hl,hrd,hΦ,hdis=>by
  cases us with
  | nil=>simp at hl
  | cons u us =>
   have hl':us.length=cl.length:=APR
   have hrd':∀ (k:Nat) (c:Cl),cl[k]?=some c→∃ y,us[k]?=some y∧RdO w St c y ((fun k=>Φ (k+1)) k):=fun k c hk=>by
    simpa using hrd (k+1) c AOk
   obtain⟨u0,hu0,hr0⟩:=hrd 0 c rfl
   simp only[aQ,ak] at hu0
   subst hu0
   have plain:Gi c=false→G6 (c::cl)=G6 cl→Jf st.length (c::cl)=c::Jf st.length cl→∃ β',Core w0 St0 St β' ⟨s.n,s.env,st++G6 (c::cl)⟩ a w∧Own w0 (fun x=>R x∧∀ k,¬ Φ k x) w St (st++G6 (c::cl)) β' ∧
     (∀ (k:Nat) (c2:Cl),(Jf st.length (c::cl))[k]?=some c2→∃ y,(u::us)[k]?=some y∧RdC w St (st++G6 (c::cl)) β' c2 y)∧(Jf st.length (c::cl)).length=(c::cl).length∧(∀ x u,AVR w St st β x u→AVR w St (st++G6 (c::cl)) β' x u) ∧
     ∀ (l:Nat) (o2:Ob) (b:Nat),(st++G6 (c::cl))[l]?=some o2→o2.live=true→β' l=some b→(st[l]?=some o2∧β l=some b)∨∃ k,Φ k b:=by
    intro hc e1 e2
    rw[e1,e2]
    obtain⟨β',q1,q2,q3,q4,q5,q6⟩:=VY cl us (fun k=>Φ (k+1)) st β R h hN hl' hrd' (fun k x hx=>hΦ (k+1) x hx) (fun k k' x hx hx'=>AOk)
    refine⟨β',q1, ?_,fun k c2 hk=>?_,by simp[q4],q5,fun l o2 b h1 h2 h3=>?_⟩
    ·exact q2.move id (fun x hx=>⟨⟨hx.1,fun hh=>hx.2.1 ⟨hh.1,fun k=>hh.2 (k+1)⟩,hx.2.2⟩,rfl⟩) (fun _ _ h=>h) (fun _ _ _=>rfl) (fun l ob b k c h1 h2 h3 h4 _=>⟨ob,b,h1,h2,h3,h4,rfl⟩) (fun _ _ _ _ _ _ _ _ e=>e)
    ·grind [aQ,ak,RdD.toC,RdO.plain]
    ·grind
   cases c with
   | v x=>exact plain rfl rfl rfl
   | sl x=>exact plain rfl rfl rfl
   | ref x=>simp[RdO] at hr0
   | ow ty sz xs =>
    have step:∃ β1,Core w0 St0 St β1 ⟨s.n,s.env,st ++ [⟨ty,sz,xs,true,true⟩]⟩ a w∧Own w0 (fun x=>R x∧¬ Φ 0 x) w St (st ++ [⟨ty,sz,xs,true,true⟩]) β1 ∧
      (∀ x u,AVR w St st β x u→AVR w St (st ++ [⟨ty,sz,xs,true,true⟩]) β1 x u)∧RdC w St (st ++ [⟨ty,sz,xs,true,true⟩]) β1 (.ref st.length) u∧(∀ l,l<st.length→β1 l=β l)∧∀ b,β1 st.length=some b→Φ 0 b:=by
     simp only[RdO] at hr0
     rcases hr0 with ⟨rfl,rfl⟩ | ⟨b,cap,cs,G,g1,g2,g3,g4,g5,g6,g7,g8,g9,g10⟩
     ·obtain⟨β1,q1,q2,q3,q4,q5,q6⟩:=AD4 h hN ty sz true
      exact⟨β1,q1,q2.move id (fun x hx=>⟨⟨hx.1,fun hh=>hx.2.1 hh.1,hx.2.2⟩,rfl⟩) (fun _ _ h=>h) (fun _ _ _=>rfl) (fun l ob b k c h1 h2 h3 h4 _=>⟨ob,b,h1,h2,h3,h4,rfl⟩) (fun _ _ _ _ _ _ _ _ e=>e),q3,q4,q5,fun b hb=>AOk⟩
     ·obtain⟨p1,p2,p3,p4,p5⟩:=hΦ 0 b g7
      obtain⟨β1,q1,q2,q3,q4,q5,q6⟩:=um h hN true G g1 g2 g3 g4 g5 g6 (fun k c hk=>by simpa using g10.at hk) p1 p2 p3 p5 (fun o ho=>absurd ho (p4 o)) (fun k x hx=>by
       grind) g9
      refine⟨β1,q1, ?_,q3,q4,q5,fun b' hb'=>AOk⟩
      exact q2.move id (fun x hx=>⟨⟨hx.1,fun hh=>hx.2.1 ⟨hh.1,fun k hk=>hh.2 (g8 k x hk).1⟩,hx.2.2⟩,rfl⟩) (fun _ _ h=>h) (fun _ _ _=>rfl) (fun l ob b k c h1 h2 h3 h4 _=>⟨ob,b,h1,h2,h3,h4,rfl⟩) (fun _ _ _ _ _ _ _ _ e=>e)
    obtain⟨β1,q1,q2,q3,q4,q5,q6⟩:=step
    obtain⟨β',r1,r2,r3,r4,r5,r6⟩:=VY cl us (fun k=>Φ (k+1)) (st ++ [⟨ty,sz,xs,true,true⟩]) β1 _ q1 q2 hl' hrd' (fun k x hx=>by
     grind) (fun k k' x hx hx'=>AOk)
    have ea:st ++ [⟨ty,sz,xs,true,true⟩]++G6 cl=st++G6 (.ow ty sz xs::cl):=by simp[G6]
    have eb:Jf st.length (.ow ty sz xs::cl) = .ref st.length::Jf (st ++ [(⟨ty,sz,xs,true,true⟩:Ob)]).length cl:=by simp[Jf]
    rw[ea] at r1 r2 r3 r5 r6
    rw[eb]
    refine⟨β',r1, ?_,fun k c2 hk=>?_,AOk,fun x u hx=>r5 x u (q3 x u hx),fun l o2 b h1 h2 h3=>?_⟩
    ·exact r2.move id (fun x hx=>⟨⟨hx.1,fun hh=>hx.2.1 ⟨⟨hh.1,hh.2 0⟩,fun k=>hh.2 (k+1)⟩,hx.2.2⟩,rfl⟩) (fun _ _ h=>h) (fun _ _ _=>rfl) (fun l ob b k c h1 h2 h3 h4 _=>⟨ob,b,h1,h2,h3,h4,rfl⟩) (fun _ _ _ _ _ _ _ _ e=>e)
    ·cases k with
     | zero =>
      simp only[aQ,ak] at hk
      subst hk
      refine⟨u,rfl, ?_⟩
      have:=r5 (.c (.ref st.length)) u (by simpa only[AVR] using q4)
      simpa only[AVR] using this
     | succ k=>grind
    grind
theorem ZH (B:Nat):∀ (rs:List Res) (us:List Value) (bs:List (Option Nat)) (Φs:List (Nat→Nat→Prop)) (st:List Ob) (β:Nat→Option Nat) (R:Nat→Prop),Core w0 St0 St β ⟨s.n,s.env,st⟩ a w→w0.heap.size≤B→Own w0 R w St st β→ResR w St B rs us bs Φs→FpOk w St B bs Φs →
  (∀ (i b:Nat),bs[i]?=some (some b)→R b∧∀ l o2,st[l]?=some o2→o2.live=true→β l≠some b)→(∀ (i:Nat) (Φ:Nat→Nat→Prop) (k x:Nat),Φs[i]?=some Φ→Φ k x→R x∧∀ l o2,st[l]?=some o2→o2.live=true→β l≠some x) →
  ∃ β',Core w0 St0 St β' ⟨s.n,s.env,(Iw st rs).2⟩ a w∧AVRs w St (Iw st rs).2 β' (Iw st rs).1 us∧(∀ x u,AVR w St st β x u→AVR w St (Iw st rs).2 β' x u)
 | [],us,bs,Φs,st,β,R,h,_,_,hr,_,_,_=>by
  obtain⟨rfl,rfl,rfl⟩:=hr
  exact⟨β,h,by simp[Iw,AVRs],fun _ _ h=>h⟩
 | r::rs,us,bs,Φs,st,β,R,h,hB,hN,hr,hf,hbs,hΦs=>by
  obtain⟨u,us',b,bs',Φ,Φs',rfl,rfl,rfl,h1,h2⟩:=hr
  have hbs':∀ (i b:Nat),bs'[i]?=some (some b)→R b∧∀ l o2,st[l]?=some o2→o2.live=true→β l≠some b:=fun i b hi=>hbs (i+1) b AOk
  have hΦs':∀ (i:Nat) (Ψ:Nat→Nat→Prop) (k x:Nat),Φs'[i]?=some Ψ→Ψ k x→R x∧∀ l o2,st[l]?=some o2→o2.live=true→β l≠some x:=fun i Ψ k x hi=>hΦs (i+1) Ψ k x AOk
  have hsplit1:∀ (ob:Ob) (l:Nat) (o2:Ob),(st ++ [ob])[l]?=some o2→(l<st.length∧st[l]?=some o2)∨l=st.length:=by
   intro ob l o2 hl
   rcases bQ l st.length with q1 | q1
   ·grind
   ·grind
  cases r with
  | val x =>
   obtain⟨h1,_⟩:=h1
   obtain⟨β',q1,q2,q3⟩:=ZH B rs us' bs' Φs' st β R h hB hN h2 hf.tail hbs' hΦs'
   refine⟨β',q1, ?_,q3⟩
   simp only[Iw,AVRs]
   exact⟨u,us',rfl,q3 _ _ h1.toAVR,q2⟩
  | own ty sz xs wr =>
   have step:∃ β1,Core w0 St0 St β1 ⟨s.n,s.env,st ++ [⟨ty,sz,xs,wr,true⟩]⟩ a w∧Own w0 (fun x=>R x∧(∀ k,¬ Φ k x)∧b≠some x) w St (st ++ [⟨ty,sz,xs,wr,true⟩]) β1 ∧
     (∀ x u,AVR w St st β x u→AVR w St (st ++ [⟨ty,sz,xs,wr,true⟩]) β1 x u)∧RdC w St (st ++ [⟨ty,sz,xs,wr,true⟩]) β1 (.ref st.length) u∧(∀ l,l<st.length→β1 l=β l)∧β1 st.length=b:=by
    cases b with
    | none =>
     obtain⟨rfl,rfl⟩:=h1
     obtain⟨β1,q1,q2,q3,q4,q5,q6⟩:=AD4 h hN ty sz wr
     exact⟨β1,q1,q2.move id (fun x hx=>⟨⟨hx.1,fun hh=>hx.2.1 hh.1,hx.2.2⟩,rfl⟩) (fun _ _ h=>h) (fun _ _ _=>rfl) (fun l ob b k c h1 h2 h3 h4 _=>⟨ob,b,h1,h2,h3,h4,rfl⟩) (fun _ _ _ _ _ _ _ _ e=>e),q3,q4,q5,q6⟩
    | some b =>
     obtain⟨g1,g2,g3,g4,cap,cs,e1,e2,e3,e4,e5,e6⟩:=h1
     obtain⟨p1,p2⟩:=hbs 0 b rfl
     obtain⟨β1,q1,q2,q3,q4,q5,q6⟩:=um h hN wr Φ e1 e2 e3 e4 e5 g3 e6 p1 (.inl AOh) g2 p2 g4 (fun k x hx=>by
      obtain⟨r1,r2,r3,r4⟩:=hf.fresh 0 Φ k x rfl hx
      obtain⟨t1,t2⟩:=hΦs 0 Φ k x rfl hx
      exact⟨t1,.inl AOh,r2,r3,fun e=>r4 0 (by simp[e]),t2⟩) (fun k k' x hx hx'=>(hf.dis 0 0 Φ Φ k k' x rfl rfl hx hx').2)
     refine⟨β1,q1, ?_,q3,q4,q5,q6⟩
     exact q2.move id (fun x hx=>⟨⟨hx.1,fun hh=>hx.2.1 ⟨hh.1,hh.2.1⟩,hx.2.2⟩,rfl⟩) (fun _ _ h=>h) (fun _ _ _=>rfl) (fun l ob b k c h1 h2 h3 h4 _=>⟨ob,b,h1,h2,h3,h4,rfl⟩) (fun _ _ _ _ _ _ _ _ e=>e)
   obtain⟨β1,q1,q2,q3,q4,q5,q6⟩:=step
   obtain⟨β',r1,r2,r3⟩:=ZH B rs us' bs' Φs' (st ++ [⟨ty,sz,xs,wr,true⟩]) β1 _ q1 hB q2 h2 hf.tail (fun i b2 hi=>by
    obtain⟨p1,p2⟩:=hbs' i b2 hi
    refine⟨⟨p1,fun k hk=>(hf.fresh 0 Φ k b2 rfl hk).2.2.2 (i+1) AOk,fun e=>by subst e; have:=hf.nodup 0 (i+1) b2 rfl AOk; omega⟩,fun l o2 hl hlv=>?_⟩
    rcases hsplit1 _ l o2 hl with ⟨h',h''⟩ | rfl
    ·grind
    ·rw[q6]; intro e; subst e; have:=hf.nodup 0 (i+1) b2 rfl AOk; omega) (fun i Ψ k x hi hx=>by
    obtain⟨p1,p2⟩:=hΦs' i Ψ k x hi hx
    have hxb:b≠some x:=fun e=>(hf.fresh (i+1) Ψ k x AOk hx).2.2.2 0 (by simp[e])
    refine⟨⟨p1,fun k' hk'=>by have:=(hf.dis 0 (i+1) Φ Ψ k' k x rfl AOk hk' hx).1; omega,hxb⟩,fun l o2 hl hlv=>?_⟩
    grind)
   refine⟨β',r1, ?_,fun x u hx=>r3 x u (q3 x u hx)⟩
   simp only[Iw,AVRs]
   exact⟨u,us',rfl,r3 (.c (.ref st.length)) u (by simpa only[AVR] using q4),r2⟩
  | agg cl =>
   obtain⟨rfl,us2,rfl,hl2,hrd⟩:=h1
   obtain⟨β1,q1,q2,q3,q4,q5,q6⟩:=VY cl us2 Φ st β R h hN hl2 hrd (fun k x hx=>by
    obtain⟨r1,r2,r3,r4⟩:=hf.fresh 0 Φ k x rfl hx
    obtain⟨t1,t2⟩:=hΦs 0 Φ k x rfl hx
    exact⟨t1,.inl AOh,r2,r3,t2⟩) (fun k k' x hx hx'=>(hf.dis 0 0 Φ Φ k k' x rfl rfl hx hx').2)
   obtain⟨β',r1,r2,r3⟩:=ZH B rs us' bs' Φs' (st++G6 cl) β1 _ q1 hB q2 h2 hf.tail (fun i b2 hi=>by
    obtain⟨p1,p2⟩:=hbs' i b2 hi
    have hno:∀ k,¬ Φ k b2:=fun k hk=>(hf.fresh 0 Φ k b2 rfl hk).2.2.2 (i+1) AOk
    grind) (fun i Ψ k x hi hx=>by
    obtain⟨p1,p2⟩:=hΦs' i Ψ k x hi hx
    have hno:∀ k',¬ Φ k' x:=fun k' hk'=>by have:=(hf.dis 0 (i+1) Φ Ψ k' k x rfl AOk hk' hx).1; omega
    grind)
   refine⟨β',r1, ?_,fun x u hx=>r3 x u (q5 x u hx)⟩
   simp only[Iw,AVRs]
   refine⟨_,us',rfl,r3 _ _ ?_,r2⟩
   simp only[AVR]
   grind
theorem LD {st:List Ob}:∀ {xs:List AV} {us:List Value},AVRs w St st β xs us→AVR w St st β (retA xs) (XK us)
 | [],us,h=>by simp only[AVRs] at h; subst h; simp only[retA,XK,AVR]; exact⟨[],rfl,by simp[AVRs]⟩
 | [x],us,h=>by
  simp only[AVRs] at h
  obtain⟨y,ys,rfl,h1,rfl⟩:=h
  exact h1
 | x::x2::xs,us,h=>by
  have h':=h
  simp only[AVRs] at h
  obtain⟨y,ys,rfl,h1,y2,ys2,rfl,h2,h3⟩:=h
  simp only[retA,XK,AVR]
  grind
theorem ou {w':World} {St':Nat→Nat→Prop} {B:Nat} (rs:List Res):∀ {us:List Value} {bs:List (Option Nat)} {Φs:List (Nat→Nat→Prop)},ResR w' St' B (rs.map dV) us bs Φs→RdAs w' St' (XL rs) us:=by
 induction rs with
 | nil=>intro us bs Φs h; obtain⟨rfl,_,_⟩:=h; rfl
 | cons r rs ih =>
  intro us bs Φs h
  rw[YG] at h
  obtain⟨u,us',b,bs',Φ,Φs',rfl,rfl,rfl,h1,h2⟩:=h
  have h3:=ih h2
  cases r with
  | val x =>
   have h4:RdA w' St' x u:=h1.1
   exact⟨u,us',rfl,h4,h3⟩
  | own ty sz xs wr =>
   have h4:RdA w' St' (.c (.sl (Qa xs))) u:=h1.1
   exact⟨u,us',rfl,h4,h3⟩
  | agg cl =>
   have h4:RdA w' St' (.agg (KI cl)) u:=h1.1
   exact⟨u,us',rfl,h4,h3⟩
def Hr:Cl→Bool
 | .ref _=>false
 | _=>true
def DI (xs:List (List Cl)):Bool:=xs.all fun x=>x.all Hr
def Fp (st:List Ob) (β:Nat→Option Nat) (φ:Nat→Nat→Nat→Prop) (l x:Nat):Prop:=∃ ob,st[l]?=some ob∧ob.live=true∧(β l=some x∨∃ k,φ l k x)
section owns
variable {φ:Nat→Nat→Nat→Prop}
def VZ (w0:Bs) (w:World) (St:Nat→Nat→Prop) (st:List Ob) (β:Nat→Option Nat) (φ:Nat→Nat→Nat→Prop):Prop:=
 (∀ (l:Nat) (ob:Ob) (b k:Nat) (c:Cl),st[l]?=some ob→ob.live=true→β l=some b→ob.xs.flatten[k]?=some c→Gi c=true→∃ u,w.cell? ⟨b,k,none⟩=some u∧RdO w St c u (φ l k)) ∧
 (∀ l k x,φ l k x→(∃ ob b,st[l]?=some ob∧ob.live=true∧β l=some b)∧PH w0 (fun _=>False) w St st β x) ∧
 ∀ l l' k k' x,φ l k x→φ l' k' x→l=l'∧k=k'
theorem JQ (h:Core w0 St0 St β s a w) (hφ:VZ w0 w St s.st β φ) {l l' x:Nat} (h1:Fp s.st β φ l x) (h2:Fp s.st β φ l' x):l=l':=by
 obtain⟨ob,p1,p2,p3⟩:=h1
 obtain⟨ob',q1,q2,q3⟩:=h2
 rcases p3 with p3 | ⟨k,p3⟩<;>rcases q3 with q3 | ⟨k',q3⟩
 ·exact h.inj l l' ob ob' x p1 q1 p2 q2 p3 q3
 ·exact absurd p3 ((hφ.2.1 l' k' x q3).2.2.2.2.2 l ob p1 p2)
 ·exact absurd q3 ((hφ.2.1 l k x p3).2.2.2.2.2 l' ob' q1 q2)
 ·exact(hφ.2.2 l l' k k' x p3 q3).1
theorem Va (h:Core w0 St0 St β s a w) (hφ:VZ w0 w St s.st β φ) {l x:Nat} (h1:Fp s.st β φ l x) (hwr:∀ ob,s.st[l]?=some ob→ob.wr=true):w0.may x∧x<w.heap.size∧∀ o,¬ St x o:=by
 obtain⟨ob,p1,p2,p3⟩:=h1
 rcases p3 with p3 | ⟨k,p3⟩
 ·obtain⟨q1,q2,_⟩:=h.obs l ob x p1 p2 p3
  refine⟨q1,q2,fun o ho=>?_⟩
  have:=(h.sep l ob x o p1 p2 p3 ho).1
  grind
 ·obtain⟨q1,_,q3,q4,_⟩:=(hφ.2.1 l k x p3).2
  grind
theorem dW (h:Core w0 St0 St β s a w) (hφ:VZ w0 w St s.st β φ) {l b:Nat} {ob:Ob} (hl:s.st[l]?=some ob) (hlive:ob.live=true) (hβ:β l=some b) (hnr:DI ob.xs=true) {cs:Array Value} (hcs:w.heap[b]?=some (.cells cs ob.ty (0,0))) :
  ∀ (k:Nat) (c:Cl),ob.xs.flatten[k]?=some c→∃ y,cs[k]?=some y∧RdO w St c y (φ l k):=by
 intro k c hk
 obtain⟨_,_,cs',g1,g2,g3⟩:=h.obs l ob b hl hlive hβ
 rw[hcs] at g1
 simp only[ak,Obj.cells.injEq,abG] at g1
 subst g1
 obtain⟨y,hy,hr⟩:=g3 k c hk
 cases ho:Gi c with
 | true =>
  obtain⟨u,hu,hro⟩:=hφ.1 l ob b k c hl hlive hβ hk ho
  simp only[World.cell?,hcs,aby,aC,aW] at hu
  grind
 | false =>
  refine⟨y,hy,(RdO.plain ho).2 ?_⟩
  have hrc:=hr.toC ho
  obtain⟨x,hx,hcx⟩:=aba.1 (bF hk)
  have hn:=aP.1 (aP.1 hnr x hx) c hcx
  cases c with
  | ref l=>simp[Hr] at hn
  | v x=>exact hrc
  | sl x=>exact hrc
  | ow ty sz x=>simp[Gi] at ho
end owns
theorem zD (h:Core w0 St0 St β s a w) {φ:Nat→Nat→Nat→Prop} (hφ:VZ w0 w St s.st β φ) {l:Nat} {ob:Ob} (hob:DT s.st l=some ob) (hnr:DI ob.xs=true) {u:Value} (hu:BN w s.st β l u):RdO w St (.ow ob.ty ob.sz ob.xs) u (Fp s.st β φ l):=by
 obtain⟨hl,hlive⟩:=CS hob
 simp only[BN,hl] at hu
 have hx2:=hu.2 hlive
 simp only[RdO]
 cases hβ:β l with
 | none=>grind
 | some b =>
  simp only[hβ] at hx2
  obtain⟨cap,cs,e1,e2,e3,e4,e5⟩:=hx2
  obtain⟨_,_,_,_,g2,_⟩:=h.obs l ob b hl hlive hβ
  refine .inr ⟨b,cap,cs,φ l,e1,e2,e3,e4,e5,g2,⟨ob,hl,hlive,.inl hβ⟩,fun k x hk=>⟨⟨ob,hl,hlive,.inr ⟨k,hk⟩⟩,fun e=>?_⟩,fun k k' x hk hk'=>(hφ.2.2 l l k k' x hk hk').2,RdOE.mk fun k c hk=>?_⟩
  ·exact(hφ.2.1 l k x hk).2.2.2.2.2 l ob hl hlive (by rw[hβ,e])
  grind [dW]
def isV:AV→Bool
 | .c (.v (.slice _ _ _))=>false
 | .c (.v _)=>true
 | _=>false
def ACC:AV→Bool
 | .clo _ _=>true
 | x=>isV x
theorem AD5 {x:AV} {u:Value} (hx:isV x=true) (h:AVR w St s.st β x u):RdA w St x u:=by
 cases x with
 | c c =>
  cases c with
  | v v=>simp only[AVR] at h; exact h
  | _=>simp[isV] at hx
 | _=>simp[isV] at hx
theorem AAs:∀ {xs:List AV} {us:List Value},xs.all isV=true→AVRs w St s.st β xs us→RdAs w St xs us
 | [],us,_,h=>by simp only[AVRs] at h; exact h
 | x::xs,us,hx,h=>by
  simp only[bC,ay] at hx
  simp only[AVRs] at h
  obtain⟨y,ys,h1,h2,h3⟩:=h
  exact⟨y,ys,h1,AD5 hx.1 h2,AAs hx.2 h3⟩
theorem AFf {x:AV} {u:Value} (hx:ACC x=true) (h:AVR w St s.st β x u):RdA w St x u:=by
 cases x with
 | clo f xs=>simp only[AVR] at h; exact h
 | c c=>exact AD5 (by simpa [ACC] using hx) h
 | _=>simp[ACC,isV] at hx
theorem uo:∀ {xs:List AV} {us:List Value},xs.all ACC=true→AVRs w St s.st β xs us→RdAs w St xs us
 | [],us,_,h=>by simp only[AVRs] at h; exact h
 | x::xs,us,hx,h=>by
  simp only[bC,ay] at hx
  simp only[AVRs] at h
  obtain⟨y,ys,h1,h2,h3⟩:=h
  exact⟨y,ys,h1,AFf hx.1 h2,uo hx.2 h3⟩
mutual
def Ju:Cl→Bool
 | .v _=>true
 | .sl _=>false
 | .ref _=>false
 | .ow _ _ xs=>JV xs
def JV:List (List Cl)→Bool
 | []=>true
 | x::xs=>Fa x&&JV xs
def Fa:List Cl→Bool
 | []=>true
 | c::cs=>Ju c&&Fa cs
end
mutual
theorem RdO.clo {w:World} {St St':Nat→Nat→Prop}:∀ (c:Cl) (u:Value) (F:Nat→Prop),Ju c=true→RdO w St c u F→RdO w St' c u F
 | .v x,u,F,_,h=>by simp only[RdO] at h ⊢; exact h
 | .ref _,_,_,hc,_=>by simp[Ju] at hc
 | .sl _,_,_,hc,_=>by simp[Ju] at hc
 | .ow ty sz xs,u,F,hc,h=>by
  simp only[RdO] at h ⊢
  simp only[Ju] at hc
  rcases h with h | ⟨b,cap,cs,G,h1,h2,h3,h4,h5,h6,h7,h8,h9,h10⟩
  ·exact .inl h
  ·exact .inr ⟨b,cap,cs,G,h1,h2,h3,h4,h5,h6,h7,h8,h9,RdOE.clo xs 0 cs G hc h10⟩
theorem RdOE.clo {w:World} {St St':Nat→Nat→Prop}:∀ (xs:List (List Cl)) (n:Nat) (cs:Array Value) (G:Nat→Nat→Prop),JV xs=true→RdOE w St xs n cs G→RdOE w St' xs n cs G
 | [],_,_,_,_,_=>by simp[RdOE]
 | x::xs,n,cs,G,hc,h=>by
  simp only[RdOE] at h ⊢
  simp only[JV,ay] at hc
  exact⟨RdOL.clo x n cs G hc.1 h.1,RdOE.clo xs _ cs G hc.2 h.2⟩
theorem RdOL.clo {w:World} {St St':Nat→Nat→Prop}:∀ (cl:List Cl) (n:Nat) (cs:Array Value) (G:Nat→Nat→Prop),Fa cl=true→RdOL w St cl n cs G→RdOL w St' cl n cs G
 | [],_,_,_,_,_=>by simp[RdOL]
 | c::cl,n,cs,G,hc,h=>by
  simp only[RdOL] at h ⊢
  simp only[Fa,ay] at hc
  obtain⟨⟨y,h1,h2⟩,h3⟩:=h
  exact⟨⟨y,h1,RdO.clo c y (G n) hc.1 h2⟩,RdOL.clo cl _ cs G hc.2 h3⟩
end
theorem Q9:∀ {cs:List Cl},Fa cs=true→∀ c∈cs,Ju c=true
 | [],_,c,h=>AO_
 | d::cs,hc,c,h=>by
  simp only[Fa,ay] at hc
  rcases dh.1 h with rfl | h
  ·exact hc.1
  ·exact Q9 hc.2 c h
theorem Vb:∀ {xs:List (List Cl)},JV xs=true→∀ x∈xs,Fa x=true
 | [],_,c,h=>AO_
 | d::cs,hc,c,h=>by
  simp only[JV,ay] at hc
  rcases dh.1 h with rfl | h
  ·exact hc.1
  ·exact Vb hc.2 c h
theorem ZI:∀ {xs:List (List Cl)},(∀ x∈xs,Fa x=true)→JV xs=true
 | [],_=>rfl
 | d::cs,h=>by
  simp only[JV,ay]
  exact⟨h d AOi,ZI fun x hx=>h x APe⟩
theorem AFg {c:Cl} (h:Ju c=true):Hr c=true:=by cases c<;>simp_all [Ju,Hr]
theorem AFh {cs:List Cl} (h:Fa cs=true):cs.all Hr=true:=aP.2 fun c hc=>AFg (Q9 h c hc)
def AD6:Cl→Bool
 | .v _=>true
 | .sl []=>true
 | _=>false
def Ji:Res→Bool
 | .val (.c (.v _))=>true
 | .val (.agg cs)=>cs.all AD6
 | .val _=>false
 | .own _ _ xs _=>JV xs
 | .agg cl=>Fa cl
theorem Res1.clo {w':World} {St2 St:Nat→Nat→Prop} {B:Nat} {r:Res} {u:Value} {b:Option Nat} {Φ:Nat→Nat→Prop} (hc:Ji r=true) (hB:∀ b o,St b o→b<B) (h:Res1 w' St2 B r u b Φ):Res1 w' St B r u b Φ:=by
 cases r with
 | val x =>
  obtain⟨h1,h2⟩:=h
  refine⟨?_,h2⟩
  cases x with
  | c c =>
   cases c with
   | v x=>exact h1
   | _=>simp[Ji] at hc
  | agg cs =>
   obtain⟨us,e1,e2,e3⟩:=h1
   refine⟨us,e1,e2,fun k c hk=>?_⟩
   obtain⟨y,hy,hr⟩:=e3 k c hk
   refine⟨y,hy, ?_⟩
   have hv:=aP.1 hc c (bF hk)
   cases c with
   | v x=>simp only[RdD] at hr ⊢; exact hr
   | sl xs =>
    cases xs with
    | nil =>
     simp only[RdC,RdD] at hr ⊢
     simp_all
    | cons _ _=>simp[AD6] at hv
   | _=>simp[AD6] at hv
  | _=>simp[Ji] at hc
 | own ty sz xs wr =>
  cases b with
  | none=>exact h
  | some b =>
   obtain⟨g1,g2,g3,g4,cap,cs,e1,e2,e3,e4,e5,e6⟩:=h
   refine⟨g1,g2,g3,fun o ho=>?_,cap,cs,e1,e2,e3,e4,e5,fun k c hk=>?_⟩
   ·grind
   ·obtain⟨y,hy,hr⟩:=e6 k c hk
    obtain⟨x,hx,hcx⟩:=aba.1 (bF hk)
    exact⟨y,hy,RdO.clo c y _ (Q9 (Vb hc x hx) c hcx) hr⟩
 | agg cl =>
  obtain⟨h1,us,e1,e2,e3⟩:=h
  refine⟨h1,us,e1,e2,fun k c hk=>?_⟩
  obtain⟨y,hy,hr⟩:=e3 k c hk
  exact⟨y,hy,RdO.clo c y _ (Q9 hc c (bF hk)) hr⟩
theorem ResR.clo {w':World} {St2 St:Nat→Nat→Prop} {B:Nat} (hB:∀ b o,St b o→b<B):∀ {rs:List Res} {us:List Value} {bs:List (Option Nat)} {Φs:List (Nat→Nat→Prop)},rs.all Ji=true→ResR w' St2 B rs us bs Φs→ResR w' St B rs us bs Φs
 | [],us,bs,Φs,_,h=>h
 | r::rs,us,bs,Φs,hc,h=>by
  simp only[bC,ay] at hc
  obtain⟨u,us',b,bs',Φ,Φs',e1,e2,e3,h1,h2⟩:=h
  exact⟨u,us',b,bs',Φ,Φs',e1,e2,e3,h1.clo hc.1 hB,ResR.clo hB hc.2 h2⟩
theorem Back.clo {St1 St2:Nat→Nat→Prop} {rs:List Res} {e:Ending} {w':World} {us:List Value} {bs:List (Option Nat)} (hb:Back w St1 rs e w' us bs St2) (hc:rs.all Ji=true) (hin:∀ b o,St b o→b<w.heap.size):Back w St rs e w' us bs St:=by
 obtain⟨Φs,hr,hf⟩:=hb.res
 exact⟨hb.ret,hb.below,fun _ _ h=>h,fun _ _ h _=>h,fun b o h=>bP (hin b o h) hb.below.size,Φs,hr.clo hin hc,hf.nodup,fun i Φ k x hi hx=>by
  obtain⟨q1,q2,q3,q4⟩:=hf.fresh i Φ k x hi hx
  grind,hf.dis⟩
def dX (st:List Ob):Cl→Option Cl
 | .ref l=>match DT st l with
  | some ob=>if DI ob.xs then some (.sl (Qa ob.xs)) else none
  | none=>none
 | .v x=>fzC st (.v x)
 | .sl xs=>some (.sl xs)
 | .ow _ _ _=>none
def ACD (st:List Ob):List Cl→Option (List Cl)
 | []=>some []
 | c::cs=>match dX st c,ACD st cs with
  | some d,some ds=>some (d::ds)
  | _,_=>none
def AFi (st:List Ob):AV→Option AV
 | .c x=>match dX st x with
  | some d=>some (.c d)
  | none=>none
 | .agg xs=>match ACD st xs with
  | some ys=>some (.agg ys)
  | none=>none
 | _=>none
def Tf (st:List Ob):List AV→Option (List AV)
 | []=>some []
 | x::xs=>match AFi st x,Tf st xs with
  | some y,some ys=>some (y::ys)
  | _,_=>none
def AllSt (w:World) (St:Nat→Nat→Prop) (st:List Ob) (β:Nat→Option Nat) (φ:Nat→Nat→Nat→Prop) (b o:Nat):Prop:=St b o∨∃ l,Fp st β φ l b
theorem AllSt.lt {φ:Nat→Nat→Nat→Prop} (h:Core w0 St0 St β s a w) (hφ:VZ w0 w St s.st β φ) {b o:Nat} (hb:AllSt w St s.st β φ b o):b<w.heap.size:=by
 rcases hb with hb | ⟨l,ob,p1,p2,p3⟩
 ·exact h.stIn b o hb
 ·rcases p3 with p3 | ⟨k,p3⟩
  ·exact(h.obs l ob b p1 p2 p3).2.1
  ·exact(hφ.2.1 l k b p3).2.2.2.1
section
variable {φ:Nat→Nat→Nat→Prop}
theorem oz (h:Core w0 St0 St β s a w) (hφ:VZ w0 w St s.st β φ) {c d:Cl} (hc:dX s.st c=some d) {u:Value} (hu:RdC w St s.st β c u):RdD w (AllSt w St s.st β φ) d u:=by
 cases c with
 | ow ty sz xs=>simp[dX] at hc
 | sl xs =>
  simp only[dX,ak] at hc
  subst hc
  exact RdD.mono (fun _ _ h=>.inl h) (fun _ _ _=>rfl) _ _ hu
 | v x =>
  simp only[dX] at hc
  obtain⟨St',q1,q2,q3,q4⟩:=oZ h hc
  have hr:=q4 u (RdC.toB hu)
  unfold fzC at hc
  split at hc
  ·simp only[ak] at hc
   subst hc
   simp only[RdD] at hr ⊢
   simp_all
  ·cases hc
  ·rename_i y _ _ he
   simp only[ak] at hc
   subst hc
   cases he
   simp only[RdD] at hr ⊢
   exact hr
  ·grind
  ·grind
  grind
 | ref l =>
  simp only[dX] at hc
  split at hc
  ·rename_i ob hob
   split at hc
   ·rename_i hnr
    simp only[ak] at hc
    subst hc
    have hr:=zD h hφ hob hnr (by simpa only[RdC] using hu)
    have:=RdO.frz _ _ _ hr
    simp only[er] at this
    exact RdD.mono (fun b o hbo=>by
     rcases hbo with hbo | hbo
     ·exact .inl hbo
     ·exact .inr ⟨l,hbo⟩) (fun _ _ _=>rfl) _ _ this
   ·cases hc
  ·cases hc
theorem AAt {st:List Ob}:∀ {cs ds:List Cl},ACD st cs=some ds→ds.length=cs.length∧∀ (k:Nat) (d:Cl),ds[k]?=some d→∃ c,cs[k]?=some c∧dX st c=some d
 | [],ds,h=>by
  simp only[ACD,ak] at h
  subst h
  exact⟨rfl,fun k d hk=>APM⟩
 | c::cs,ds,h=>by
  simp only[ACD] at h
  split at h
  ·rename_i d ds' h1 h2
   simp only[ak] at h
   subst h
   obtain⟨q1,q2⟩:=AAt h2
   refine⟨by simp[q1],fun k e hk=>?_⟩
   cases k with
   | zero=>simp only[aQ,ak] at hk; subst hk; exact⟨c,rfl,h1⟩
   | succ k=>simpa using q2 k e APN
  ·cases h
theorem AFj (h:Core w0 St0 St β s a w) (hφ:VZ w0 w St s.st β φ) {x y:AV} (hx:AFi s.st x=some y) {u:Value} (hu:AVR w St s.st β x u):RdA w (AllSt w St s.st β φ) y u:=by
 unfold AFi at hx
 split at hx
 ·split at hx
  ·rename_i d hd
   simp only[ak] at hx
   subst hx
   simp only[AVR] at hu
   exact oz h hφ hd hu
  ·cases hx
 ·split at hx
  ·rename_i ys hys
   simp only[ak] at hx
   subst hx
   simp only[AVR] at hu
   obtain⟨us,e1,e2,e3⟩:=hu
   obtain⟨q1,q2⟩:=AAt hys
   refine⟨us,e1,by rw[q1,e2],fun k d hk=>?_⟩
   grind [oz]
  ·cases hx
 ·cases hx
theorem dY (h:Core w0 St0 St β s a w) (hφ:VZ w0 w St s.st β φ):∀ {xs ys:List AV},Tf s.st xs=some ys→∀ {us:List Value},AVRs w St s.st β xs us→RdAs w (AllSt w St s.st β φ) ys us
 | [],ys,hx,us,hu=>by
  simp only[Tf,ak] at hx
  subst hx
  simp only[AVRs] at hu
  exact hu
 | x::xs,ys,hx,us,hu=>by
  simp only[Tf] at hx
  split at hx
  ·rename_i y ys' h1 h2
   simp only[ak] at hx
   subst hx
   simp only[AVRs] at hu
   obtain⟨v,vs,e,g1,g2⟩:=hu
   exact⟨v,vs,e,AFj h hφ h1 g1,dY h hφ h2 g2⟩
  ·cases hx
end
end Go.Vm
