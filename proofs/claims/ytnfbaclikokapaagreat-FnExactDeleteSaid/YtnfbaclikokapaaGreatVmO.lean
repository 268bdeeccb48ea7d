/- A part. -/
import Derived.Test.YtnfbaclikokapaaGreatVmM
import Derived.Laws.AppendOwn
set_option linter.unusedSimpArgs false
set_option linter.unusedVariables false
namespace Go.Vm
open Go.RowKit
variable {P:Program} {w0:Bs} {St0 St:Nat→Nat→Prop} {β:Nat→Option Nat} {s:MS} {a:Act} {w:World}
def Nh:Cl→Bool
 | .ref _=>false
 | _=>true
def Df (xs:List (List Cl)):Bool:=xs.all fun x=>x.all Nh
def Fp (st:List Ob) (β:Nat→Option Nat) (φ:Nat→Nat→Nat→Prop) (l x:Nat):Prop:=∃ ob,st[l]?=some ob∧ob.live=true∧(β l=some x∨∃ k,φ l k x)
section owns
variable {φ:Nat→Nat→Nat→Prop}
def Ru (w0:Bs) (w:World) (St:Nat→Nat→Prop) (st:List Ob) (β:Nat→Option Nat) (φ:Nat→Nat→Nat→Prop):Prop:=
 (∀ (l:Nat) (ob:Ob) (b k:Nat) (c:Cl),st[l]?=some ob→ob.live=true→β l=some b→ob.xs.flatten[k]?=some c→E8 c=true→∃ u,w.cell? ⟨b,k,none⟩=some u∧RdO w St c u (φ l k)) ∧
 (∀ l k x,φ l k x→(∃ ob b,st[l]?=some ob∧ob.live=true∧β l=some b)∧Na w0 (fun _=>False) w St st β x) ∧
 ∀ l l' k k' x,φ l k x→φ l' k' x→l=l'∧k=k'
theorem GR (h:Core w0 St0 St β s a w) (hφ:Ru w0 w St s.st β φ) {l l' x:Nat} (h1:Fp s.st β φ l x) (h2:Fp s.st β φ l' x):l=l':=by
 obtain⟨ob,p1,p2,p3⟩:=h1
 obtain⟨ob',q1,q2,q3⟩:=h2
 rcases p3 with p3 | ⟨k,p3⟩<;>rcases q3 with q3 | ⟨k',q3⟩
 ·exact h.inj l l' ob ob' x p1 q1 p2 q2 p3 q3
 ·exact absurd p3 ((hφ.2.1 l' k' x q3).2.2.2.2.2 l ob p1 p2)
 ·exact absurd q3 ((hφ.2.1 l k x p3).2.2.2.2.2 l' ob' q1 q2)
 ·exact(hφ.2.2 l l' k k' x p3 q3).1
theorem Qb (h:Core w0 St0 St β s a w) (hφ:Ru w0 w St s.st β φ) {l x:Nat} (h1:Fp s.st β φ l x) (hwr:∀ ob,s.st[l]?=some ob→ob.wr=true):w0.may x∧x<w.heap.size∧∀ o,¬ St x o:=by
 obtain⟨ob,p1,p2,p3⟩:=h1
 rcases p3 with p3 | ⟨k,p3⟩
 ·obtain⟨q1,q2,_⟩:=h.obs l ob x p1 p2 p3
  refine⟨q1,q2,fun o ho=>?_⟩
  have:=(h.sep l ob x o p1 p2 p3 ho).1
  grind
 ·obtain⟨q1,_,q3,q4,_⟩:=(hφ.2.1 l k x p3).2
  grind
theorem YA (h:Core w0 St0 St β s a w) (hφ:Ru w0 w St s.st β φ) {l b:Nat} {ob:Ob} (hl:s.st[l]?=some ob) (hlive:ob.live=true) (hβ:β l=some b) (hnr:Df ob.xs=true) {cs:Array Value} (hcs:w.heap[b]?=some (.cells cs ob.ty (0,0))) :
  ∀ (k:Nat) (c:Cl),ob.xs.flatten[k]?=some c→∃ y,cs[k]?=some y∧RdO w St c y (φ l k):=by
 intro k c hk
 obtain⟨_,_,cs',g1,g2,g3⟩:=h.obs l ob b hl hlive hβ
 rw[hcs] at g1
 simp only[ah,Obj.cells.injEq,yY] at g1
 subst g1
 obtain⟨y,hy,hr⟩:=g3 k c hk
 cases ho:E8 c with
 | true =>
  obtain⟨u,hu,hro⟩:=hφ.1 l ob b k c hl hlive hβ hk ho
  simp only[World.cell?,hcs,Option.isSome_none,aC,aT] at hu
  grind
 | false =>
  refine⟨y,hy,(RdO.plain ho).2 ?_⟩
  have hrc:=hr.toC ho
  obtain⟨x,hx,hcx⟩:=abd.1 (aY hk)
  have hn:=aF.1 (aF.1 hnr x hx) c hcx
  cases c with
  | ref l=>simp[Nh] at hn
  | v x=>exact hrc
  | sl x=>exact hrc
  | ow ty sz x=>simp[E8] at ho
end owns
theorem AA5 (h:Core w0 St0 St β s a w) {φ:Nat→Nat→Nat→Prop} (hφ:Ru w0 w St s.st β φ) {l:Nat} {ob:Ob} (hob:CO s.st l=some ob) (hnr:Df ob.xs=true) {u:Value} (hu:A_ w s.st β l u):RdO w St (.ow ob.ty ob.sz ob.xs) u (Fp s.st β φ l):=by
 obtain⟨hl,hlive⟩:=Aw hob
 simp only[A_,hl] at hu
 have hx2:=hu.2 hlive
 simp only[RdO]
 cases hβ:β l with
 | none=>grind
 | some b =>
  simp only[hβ] at hx2
  obtain⟨cap,cs,e1,e2,e3,e4,e5⟩:=hx2
  obtain⟨_,_,_,_,g2,_⟩:=h.obs l ob b hl hlive hβ
  refine .inr ⟨b,cap,cs,φ l,e1,e2,e3,e4,e5,g2,⟨ob,hl,hlive,.inl hβ⟩,fun k x hk=>⟨⟨ob,hl,hlive,.inr ⟨k,hk⟩⟩,fun e=>?_⟩,fun k k' x hk hk'=>(hφ.2.2 l l k k' x hk hk').2,RdOE.mk fun k c hk=>?_⟩
  ·exact(hφ.2.1 l k x hk).2.2.2.2.2 l ob hl hlive (by rw[hβ,e])
  grind [YA]
def yh:AV→Bool
 | .c (.v (.slice _ _ _))=>false
 | .c (.v _)=>true
 | _=>false
def yj:AV→Bool
 | .clo _ _=>true
 | x=>yh x
theorem AA6 {x:AV} {u:Value} (hx:yh x=true) (h:AVR w St s.st β x u):RdA w St x u:=by
 cases x with
 | c c =>
  cases c with
  | v v=>simp only[AVR] at h; exact h
  | _=>simp[yh] at hx
 | _=>simp[yh] at hx
theorem jH:∀ {xs:List AV} {us:List Value},xs.all yh=true→AVRs w St s.st β xs us→RdAs w St xs us
 | [],us,_,h=>by simp only[AVRs] at h; exact h
 | x::xs,us,hx,h=>by
  simp only[bK,ak] at hx
  simp only[AVRs] at h
  obtain⟨y,ys,h1,h2,h3⟩:=h
  exact⟨y,ys,h1,AA6 hx.1 h2,jH hx.2 h3⟩
theorem ACi {x:AV} {u:Value} (hx:yj x=true) (h:AVR w St s.st β x u):RdA w St x u:=by
 cases x with
 | clo f xs=>simp only[AVR] at h; exact h
 | c c=>exact AA6 (by simpa [yj] using hx) h
 | _=>simp[yj,yh] at hx
theorem n_:∀ {xs:List AV} {us:List Value},xs.all yj=true→AVRs w St s.st β xs us→RdAs w St xs us
 | [],us,_,h=>by simp only[AVRs] at h; exact h
 | x::xs,us,hx,h=>by
  simp only[bK,ak] at hx
  simp only[AVRs] at h
  obtain⟨y,ys,h1,h2,h3⟩:=h
  exact⟨y,ys,h1,ACi hx.1 h2,n_ hx.2 h3⟩
mutual
def JI:Cl→Bool
 | .v _=>true
 | .sl _=>false
 | .ref _=>false
 | .ow _ _ xs=>IU xs
def IU:List (List Cl)→Bool
 | []=>true
 | x::xs=>En x&&IU xs
def En:List Cl→Bool
 | []=>true
 | c::cs=>JI c&&En cs
end
mutual
theorem RdO.clo {w:World} {St St':Nat→Nat→Prop}:∀ (c:Cl) (u:Value) (F:Nat→Prop),JI c=true→RdO w St c u F→RdO w St' c u F
 | .v x,u,F,_,h=>by simp only[RdO] at h ⊢; exact h
 | .ref _,_,_,hc,_=>by simp[JI] at hc
 | .sl _,_,_,hc,_=>by simp[JI] at hc
 | .ow ty sz xs,u,F,hc,h=>by
  simp only[RdO] at h ⊢
  simp only[JI] at hc
  rcases h with h | ⟨b,cap,cs,G,h1,h2,h3,h4,h5,h6,h7,h8,h9,h10⟩
  ·exact .inl h
  ·exact .inr ⟨b,cap,cs,G,h1,h2,h3,h4,h5,h6,h7,h8,h9,RdOE.clo xs 0 cs G hc h10⟩
theorem RdOE.clo {w:World} {St St':Nat→Nat→Prop}:∀ (xs:List (List Cl)) (n:Nat) (cs:Array Value) (G:Nat→Nat→Prop),IU xs=true→RdOE w St xs n cs G→RdOE w St' xs n cs G
 | [],_,_,_,_,_=>by simp[RdOE]
 | x::xs,n,cs,G,hc,h=>by
  simp only[RdOE] at h ⊢
  simp only[IU,ak] at hc
  exact⟨RdOL.clo x n cs G hc.1 h.1,RdOE.clo xs _ cs G hc.2 h.2⟩
theorem RdOL.clo {w:World} {St St':Nat→Nat→Prop}:∀ (cl:List Cl) (n:Nat) (cs:Array Value) (G:Nat→Nat→Prop),En cl=true→RdOL w St cl n cs G→RdOL w St' cl n cs G
 | [],_,_,_,_,_=>by simp[RdOL]
 | c::cl,n,cs,G,hc,h=>by
  simp only[RdOL] at h ⊢
  simp only[En,ak] at hc
  obtain⟨⟨y,h1,h2⟩,h3⟩:=h
  exact⟨⟨y,h1,RdO.clo c y (G n) hc.1 h2⟩,RdOL.clo cl _ cs G hc.2 h3⟩
end
theorem Ph:∀ {cs:List Cl},En cs=true→∀ c∈cs,JI c=true
 | [],_,c,h=>by simp at h
 | d::cs,hc,c,h=>by
  simp only[En,ak] at hc
  rcases cZ.1 h with rfl | h
  ·exact hc.1
  ·exact Ph hc.2 c h
theorem TZ:∀ {xs:List (List Cl)},IU xs=true→∀ x∈xs,En x=true
 | [],_,c,h=>by simp at h
 | d::cs,hc,c,h=>by
  simp only[IU,ak] at hc
  rcases cZ.1 h with rfl | h
  ·exact hc.1
  ·exact TZ hc.2 c h
theorem XF:∀ {xs:List (List Cl)},(∀ x∈xs,En x=true)→IU xs=true
 | [],_=>rfl
 | d::cs,h=>by
  simp only[IU,ak]
  exact⟨h d (by simp),XF fun x hx=>h x (by simp[hx])⟩
theorem ACj {c:Cl} (h:JI c=true):Nh c=true:=by cases c<;>simp_all [JI,Nh]
theorem ACk {cs:List Cl} (h:En cs=true):cs.all Nh=true:=aF.2 fun c hc=>ACj (Ph h c hc)
def AA7:Cl→Bool
 | .v _=>true
 | .sl []=>true
 | _=>false
def Pi:Res→Bool
 | .val (.c (.v _))=>true
 | .val (.agg cs)=>cs.all AA7
 | .val _=>false
 | .own _ _ xs _=>IU xs
 | .agg cl=>En cl
theorem Res1.clo {w':World} {St2 St:Nat→Nat→Prop} {B:Nat} {r:Res} {u:Value} {b:Option Nat} {Φ:Nat→Nat→Prop} (hc:Pi r=true) (hB:∀ b o,St b o→b<B) (h:Res1 w' St2 B r u b Φ):Res1 w' St B r u b Φ:=by
 cases r with
 | val x =>
  obtain⟨h1,h2⟩:=h
  refine⟨?_,h2⟩
  cases x with
  | c c =>
   cases c with
   | v x=>exact h1
   | _=>simp[Pi] at hc
  | agg cs =>
   obtain⟨us,e1,e2,e3⟩:=h1
   refine⟨us,e1,e2,fun k c hk=>?_⟩
   obtain⟨y,hy,hr⟩:=e3 k c hk
   refine⟨y,hy, ?_⟩
   have hv:=aF.1 hc c (aY hk)
   cases c with
   | v x=>simp only[RdD] at hr ⊢; exact hr
   | sl xs =>
    cases xs with
    | nil =>
     simp only[RdC,RdD] at hr ⊢
     simp_all
    | cons _ _=>simp[AA7] at hv
   | _=>simp[AA7] at hv
  | _=>simp[Pi] at hc
 | own ty sz xs wr =>
  cases b with
  | none=>exact h
  | some b =>
   obtain⟨g1,g2,g3,g4,cap,cs,e1,e2,e3,e4,e5,e6⟩:=h
   refine⟨g1,g2,g3,fun o ho=>?_,cap,cs,e1,e2,e3,e4,e5,fun k c hk=>?_⟩
   ·grind
   ·obtain⟨y,hy,hr⟩:=e6 k c hk
    obtain⟨x,hx,hcx⟩:=abd.1 (aY hk)
    exact⟨y,hy,RdO.clo c y _ (Ph (TZ hc x hx) c hcx) hr⟩
 | agg cl =>
  obtain⟨h1,us,e1,e2,e3⟩:=h
  refine⟨h1,us,e1,e2,fun k c hk=>?_⟩
  obtain⟨y,hy,hr⟩:=e3 k c hk
  exact⟨y,hy,RdO.clo c y _ (Ph hc c (aY hk)) hr⟩
theorem ResR.clo {w':World} {St2 St:Nat→Nat→Prop} {B:Nat} (hB:∀ b o,St b o→b<B):∀ {rs:List Res} {us:List Value} {bs:List (Option Nat)} {Φs:List (Nat→Nat→Prop)},rs.all Pi=true→ResR w' St2 B rs us bs Φs→ResR w' St B rs us bs Φs
 | [],us,bs,Φs,_,h=>h
 | r::rs,us,bs,Φs,hc,h=>by
  simp only[bK,ak] at hc
  obtain⟨u,us',b,bs',Φ,Φs',e1,e2,e3,h1,h2⟩:=h
  exact⟨u,us',b,bs',Φ,Φs',e1,e2,e3,h1.clo hc.1 hB,ResR.clo hB hc.2 h2⟩
theorem Back.clo {St1 St2:Nat→Nat→Prop} {rs:List Res} {e:Ending} {w':World} {us:List Value} {bs:List (Option Nat)} (hb:Back w St1 rs e w' us bs St2) (hc:rs.all Pi=true) (hin:∀ b o,St b o→b<w.heap.size):Back w St rs e w' us bs St:=by
 obtain⟨Φs,hr,hf⟩:=hb.res
 exact⟨hb.ret,hb.below,fun _ _ h=>h,fun _ _ h _=>h,fun b o h=>bn (hin b o h) hb.below.size,Φs,hr.clo hin hc,hf.nodup,fun i Φ k x hi hx=>by
  obtain⟨q1,q2,q3,q4⟩:=hf.fresh i Φ k x hi hx
  grind,hf.dis⟩
def jI (st:List Ob):Cl→Option Cl
 | .ref l=>match CO st l with
  | some ob=>if Df ob.xs then some (.sl (Pg ob.xs)) else none
  | none=>none
 | .v x=>fzC st (.v x)
 | .sl xs=>some (.sl xs)
 | .ow _ _ _=>none
def yl (st:List Ob):List Cl→Option (List Cl)
 | []=>some []
 | c::cs=>match jI st c,yl st cs with
  | some d,some ds=>some (d::ds)
  | _,_=>none
def ACl (st:List Ob):AV→Option AV
 | .c x=>match jI st x with
  | some d=>some (.c d)
  | none=>none
 | .agg xs=>match yl st xs with
  | some ys=>some (.agg ys)
  | none=>none
 | _=>none
def Q8 (st:List Ob):List AV→Option (List AV)
 | []=>some []
 | x::xs=>match ACl st x,Q8 st xs with
  | some y,some ys=>some (y::ys)
  | _,_=>none
def AllSt (w:World) (St:Nat→Nat→Prop) (st:List Ob) (β:Nat→Option Nat) (φ:Nat→Nat→Nat→Prop) (b o:Nat):Prop:=St b o∨∃ l,Fp st β φ l b
theorem AllSt.lt {φ:Nat→Nat→Nat→Prop} (h:Core w0 St0 St β s a w) (hφ:Ru w0 w St s.st β φ) {b o:Nat} (hb:AllSt w St s.st β φ b o):b<w.heap.size:=by
 rcases hb with hb | ⟨l,ob,p1,p2,p3⟩
 ·exact h.stIn b o hb
 ·rcases p3 with p3 | ⟨k,p3⟩
  ·exact(h.obs l ob b p1 p2 p3).2.1
  ·exact(hφ.2.1 l k b p3).2.2.2.1
section
variable {φ:Nat→Nat→Nat→Prop}
theorem wI (h:Core w0 St0 St β s a w) (hφ:Ru w0 w St s.st β φ) {c d:Cl} (hc:jI s.st c=some d) {u:Value} (hu:RdC w St s.st β c u):RdD w (AllSt w St s.st β φ) d u:=by
 cases c with
 | ow ty sz xs=>simp[jI] at hc
 | sl xs =>
  simp only[jI,ah] at hc
  subst hc
  exact RdD.mono (fun _ _ h=>.inl h) (fun _ _ _=>rfl) _ _ hu
 | v x =>
  simp only[jI] at hc
  obtain⟨St',q1,q2,q3,q4⟩:=jA h hc
  have hr:=q4 u (RdC.toB hu)
  unfold fzC at hc
  split at hc
  ·simp only[ah] at hc
   subst hc
   simp only[RdD] at hr ⊢
   simp_all
  ·cases hc
  ·rename_i y _ _ he
   simp only[ah] at hc
   subst hc
   cases he
   simp only[RdD] at hr ⊢
   exact hr
  ·grind
  ·grind
  grind
 | ref l =>
  simp only[jI] at hc
  split at hc
  ·rename_i ob hob
   split at hc
   ·rename_i hnr
    simp only[ah] at hc
    subst hc
    have hr:=AA5 h hφ hob hnr (by simpa only[RdC] using hu)
    have:=RdO.frz _ _ _ hr
    simp only[er] at this
    exact RdD.mono (fun b o hbo=>by
     rcases hbo with hbo | hbo
     ·exact .inl hbo
     ·exact .inr ⟨l,hbo⟩) (fun _ _ _=>rfl) _ _ this
   ·cases hc
  ·cases hc
theorem wJ {st:List Ob}:∀ {cs ds:List Cl},yl st cs=some ds→ds.length=cs.length∧∀ (k:Nat) (d:Cl),ds[k]?=some d→∃ c,cs[k]?=some c∧jI st c=some d
 | [],ds,h=>by
  simp only[yl,ah] at h
  subst h
  exact⟨rfl,fun k d hk=>by simp at hk⟩
 | c::cs,ds,h=>by
  simp only[yl] at h
  split at h
  ·rename_i d ds' h1 h2
   simp only[ah] at h
   subst h
   obtain⟨q1,q2⟩:=wJ h2
   refine⟨by simp[q1],fun k e hk=>?_⟩
   cases k with
   | zero=>simp only[aB,ah] at hk; subst hk; exact⟨c,rfl,h1⟩
   | succ k=>simpa using q2 k e (by simpa using hk)
  ·cases h
theorem ACm (h:Core w0 St0 St β s a w) (hφ:Ru w0 w St s.st β φ) {x y:AV} (hx:ACl s.st x=some y) {u:Value} (hu:AVR w St s.st β x u):RdA w (AllSt w St s.st β φ) y u:=by
 unfold ACl at hx
 split at hx
 ·split at hx
  ·rename_i d hd
   simp only[ah] at hx
   subst hx
   simp only[AVR] at hu
   exact wI h hφ hd hu
  ·cases hx
 ·split at hx
  ·rename_i ys hys
   simp only[ah] at hx
   subst hx
   simp only[AVR] at hu
   obtain⟨us,e1,e2,e3⟩:=hu
   obtain⟨q1,q2⟩:=wJ hys
   refine⟨us,e1,by rw[q1,e2],fun k d hk=>?_⟩
   grind [wI]
  ·cases hx
 ·cases hx
theorem YB (h:Core w0 St0 St β s a w) (hφ:Ru w0 w St s.st β φ):∀ {xs ys:List AV},Q8 s.st xs=some ys→∀ {us:List Value},AVRs w St s.st β xs us→RdAs w (AllSt w St s.st β φ) ys us
 | [],ys,hx,us,hu=>by
  simp only[Q8,ah] at hx
  subst hx
  simp only[AVRs] at hu
  exact hu
 | x::xs,ys,hx,us,hu=>by
  simp only[Q8] at hx
  split at hx
  ·rename_i y ys' h1 h2
   simp only[ah] at hx
   subst hx
   simp only[AVRs] at hu
   obtain⟨v,vs,e,g1,g2⟩:=hu
   exact⟨v,vs,e,ACm h hφ h1 g1,YB h hφ h2 g2⟩
  ·cases hx
end
def IV (s:MS) (x:Option Operand) (d:Nat):Option Nat:=match x with
 | none=>some d
 | some x=>TT (EC s x)
def oC:Option Operand→Bool
 | none=>true
 | some x=>Ar x
def Rw (P:Program) (s:MS) (T:TypeId) (x:AV) (lo hi:Option Operand):Option (AV×List Ob):=match P.underlying T with
 | some .string=>match x with
  | .c (.v (.string b))=>match IV s lo 0,IV s hi b.size with
   | some l,some h=>if l≤h∧h≤b.size then some (.c (.v (.string (b.extract l h))),s.st) else none
   | _,_=>none
  | _=>none
 | some (.slice e)=>match x with
  | .c d=>match AZ P e,fzC s.st d with
   | some n,some (.sl xs)=>match IV s lo 0,IV s hi xs.length with
    | some l,some h=>if l≤h∧h≤xs.length∧xs.all (fun r=>r.length==n)=true then some (.c (.sl ((xs.drop l).take (h-l))),nS s.st d) else none
    | _,_=>none
   | _,_=>none
  | _=>none
 | _=>none
theorem dU (h:Core w0 St0 St β s a w) {x:Option Operand} (hx:oC x=true) {d k:Nat} (hk:IV s x d=some k):(x=none∧k=d)∨∃ kd y,x=some y∧a.eval y = .int kd (k:Int):=by
 cases x with
 | none=>simp[IV] at hk; grind
 | some y =>
  obtain⟨kd,h2⟩:=ik (Bl h y hx) hk
  grind
theorem GU (k:IntKind) (i y:Nat) (code:BoundsCode) (h:i≤y):(Instr.sliceBound (.int k (i:Int)) y code).run P w = .ok i w:=by
 grind [run_sliceBound]
theorem YC (h:Core w0 St0 St β s a w) {lo hi:Option Operand} (h1:oC lo=true) (h2:oC hi=true) {len cap l r:Nat} (hl:IV s lo 0=some l) (hr:IV s hi len=some r) (hlr:l≤r) (hrl:r≤len) (hc:len≤cap) (isS:Bool) :
  (Instr.sliceBounds isS len cap (lo.map a.eval) (hi.map a.eval) none).run P w = .ok (l,r,cap) w:=by
 rcases dU h h1 hl with ⟨rfl,rfl⟩ | ⟨k1,y1,rfl,e1⟩<;>rcases dU h h2 hr with ⟨rfl,rfl⟩ | ⟨k2,y2,rfl,e2⟩
 ·simp[Instr.sliceBounds]
 ·simp[Instr.sliceBounds,e2,GU _ r cap _ (by omega)]
 ·simp[Instr.sliceBounds,e1,GU _ l r _ hlr]
 ·simp[Instr.sliceBounds,e1,e2,GU _ r cap _ (show r≤cap by omega),GU _ l r _ hlr]
theorem AA8 (h:Core w0 St0 St β s a w) (o:Oper) (T:TypeId) (x:Operand) (lo hi:Option Operand) (ho:o.op = .slice T x lo hi none) (hc:Ar x=true) (h1:oC lo=true) (h2:oC hi=true) {y:AV} {st':List Ob} (hy:Rw P s T (EC s x) lo hi=some (y,st')):Does P a w w0 St0 s o y st':=by
 have he:=Bl h x hc
 unfold Rw at hy
 split at hy
 ·rename_i hu
  split at hy
  ·rename_i b hev
   split at hy
   ·rename_i l r hl hr
    split at hy
    ·rename_i hcond
     simp only[ah,bJ] at hy
     obtain⟨rfl,rfl⟩:=hy
     rw[hev] at he
     obtain⟨hv,hw⟩:=Nb he
     have hb:=YC (P:=P) h h1 h2 (len:=b.size) (cap:=b.size) hl hr hcond.1 hcond.2 (aN _) false
     refine⟨_,.string (b.extract l r),_,St,β, ?_,.inl rfl,h,U2 ?_⟩
     ·simp[execOp,ho,Instr.sliceAt,run_underlying hu,Instr.slice,hv,hb]
     ·simp only[O9,bf] at hw ⊢
      simp_all<;>omega
    ·cases hy
   ·cases hy
  ·cases hy
 ·rename_i e hu
  split at hy
  ·rename_i d hev
   split at hy
   ·rename_i n xs hs hf
    split at hy
    ·rename_i l r hl hr
     split at hy
     ·rename_i hcond
      obtain⟨c1,c2,c3⟩:=hcond
      simp only[ah,bJ] at hy
      obtain⟨rfl,rfl⟩:=hy
      rw[hev] at he
      simp only[AVR] at he
      obtain⟨St',q1,q2,q3,q4⟩:=jA h hf
      have hd:=q4 _ he.toB
      simp only[RdD] at hd
      obtain⟨ad,cap,hv,e2,e3,e4,e5⟩:=hd
      have hb:=YC (P:=P) h h1 h2 (len:=xs.length) (cap:=cap) hl hr c1 c2 e2 true
      have hall:∀ z∈xs,z.length=n:=fun z hz=>by grind
      refine⟨_,.slice (if cap=l then ad else ad.map (·.add (l*n))) (r-l) (cap-l),_,St',β, ?_,.inl rfl,q1, ?_⟩
      ·simp[execOp,ho,Instr.sliceAt,run_underlying hu,Instr.slice,hv,hb,Ha hs]
      ·simp only[AVR,RdC,RdD]
       have hlen:((xs.drop l).take (r-l)).length=r-l:=by simp; omega
       refine⟨_,cap-l,by rw[hlen],by omega,by omega,⟨n,fun z hz=>hall z (aaJ (yR hz))⟩, ?_⟩
       by_cases hz:r-l=0
       ·grind
       ·right
        rcases e5 with rfl | ⟨b,off,rfl,e6⟩
        ·grind
        ·have hne:¬ cap=l:=by omega
         refine⟨b,off+l*n,by simp[hne,addr_add], ?_⟩
         refine RdE.mk n (fun z hz=>hall z (aaJ (yR hz))) fun i z hi=>?_
         rw[yS] at hi
         split at hi
         ·rw[aba] at hi
          have:=e6.at n hall (l+i) z hi
          grind
         ·cases hi
     ·cases hy
    ·cases hy
   ·cases hy
  ·cases hy
 ·cases hy
def Ae (st:List Ob) (l:Nat):List Ob:=st.modify l fun ob=>{ ob with live:=false }
theorem GV {st:List Ob} {l l':Nat} {ob:Ob} (h:(Ae st l)[l']?=some ob):∃ ob',st[l']?=some ob'∧(l=l'→ob = { ob' with live:=false })∧(l≠l'→ob=ob'):=by
 unfold Ae at h
 grind
theorem MP {st:List Ob} {l l':Nat} {ob:Ob} (h:st[l']?=some ob):(Ae st l)[l']?=some (if l=l' then { ob with live:=false } else ob):=by
 unfold Ae
 grind
theorem yu {st:List Ob} (l l':Nat) (u:Value) (h:A_ w st β l' u):A_ w (Ae st l) β l' u:=by
 unfold A_ at h ⊢
 cases hq:st[l']? with
 | none=>grind
 | some ob =>
  simp only[hq] at h
  rw[MP hq]
  grind
theorem ACn {st:List Ob} (l:Nat) (l' i off:Nat) (u:Value) (h:AVR w St st β (.lp l' i off) u):AVR w St (Ae st l) β (.lp l' i off) u:=by
 simp only[AVR] at h ⊢
 cases hq:st[l']? with
 | none=>grind
 | some ob =>
  simp only[hq] at h
  rw[MP hq]
  grind
theorem Core.kill (h:Core w0 St0 St β s a w) (l:Nat):Core w0 St0 St β ⟨s.n,s.env,Ae s.st l⟩ a w∧(∀ x u,AVR w St s.st β x u→AVR w St (Ae s.st l) β x u):=by
 have hr:=fun l' u hu=>yu (w:=w) (β:=β) (st:=s.st) l l' u hu
 have hA:∀ x u,AVR w St s.st β x u→AVR w St (Ae s.st l) β x u:=fun x u hx=>AVR.mono (fun _ _ h=>h) (fun _ _ _=>rfl) hr (fun l' i off u hu=>ACn l l' i off u hu) x u hx
 have hg:∀ l' o2,(Ae s.st l)[l']?=some o2→o2.live=true→s.st[l']?=some o2∧l≠l':=by
  intro l' o2 h2 hl
  obtain⟨o3,p1,p2,p3⟩:=GV h2
  by_cases e:l=l'
  ·grind
  ·grind
 refine⟨?_,hA⟩
 exact {
  defers:=h.defers
  size:=h.size
  lim:=h.lim
  env:=fun i=>hA _ _ (h.env i)
  below:=h.below,st0:=h.st0,stOld:=h.stOld,stIn:=h.stIn
  obs:=fun l' o2 b hl hlive hβ=>by
   obtain⟨p1,_⟩:=hg l' o2 hl hlive
   obtain⟨q1,q2,q3⟩:=h.obs l' o2 b p1 hlive hβ
   exact⟨q1,q2,ObR.mono (fun _ _ h=>h) (fun _ _ _=>rfl) hr rfl q3⟩
  nil:=fun l' o2 hl hlive hβ=>h.nil l' o2 (hg l' o2 hl hlive).1 hlive hβ
  inj:=fun l1 l2 o1 o2 b h1 h2 h3 h4 h5 h6=>h.inj l1 l2 o1 o2 b (hg l1 o1 h1 h3).1 (hg l2 o2 h2 h4).1 h3 h4 h5 h6
  sep:=fun l' o2 b o hl hlive hβ hbo=>h.sep l' o2 b o (hg l' o2 hl hlive).1 hlive hβ hbo
  own:=h.own.move id (fun x hx=>⟨⟨hx.1,hx.2.1,hx.2.2.1,hx.2.2.2.1,fun l' o2 hl' hlv=>hx.2.2.2.2 l' o2 (hg l' o2 hl' hlv).1 hlv⟩,rfl⟩) (fun _ _ h=>h) (fun _ _ _=>rfl)
   (fun l' o2 b k c h1 h2 h3 h4 _=>⟨o2,b,(hg l' o2 h1 h2).1,h2,h3,h4,rfl⟩) (fun _ _ _ _ _ _ _ _ e=>e) }
theorem Core.turn (h:Core w0 St0 St β s a w) {b:Nat} (hB:w0.may b) (hN:Own w0 (fun x=>x=b) w St s.st β) (hfree:∀ l o2,s.st[l]?=some o2→o2.live=true→β l≠some b) {cs cs':Array Value} {ty:TypeId} (hcs:w.heap[b]?=some (.cells cs ty (0,0)))
  (hst:∀ o,St b o→cs'[o]?=cs[o]?) (hsz:cs'.size=cs.size):Core w0 St0 St β s a (w.setRow b cs'):=by
 have hoth:∀ k,k≠b→(w.setRow b cs').heap[k]?=w.heap[k]?:=fun k hk=>setRow_other w b k cs' hk
 have hnew:(w.setRow b cs').heap[b]?=some (.cells cs' ty (0,0)):=setRow_heap w b cs cs' ty (0,0) hcs
 have hcell:∀ b' o,St b' o→(w.setRow b cs').cell? ⟨b',o,none⟩=w.cell? ⟨b',o,none⟩:=fun b' o hbo=>by
  by_cases e:b'=b
  ·subst e
   rw[World.cell?,World.cell?,hnew,hcs]
   grind
  grind [cell_of_block]
 have hbelow:BelowB w0 (w.setRow b cs'):=h.below.step (n:=0) ⟨rfl,rfl,rfl,by simp_all,fun k hk=>absurd hk (Nat.not_lt_zero _)⟩ (fun k h1 h2=>hoth k fun e=>by
  subst e
  rcases hB with h' | h'
  ·omega
  grind) fun k hk=>by
  grind [iY,sW]
 have hr:∀ l' u,A_ w s.st β l' u→A_ (w.setRow b cs') s.st β l' u:=by
  intro l' u hu
  unfold A_ at hu ⊢
  cases hq:s.st[l']? with
  | none=>grind
  | some o2 =>
   grind
 have hA:∀ x u,AVR w St s.st β x u→AVR (w.setRow b cs') St s.st β x u:=fun x u hx=>AVR.mono (fun _ _ h=>h) hcell hr (fun l i off u hu=>by simpa only[AVR] using hu) x u hx
 exact {
  defers:=h.defers
  size:=h.size
  lim:=h.lim
  env:=fun i=>hA _ _ (h.env i)
  below:=hbelow
  st0:=h.st0,stOld:=h.stOld
  stIn:=fun b' o hbo=>by simpa [World.setRow] using h.stIn b' o hbo
  obs:=fun l' o2 b2 hl hlive hβ=>by
   obtain⟨q1,q2,q3⟩:=h.obs l' o2 b2 hl hlive hβ
   have hne:b2≠b:=fun e=>hfree l' o2 hl hlive (by rw[hβ,e])
   exact⟨q1,by simp_all,ObR.mono (fun _ _ h=>h) hcell hr (hoth b2 hne) q3⟩
  nil:=h.nil,inj:=h.inj,sep:=h.sep
  own:=hN.move id (fun x hx=>⟨⟨hx.1,fun h=>h,by simpa [World.setRow] using hx.2.2.1,hx.2.2.2.1,hx.2.2.2.2⟩,hoth x hx.2.1⟩) (fun _ _ h=>h) hcell
   (fun l' o2 b2 k c h1 h2 h3 h4 _=>⟨o2,b2,h1,h2,h3,h4,cell_of_block (hoth b2 fun e=>hfree l' o2 h1 h2 (by rw[h3,e]))⟩) (fun _ _ _ _ _ _ _ _ e=>e) }
def rowOk (n:Nat) (r:List Cl):Bool:=r.length==n&&r.all fun c=>!E8 c
def Jj (n:Nat) (ys:List (List Cl)):Bool:=ys.all (rowOk n)
def tJ (P:Program) (s:MS) (T:TypeId) (x y:AV):Option (AV×List Ob):=match DZ P T with
 | some e=>match AZ P e,TQ P e,EE P e with
  | some n,some zs,some by'=>if zs.length=n∧0<n∧by'≤65536 then match y with
    | .c d=>match Q7 s.st d with
     | some ys=>if Jj n ys=true then match x with
        | .c (.v (.slice none 0 0))=>if ys.length≤2147483648∨(ys.length≤1099511627776∧by'≤128) then some (.c (.ref s.st.length),s.st ++ [⟨e,n,ys,true,true⟩]) else none
        | .c (.ref l)=>match CO s.st l with
         | some ob=>if ob.ty=e∧ob.sz=n∧(ob.xs.length+ys.length≤2147483648∨(ob.xs.length+ys.length≤1099511627776∧by'≤128)) then some (.c (.ref s.st.length),Ae s.st l ++ [⟨e,n,ob.xs++ys,ob.wr,true⟩]) else none
         | none=>none
        | _=>none
       else none
     | none=>none
    | _=>none
   else none
  | _,_,_=>none
 | none=>none
theorem Hf (st:List Ob) (l:Nat):(Ae st l).length=st.length:=by simp[Ae]
theorem Gi {T e:TypeId} {n:Nat} {ty:TypeId} (ht:P.underlying T=some (.slice e)) (hs:AZ P e=some n) (base:Option Addr) (len cap:Nat) (hle:len≤cap) (ad:Option Addr) (c:Nat) (w:World) :
  (Builtin.append_ #[T,T] ty #[.slice base len cap,.slice ad 0 c]).run P w = .ok (.slice base len cap) w:=by
 cases ad with
 | none=>cases base<;>simp[Builtin.append_,run_underlying ht,Ha hs,Builtin.lenOf,Builtin.firstCells,hle,storeCells]
 | some ad=>cases base<;>simp[Builtin.append_,run_underlying ht,Ha hs,Builtin.lenOf,Builtin.firstCells,hle,storeCells,loadCells,loadCellsFrom]
end Go.Vm
