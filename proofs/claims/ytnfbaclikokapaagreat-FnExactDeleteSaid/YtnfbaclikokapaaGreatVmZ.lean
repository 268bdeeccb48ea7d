/- A part. -/
import Derived.Test.YtnfbaclikokapaaGreatVmS
set_option linter.unusedSimpArgs false
set_option linter.unusedVariables false
namespace Go.Vm
open Go.RowKit
variable {P:Program} {w0:Bs} {St0 St:Nat→Nat→Prop} {β:Nat→Option Nat} {s:MS} {a:Act} {w:World}
def AU (st:List Ob):List Cl→List Cl→List Nat→(List Nat→Prop)→Prop
 | [],[],us,K=>K us
 | x::xs,.ow ty sz ys::rs,us,K=>match x with
  | .ref l=>match CO st l with
   | some ob=>ob.ty=ty∧ob.sz=sz∧ob.xs=ys∧ob.wr=true∧Df ys=true∧l∉us∧AU st xs rs (l::us) K
   | none=>False
  | .v (.slice none 0 0)=>ys = []∧AU st xs rs us K
  | _=>False
 | x::xs,y::rs,us,K=>x=y∧AO y=true∧AU st xs rs us K
 | _,_,_,_=>False
section owns
variable {φ:Nat→Nat→Nat→Prop}
theorem XH (h:Core w0 St0 St β s a w) (hφ:Ru w0 w St s.st β φ):∀ (xs ys:List Cl) (vs:List Value) (used:List Nat) (K:List Nat→Prop),vs.length=xs.length→(∀ (k:Nat) (c:Cl),xs[k]?=some c→∃ y,vs[k]?=some y∧RdC w St s.st β c y)→AU s.st xs ys used K →
  ∃ (used':List Nat) (Φ:Nat→Nat→Prop),K used'∧(∀ l∈used,l∈used')∧ys.length=xs.length∧(∀ (k:Nat) (c:Cl),ys[k]?=some c→∃ y,vs[k]?=some y∧RdO w St c y (Φ k)) ∧
   (∀ k x,Φ k x→∃ l,l∉used∧l∈used'∧Fp s.st β φ l x∧∀ ob,s.st[l]?=some ob→ob.wr=true)∧∀ k k' x,Φ k x→Φ k' x→k=k'
 | [],ys,vs,used,K,hl,hc,ho=>by
  cases ys with
  | nil=>exact⟨used,fun _ _=>False,ho,fun _ h=>h,rfl,fun k c hk=>by simp at hk,fun _ _ h=>h.elim,fun _ _ _ h=>h.elim⟩
  | cons y ys=>cases y<;>simp[AU] at ho
 | x::xs,[],vs,used,K,hl,hc,ho=>by simp[AU] at ho
 | x::xs,y::ys,[],used,K,hl,hc,ho=>by simp at hl
 | x::xs,y::ys,v::vs,used,K,hl,hc,ho=>by
  have hl':vs.length=xs.length:=by simpa using hl
  have hc':∀ (k:Nat) (c:Cl),xs[k]?=some c→∃ y,vs[k]?=some y∧RdC w St s.st β c y:=fun k c hk=>by simpa using hc (k+1) c (by grind)
  obtain⟨v0,hv0,hx⟩:=hc 0 x rfl
  simp only[aB,ah] at hv0
  subst hv0
  have cons:∀ (used1:List Nat) (F:Nat→Prop),(∀ l∈used,l∈used1)→RdO w St y v F→(∀ x,F x→∃ l,l∉used∧l∈used1∧Fp s.st β φ l x∧∀ ob,s.st[l]?=some ob→ob.wr=true)→AU s.st xs ys used1 K →
    ∃ (used':List Nat) (Φ:Nat→Nat→Prop),K used'∧(∀ l∈used,l∈used')∧(y::ys).length=(x::xs).length∧(∀ (k:Nat) (c:Cl),(y::ys)[k]?=some c→∃ z,(v::vs)[k]?=some z∧RdO w St c z (Φ k)) ∧
     (∀ k x,Φ k x→∃ l,l∉used∧l∈used'∧Fp s.st β φ l x∧∀ ob,s.st[l]?=some ob→ob.wr=true)∧∀ k k' x,Φ k x→Φ k' x→k=k':=by
   intro used1 F hu hr hF hrest
   obtain⟨used',Φ,r1,r2,r3,r4,r5,r6⟩:=XH h hφ xs ys vs used1 K hl' hc' hrest
   refine⟨used',fun k x=>match k with | 0=>F x | k+1=>Φ k x,r1,fun l hl=>r2 l (hu l hl),by simp[r3],fun k c hk=>?_,fun k x hx=>?_,fun k k' x hx hx'=>?_⟩
   ·cases k with
    | zero =>
     grind
    | succ k=>grind
   ·grind
   ·grind [GR]
  have plain:x=y∧AO y=true∧AU s.st xs ys used K→∃ (used':List Nat) (Φ:Nat→Nat→Prop),K used'∧(∀ l∈used,l∈used')∧(y::ys).length=(x::xs).length∧(∀ (k:Nat) (c:Cl),(y::ys)[k]?=some c→∃ z,(v::vs)[k]?=some z∧RdO w St c z (Φ k)) ∧
     (∀ k x,Φ k x→∃ l,l∉used∧l∈used'∧Fp s.st β φ l x∧∀ ob,s.st[l]?=some ob→ob.wr=true)∧∀ k k' x,Φ k x→Φ k' x→k=k':=by
   rintro⟨rfl,hp,hrest⟩
   exact cons used (fun _=>False) (fun _ h=>h) ((RdO.plain (F6 hp)).2 (PX hp hx)) (fun _ h=>h.elim) hrest
  cases y with
  | v z=>exact plain (by simpa only[AU] using ho)
  | sl z=>exact plain (by simpa only[AU] using ho)
  | ref z=>exact plain (by simpa only[AU] using ho)
  | ow ty sz zs =>
   simp only[AU] at ho
   split at ho
   ·rename_i l
    split at ho
    ·rename_i ob hob
     obtain⟨rfl,rfl,rfl,hwr,hnr,hnu,hrest⟩:=ho
     obtain⟨hl0,hlive⟩:=Aw hob
     refine cons (l::used) (Fp s.st β φ l) (fun l' hl'=>by simp[hl']) ?_ (fun x hx=>⟨l,hnu,by simp,hx,fun ob' hob'=>by grind⟩) hrest
     simp only[RdC,A_,hl0] at hx
     have hx2:=hx.2 hlive
     simp only[RdO]
     cases hβ:β l with
     | none=>grind
     | some b =>
      simp only[hβ] at hx2
      obtain⟨cap,cs,e1,e2,e3,e4,e5⟩:=hx2
      obtain⟨_,_,_,_,g2,_⟩:=h.obs l ob b hl0 hlive hβ
      refine .inr ⟨b,cap,cs,φ l,e1,e2,e3,e4,e5,g2,⟨ob,hl0,hlive,.inl hβ⟩,fun k x hk=>⟨⟨ob,hl0,hlive,.inr ⟨k,hk⟩⟩,fun e=>?_⟩,fun k k' x hk hk'=>(hφ.2.2 l l k k' x hk hk').2,RdOE.mk fun k c hk=>?_⟩
      ·exact(hφ.2.1 l k x hk).2.2.2.2.2 l ob hl0 hlive (by rw[hβ,e])
      grind [YA]
    grind
   ·obtain⟨rfl,hrest⟩:=ho
    refine cons used (fun _=>False) (fun _ h=>h) ?_ (fun _ h=>h.elim) hrest
    simp only[RdC,RdD] at hx
    simp only[RdO]
    grind
   grind
end owns
structure RdL2 (w:World) (St:Nat→Nat→Prop) (cl:List Cl) (us:List Value) (G:Nat→Nat→Prop):Prop where
 len:us.length=cl.length
 dis:∀ k k' x,G k x→G k' x→k=k'
 rd:∀ (k:Nat) (c:Cl),cl[k]?=some c→∃ y,us[k]?=some y∧RdO w St c y (G k)
def mkV (g:Bool) (us:List Value):Value:=if g=true then .agg us.toArray else us.headD Go.undef
def mkA (g:Bool) (cl:List Cl):AV:=if g=true then .agg cl else .c (cl.headD (.v (.bool false)))
def MCtr (P:Program) (f:FuncId) (g:Bool) (cl:List Cl) (args:List AV) (Q:List Cl→List AV→Prop):Prop:=
 CallsIn P f∧(g=true∨cl.length=1)∧∀ (w:World) (St:Nat→Nat→Prop) (us:List Value) (G:Nat→Nat→Prop) (vs:List Value),(∀ b o,St b o→b<w.heap.size)→(∀ k x,G k x→x<w.heap.size∧∀ o,¬ St x o)→RdL2 w St cl us G→RdAs w St args vs →
  Calls P f (mkV g us::vs).toArray w fun e w'=>∃ cl' rs rv G',Q cl' rs∧e = .returned (Nc rv)∧Below 0 w w'∧(∀ k,k<w.heap.size→(∀ j,¬ G j k)→w'.heap[k]?=w.heap[k]?)∧(∀ k,k<w.heap.size→Ui w' k=Ui w k) ∧
   RdAs w' St rs rv∧RdL2 w' St cl' us G'∧∀ k x,G' k x→(∃ j,G j x)∨(w.heap.size≤x∧x<w'.heap.size)
def IJ (st:List Ob):List Cl→List Cl→List Ob
 | .ref l::zs,.ow ty sz xs::ys=>IJ (st.set l ⟨ty,sz,xs,true,true⟩) zs ys
 | .ref _::zs,_::ys=>IJ st zs ys
 | .v _::zs,_::ys=>IJ st zs ys
 | .sl _::zs,_::ys=>IJ st zs ys
 | .ow _ _ _::zs,_::ys=>IJ st zs ys
 | [],_=>st
 | _::_,[]=>st
def We:List Cl→List Cl→Prop
 | [],[]=>True
 | .ow ty sz _::a,d::b=>(match d with | .ow ty' sz' _=>ty'=ty∧sz'=sz | _=>False)∧We a b
 | c::a,d::b=>d=c∧We a b
 | _,_=>False
theorem Tz:∀ (zs ys:List Cl) (st:List Ob),(IJ st zs ys).length=st.length
 | [],ys,st=>by cases ys<;>rfl
 | z::zs,[],st=>by cases z<;>rfl
 | z::zs,y::ys,st=>by
  cases z with
  | ref l=>cases y<;>simp[IJ,Tz zs ys]
  | _=>simp[IJ,Tz zs ys]
theorem XI:∀ (zs ys:List Cl) (st:List Ob),(∀ (k k' l:Nat),zs[k]?=some (.ref l)→zs[k']?=some (.ref l)→k=k')→∀ (l:Nat) (ob:Ob),(IJ st zs ys)[l]?=some ob →
  (st[l]?=some ob∧∀ (k ty sz:Nat) (xs:List (List Cl)),zs[k]?=some (.ref l)→ys[k]?≠some (.ow ty sz xs))∨∃ (k ty sz:Nat) (xs:List (List Cl)),zs[k]?=some (.ref l)∧ys[k]?=some (.ow ty sz xs)∧ob=⟨ty,sz,xs,true,true⟩
 | [],ys,st,hd,l,ob,h=>by
  have:IJ st [] ys=st:=by cases ys<;>rfl
  grind
 | z::zs,[],st,hd,l,ob,h=>by
  have:IJ st (z::zs) []=st:=by cases z<;>rfl
  grind
 | z::zs,y::ys,st,hd,l,ob,h=>by
  have hd':∀ (k k' l:Nat),zs[k]?=some (.ref l)→zs[k']?=some (.ref l)→k=k':=fun k k' l h1 h2=>by
   have:=hd (k+1) (k'+1) l (by grind) (by grind)
   omega
  have skip:(IJ st zs ys)[l]?=some ob→(∀ (ty sz:Nat) (xs:List (List Cl)),z = .ref l→y≠ .ow ty sz xs)→(st[l]?=some ob∧∀ (k ty sz:Nat) (xs:List (List Cl)),(z::zs)[k]?=some (.ref l)→(y::ys)[k]?≠some (.ow ty sz xs))∨∃ (k ty sz:Nat) (xs:List (List Cl)),(z::zs)[k]?=some (.ref l)∧(y::ys)[k]?=some (.ow ty sz xs)∧ob=⟨ty,sz,xs,true,true⟩:=by
   intro h hz
   rcases XI zs ys st hd' l ob h with ⟨q1,q2⟩ | ⟨k,ty,sz,xs,q1,q2,q3⟩
   ·grind
   ·exact .inr ⟨k+1,ty,sz,xs,by grind,by grind,q3⟩
  cases z with
  | v x=>exact skip (by simpa only[IJ] using h) (fun _ _ _ e=>by cases e)
  | sl x=>exact skip (by simpa only[IJ] using h) (fun _ _ _ e=>by cases e)
  | ow t n x=>exact skip (by simpa only[IJ] using h) (fun _ _ _ e=>by cases e)
  | ref l0 =>
   cases y with
   | v x=>exact skip (by simpa only[IJ] using h) (fun _ _ _ _ e=>by cases e)
   | sl x=>exact skip (by simpa only[IJ] using h) (fun _ _ _ _ e=>by cases e)
   | ref x=>exact skip (by simpa only[IJ] using h) (fun _ _ _ _ e=>by cases e)
   | ow ty sz xs =>
    simp only[IJ] at h
    rcases XI zs ys _ hd' l ob h with ⟨q1,q2⟩ | ⟨k,t,n,x,q1,q2,q3⟩
    ·grind [aB,ah,Cl.ref.injEq]
    ·exact .inr ⟨k+1,t,n,x,by grind,by grind,q3⟩
theorem XJ:∀ (zs ys:List Cl) (st:List Ob) (l:Nat) (ob:Ob),(∀ (k k' l:Nat),zs[k]?=some (.ref l)→zs[k']?=some (.ref l)→k=k')→st[l]?=some ob →
  ∃ ob',(IJ st zs ys)[l]?=some ob'∧(ob'=ob∨∃ (k ty sz:Nat) (xs:List (List Cl)),zs[k]?=some (.ref l)∧ys[k]?=some (.ow ty sz xs)∧ob'=⟨ty,sz,xs,true,true⟩):=by
 grind [Tz,az,aA,XI,rC]
theorem MW {st:List Ob}:∀ (xs ys:List Cl) (us:List Nat) (K:List Nat→Prop),AU st xs ys us K→∀ (k l:Nat),xs[k]?=some (.ref l)→l∉us∧∃ ob,CO st l=some ob∧ob.wr=true∧Df ob.xs=true∧ys[k]?=some (.ow ob.ty ob.sz ob.xs)
 | [],ys,us,K,ho,k,l,hk=>by simp at hk
 | x::xs,[],us,K,ho,k,l,hk=>by simp[AU] at ho
 | x::xs,y::ys,us,K,ho,k,l,hk=>by
  have plain:x=y∧AO y=true∧AU st xs ys us K→l∉us∧∃ ob,CO st l=some ob∧ob.wr=true∧Df ob.xs=true∧(y::ys)[k]?=some (.ow ob.ty ob.sz ob.xs):=by
   rintro⟨rfl,hp,hrest⟩
   cases k with
   | zero=>simp only[aB,ah] at hk; subst hk; simp[AO] at hp
   | succ k=>simpa using MW xs ys us K hrest k l (by grind)
  cases y with
  | v z=>exact plain (by simpa only[AU] using ho)
  | sl z=>exact plain (by simpa only[AU] using ho)
  | ref z=>exact plain (by simpa only[AU] using ho)
  | ow ty sz zs =>
   simp only[AU] at ho
   split at ho
   ·rename_i l0
    split at ho
    ·rename_i ob hob
     obtain⟨rfl,rfl,rfl,hwr,hnr,hnu,hrest⟩:=ho
     cases k with
     | zero =>
      grind
     | succ k =>
      obtain⟨q1,q2⟩:=MW xs ys _ K hrest k l (by grind)
      grind
    grind
   ·cases k with
    | zero=>simp at hk
    | succ k=>simpa using MW xs ys us K ho.2 k l (by grind)
   grind
theorem VB {st:List Ob}:∀ (xs ys:List Cl) (us:List Nat) (K:List Nat→Prop),AU st xs ys us K→∀ (k k' l:Nat),xs[k]?=some (.ref l)→xs[k']?=some (.ref l)→k=k'
 | [],ys,us,K,ho,k,k',l,hk,_=>by simp at hk
 | x::xs,[],us,K,ho,k,k',l,hk,_=>by simp[AU] at ho
 | x::xs,y::ys,us,K,ho,k,k',l,hk,hk'=>by
  have key:∀ us',AU st xs ys us' K→(x = .ref l→l∈us')→k=k':=by
   intro us' hrest hx
   cases k with
   | zero =>
    grind [aB,ah,MW]
   | succ k =>
    cases k' with
    | zero =>
     grind [aB,ah,MW]
    | succ k' =>
     have:=VB xs ys us' K hrest k k' l (by grind) (by grind)
     omega
  have plain:x=y∧AO y=true∧AU st xs ys us K→k=k':=by
   rintro⟨rfl,hp,hrest⟩
   exact key us hrest fun e=>by subst e; simp[AO] at hp
  cases y with
  | v z=>exact plain (by simpa only[AU] using ho)
  | sl z=>exact plain (by simpa only[AU] using ho)
  | ref z=>exact plain (by simpa only[AU] using ho)
  | ow ty sz zs =>
   simp only[AU] at ho
   grind
theorem jZ:∀ {a b:List Cl},We a b→∀ (k:Nat) (ty sz:Nat) (xs:List (List Cl)),a[k]?=some (.ow ty sz xs)→∃ xs',b[k]?=some (.ow ty sz xs')
 | [],[],h,k,ty,sz,xs,hk=>by simp at hk
 | [],d::b,h,k,ty,sz,xs,hk=>by simp at hk
 | c::a,[],h,k,ty,sz,xs,hk=>by cases c<;>simp[We] at h
 | c::a,d::b,h,k,ty,sz,xs,hk=>by
  have tl:We a b→∀ (k:Nat),a[k]?=some (Cl.ow ty sz xs)→∃ xs',b[k]?=some (Cl.ow ty sz xs'):=fun h k hk=>jZ h k ty sz xs hk
  cases c with
  | ow t n x =>
   simp only[We] at h
   grind
  | v x =>
   simp only[We] at h
   grind
  | sl x =>
   simp only[We] at h
   grind
  | ref x =>
   simp only[We] at h
   grind
theorem ABd (h:Core w0 St0 St β s a w) {φ:Nat→Nat→Nat→Prop} (hφ:Ru w0 w St s.st β φ) {zs cl cl':List Cl} {us:List Value} {G G':Nat→Nat→Prop} {w':World} {St':Nat→Nat→Prop} {K:List Nat→Prop}
  (ho:AU s.st zs cl [] K) (hz:∀ (k:Nat) (c:Cl),zs[k]?=some c→∃ y,us[k]?=some y∧RdC w St s.st β c y)
  (hG:∀ k x,G k x→∃ l,zs[k]?=some (.ref l)∧Fp s.st β φ l x) (hsh:We cl cl')
  (hb:Below 0 w w') (hblk:∀ k,k<w.heap.size→(∀ j,¬ G j k)→w'.heap[k]?=w.heap[k]?) (hbs:∀ k,k<w.heap.size→Ui w' k=Ui w k) (hS:∀ b o,St b o→St' b o) (hSo:∀ b o,St' b o→b<w.heap.size→St b o) (hSi:∀ b o,St' b o→b<w'.heap.size)
  (hr:RdL2 w' St' cl' us G') (hG':∀ k x,G' k x→(∃ j,G j x)∨(w.heap.size≤x∧x<w'.heap.size∧∀ o,¬ St' x o)):Core w0 St0 St' β ⟨s.n,s.env,IJ s.st zs cl'⟩ a w':=by
 have hd:=VB zs cl [] K ho
 have hwr:∀ (k l:Nat) (ob:Ob),zs[k]?=some (.ref l)→s.st[l]?=some ob→ob.wr=true∧ob.live=true∧cl[k]?=some (.ow ob.ty ob.sz ob.xs):=fun k l ob hk hl=>by
  obtain⟨_,ob',h1,h2,_,h4⟩:=MW zs cl [] K ho k l hk
  obtain⟨h5,h6⟩:=Aw h1
  rw[hl] at h5; cases h5
  exact⟨h2,h6,h4⟩
 have hGf:∀ k x,G k x→w0.may x∧x<w.heap.size∧∀ o,¬ St x o:=fun k x hx=>by
  obtain⟨l,q1,q2⟩:=hG k x hx
  exact Qb h hφ q2 fun ob hob=>(hwr k l ob q1 hob).1
 have hG'f:∀ k x,G' k x→w0.may x∧x<w'.heap.size∧∀ o,¬ St' x o:=fun k x hx=>by
  rcases hG' k x hx with ⟨j,hj⟩ | ⟨q1,q2,q3⟩
  ·obtain⟨p1,p2,p3⟩:=hGf j x hj
   exact⟨p1,bn p2 hb.size,fun o ho=>p3 o (hSo x o ho p2)⟩
  ·exact⟨.inl (Nat.le_trans h.below.size q1),q2,q3⟩
 have hkeep:∀ (l:Nat) (x:Nat),Fp s.st β φ l x→x<w.heap.size→(∀ k:Nat,zs[k]?≠some (.ref l))→w'.heap[x]?=w.heap[x]?:=fun l x hx hlt hno=>hblk x hlt fun j hj=>by
  obtain⟨l2,q1,q2⟩:=hG j x hj
  have:=GR h hφ hx q2
  subst this
  exact hno j q1
 have hcell:∀ b o,St b o→w'.cell? ⟨b,o,none⟩=w.cell? ⟨b,o,none⟩:=fun b o hbo=>cell_of_block (hblk b (h.stIn b o hbo) fun j hj=>(hGf j b hj).2.2 o hbo)
 have hnew:∀ (k l ty sz:Nat) (xs:List (List Cl)) (ob:Ob),zs[k]?=some (.ref l)→cl'[k]?=some (.ow ty sz xs)→s.st[l]?=some ob→ty=ob.ty∧sz=ob.sz∧xs.length=ob.xs.length∧(β l=none→xs = []) ∧
   ∀ b,β l=some b→∃ (cs cs':Array Value) (H:Nat→Nat→Prop),w.heap[b]?=some (.cells cs ob.ty (0,0))∧w'.heap[b]?=some (.cells cs' ob.ty (0,0))∧(∀ x∈xs,x.length=ob.sz)∧(∃ cap,cs.size=cap*ob.sz∧cs'.size=cap*ob.sz)∧G' k b ∧
    (∀ m x,H m x→G' k x∧x≠b)∧(∀ m m' x,H m x→H m' x→m=m')∧∀ (m:Nat) (c:Cl),xs.flatten[m]?=some c→∃ y,cs'[m]?=some y∧RdO w' St' c y (H m):=by
  intro k l ty sz xs ob hk hk' hl
  obtain⟨_,hlv,hcl⟩:=hwr k l ob hk hl
  obtain⟨xs2,hxs2⟩:=jZ hsh k _ _ _ hcl
  rw[hk'] at hxs2
  simp only[ah,Cl.ow.injEq] at hxs2
  obtain⟨rfl,rfl,rfl⟩:=hxs2
  obtain⟨y,hy,hyr⟩:=hz k _ hk
  obtain⟨y2,hy2,hro⟩:=hr.rd k _ hk'
  rw[hy] at hy2; cases hy2
  simp only[RdC,A_,hl] at hyr
  have hyr2:=hyr.2 hlv
  simp only[RdO] at hro
  cases hβ:β l with
  | none =>
   simp only[hβ] at hyr2
   obtain⟨rfl,hox⟩:=hyr2
   rcases hro with ⟨_,rfl⟩ | ⟨b,cap,cs,H,e1,_⟩
   ·exact⟨rfl,rfl,by rw[hox],fun _=>rfl,(fun b hb=>by cases hb)⟩
   ·cases e1
  | some b =>
   simp only[hβ] at hyr2
   obtain⟨cap0,cs0,e0,_,_,c4,c5⟩:=hyr2
   rcases hro with ⟨e1,_⟩ | ⟨b',cap,cs,H,e1,e2,e3,e4,e5,e6,e7,e8,e9,e10⟩
   ·rw[e0] at e1; cases e1
   ·rw[e0] at e1
    simp only[Value.slice.injEq,ah,Addr.mk.injEq,yY] at e1
    obtain⟨rfl,e11,rfl⟩:=e1
    refine⟨rfl,rfl,e11.symm,(fun h=>by cases h),fun b2 hb2=>?_⟩
    cases hb2
    exact⟨cs0,cs,H,c4,e4,e6,⟨cap0,c5,e5⟩,e7,e8,e9,fun m c hm=>by simpa using e10.at hm⟩
 have hold:∀ (l:Nat) (o2:Ob),s.st[l]?=some o2→∃ o3,(IJ s.st zs cl')[l]?=some o3∧o3.sz=o2.sz∧o3.ty=o2.ty∧o3.xs.length=o2.xs.length∧(o3.live=true→o2.live=true):=by
  intro l o2 hl
  obtain⟨o3,q1,q2⟩:=XJ zs cl' s.st l o2 hd hl
  rcases q2 with rfl | ⟨k,ty,sz,xs,p1,p2,rfl⟩
  ·exact⟨o3,q1,rfl,rfl,rfl,id⟩
  ·obtain⟨r1,r2,r3,_⟩:=hnew k l ty sz xs o2 p1 p2 hl
   exact⟨_,q1,r2,r1,r3,fun _=>(hwr k l o2 p1 hl).2.1⟩
 have hback:∀ (l:Nat) (o3:Ob),(IJ s.st zs cl')[l]?=some o3→∃ o2,s.st[l]?=some o2∧((o3=o2∧∀ k:Nat,zs[k]?≠some (.ref l))∨∃ (k ty sz:Nat) (xs:List (List Cl)),zs[k]?=some (.ref l)∧cl'[k]?=some (.ow ty sz xs)∧o3=⟨ty,sz,xs,true,true⟩):=by
  intro l o3 h3
  have hl:l<s.st.length:=by
   have:=(az.1 h3).1
   rwa [Tz] at this
  refine⟨s.st[l],aA hl, ?_⟩
  rcases XI zs cl' s.st hd l o3 h3 with ⟨q1,q2⟩ | q
  ·refine .inl ⟨by rw[aA hl] at q1; exact(rC q1).symm,fun k hk=>?_⟩
   obtain⟨_,_,hcl⟩:=hwr k l _ hk (aA hl)
   obtain⟨xs',hxs'⟩:=jZ hsh k _ _ _ hcl
   exact q2 k _ _ _ hk hxs'
  ·exact .inr q
 have hr':∀ (l:Nat) (u:Value),A_ w s.st β l u→A_ w' (IJ s.st zs cl') β l u:=by
  intro l u hu
  unfold A_ at hu ⊢
  cases hq:s.st[l]? with
  | none=>simp[hq] at hu
  | some o2 =>
   simp only[hq] at hu
   obtain⟨o3,q1,q2⟩:=XJ zs cl' s.st l o2 hd hq
   simp only[q1]
   rcases q2 with rfl | ⟨k,ty,sz,xs,p1,p2,rfl⟩
   ·refine⟨hu.1,fun hlv=>?_⟩
    have h2:=hu.2 hlv
    obtain⟨o2',t1,t2⟩:=hback l o3 q1
    rw[hq] at t1; cases t1
    cases hβ:β l with
    | none=>simpa only[hβ] using h2
    | some b =>
     simp only[hβ] at h2 ⊢
     rcases t2 with ⟨_,hno⟩ | ⟨k,ty,sz,xs,p1,p2,e⟩
     ·rw[hkeep l b ⟨o3,hq,hlv,.inl hβ⟩ (h.obs l o3 b hq hlv hβ).2.1 hno]
      exact h2
     ·obtain⟨r1,r2,r3,r4,r5⟩:=hnew k l ty sz xs o3 p1 p2 hq
      obtain⟨cs,cs',H,c1,c2,c3,⟨cap,c4,c5⟩,_⟩:=r5 b hβ
      obtain⟨cap0,cs0,e1,e2,e3,e4,e5⟩:=h2
      rw[c1] at e4; cases e4
      exact⟨cap0,cs',e1,e2,e3,c2,by rw[c5,← c4,e5]⟩
   ·refine⟨hu.1,fun _=>?_⟩
    obtain⟨r1,r2,r3,r4,r5⟩:=hnew k l ty sz xs o2 p1 p2 hq
    subst r1 r2
    have h2:=hu.2 (hwr k l o2 p1 hq).2.1
    cases hβ:β l with
    | none=>simp only[hβ] at h2 ⊢; exact⟨h2.1,r4 hβ⟩
    | some b =>
     simp only[hβ] at h2 ⊢
     obtain⟨cs,cs',H,c1,c2,c3,⟨cap,c4,c5⟩,_⟩:=r5 b hβ
     obtain⟨cap0,cs0,e1,e2,e3,e4,e5⟩:=h2
     rw[c1] at e4; cases e4
     exact⟨cap0,cs',by rw[r3]; exact e1,by rw[r3]; exact e2,e3,c2,by rw[c5,← c4,e5]⟩
 have hp':∀ (l i off:Nat) (u:Value),AVR w St s.st β (.lp l i off) u→AVR w' St' (IJ s.st zs cl') β (.lp l i off) u:=by
  intro l i off u hu
  simp only[AVR] at hu ⊢
  cases hq:s.st[l]? with
  | none=>simp[hq] at hu
  | some o2 =>
   obtain⟨o3,p1,p2,_,_,p5⟩:=hold l o2 hq
   simp only[hq] at hu
   simp only[p1,p2]
   exact fun hlv=>hu (p5 hlv)
 have hBB:∀ (c:Cl) (u:Value),RdB w St s.st β c u→RdB w' St' (IJ s.st zs cl') β c u:=fun c u hu=>RdB.mono hS hcell hr' c u hu
 have hFpw:∀ (l:Nat) (ob:Ob) (b:Nat),s.st[l]?=some ob→ob.live=true→β l=some b→b<w.heap.size:=fun l ob b h1 h2 h3=>(h.obs l ob b h1 h2 h3).2.1
 exact {
  defers:=h.defers
  size:=h.size
  lim:=h.lim
  env:=fun i=>AVR.mono hS hcell hr' hp' _ _ (h.env i)
  below:=h.below.step hb (fun k h1 h2=>hblk k (bn h1 h.below.size) fun j hj=>by
   rcases(hGf j k hj).1 with h3 | h3
   ·omega
   ·exact h2 h3) fun k hk=>hbs k (bn hk h.below.size)
  st0:=fun b o hbo=>hS b o (h.st0 b o hbo)
  stOld:=fun b o hbo hlt hno=>h.stOld b o (hSo b o hbo (bn hlt h.below.size)) hlt hno
  stIn:=hSi
  obs:=fun l o3 b h3 hlv hβ=>by
   obtain⟨o2,q1,q2⟩:=hback l o3 h3
   rcases q2 with ⟨rfl,hno⟩ | ⟨k,ty,sz,xs,p1,p2,rfl⟩
   ·obtain⟨t1,t2,cs,g1,g2,g3⟩:=h.obs l o3 b q1 hlv hβ
    refine⟨t1,bn t2 hb.size,cs,by rw[hkeep l b ⟨o3,q1,hlv,.inl hβ⟩ t2 hno]; exact g1,g2,fun m c hm=>?_⟩
    obtain⟨u,hu,hc⟩:=g3 m c hm
    exact⟨u,hu,hBB c u hc⟩
   ·obtain⟨hw1,hlv1,_⟩:=hwr k l o2 p1 q1
    obtain⟨r1,r2,r3,r4,r5⟩:=hnew k l ty sz xs o2 p1 p2 q1
    subst r1 r2
    obtain⟨t1,t2,_⟩:=h.obs l o2 b q1 hlv1 hβ
    obtain⟨cs,cs',H,c1,c2,c3,_,_,_,_,c8⟩:=r5 b hβ
    refine⟨t1,bn t2 hb.size,cs',c2,c3,fun m c hm=>?_⟩
    obtain⟨y,hy,hc⟩:=c8 m c hm
    exact⟨y,hy,hc.toB⟩
  nil:=fun l o3 h3 hlv hβ=>by
   obtain⟨o2,q1,q2⟩:=hback l o3 h3
   rcases q2 with ⟨rfl,hno⟩ | ⟨k,ty,sz,xs,p1,p2,rfl⟩
   ·exact h.nil l o3 q1 hlv hβ
   ·exact(hnew k l ty sz xs o2 p1 p2 q1).2.2.2.1 hβ
  inj:=fun l l' o1 o2 b h1 h2 h3 h4 h5 h6=>by
   have key:∀ (l:Nat) (o3:Ob),(IJ s.st zs cl')[l]?=some o3→o3.live=true→∃ o2,s.st[l]?=some o2∧o2.live=true:=by
    intro l o3 h3 hlv
    obtain⟨o2,q1,q2⟩:=hback l o3 h3
    rcases q2 with ⟨rfl,hno⟩ | ⟨k,ty,sz,xs,p1,p2,rfl⟩
    ·exact⟨o3,q1,hlv⟩
    ·exact⟨o2,q1,(hwr k l o2 p1 q1).2.1⟩
   obtain⟨p1,q1,r1⟩:=key l o1 h1 h3
   obtain⟨p2,q2,r2⟩:=key l' o2 h2 h4
   exact h.inj l l' p1 p2 b q1 q2 r1 r2 h5 h6
  sep:=fun l o3 b o h3 hlv hβ hbo=>by
   obtain⟨o2,q1,q2⟩:=hback l o3 h3
   rcases q2 with ⟨rfl,hno⟩ | ⟨k,ty,sz,xs,p1,p2,rfl⟩
   ·exact h.sep l o3 b o q1 hlv hβ (hSo b o hbo (hFpw l o3 b q1 hlv hβ))
   ·obtain⟨hw1,hlv1,_⟩:=hwr k l o2 p1 q1
    have:=(h.sep l o2 b o q1 hlv1 hβ (hSo b o hbo (hFpw l o2 b q1 hlv1 hβ))).1
    rw[hw1] at this
    cases this
  own:=by
   have hH:∀ l,∃ Hl:Nat→Nat→Prop,∀ (k ty sz:Nat) (xs:List (List Cl)) (ob:Ob) (b:Nat),zs[k]?=some (.ref l)→cl'[k]?=some (.ow ty sz xs)→s.st[l]?=some ob→β l=some b →
     ∃ cs':Array Value,w'.heap[b]?=some (.cells cs' ob.ty (0,0))∧G' k b∧(∀ m x,Hl m x→G' k x∧x≠b)∧(∀ m m' x,Hl m x→Hl m' x→m=m')∧∀ (m:Nat) (c:Cl),xs.flatten[m]?=some c→∃ y,cs'[m]?=some y∧RdO w' St' c y (Hl m):=by
    intro l
    by_cases hex:∃ (k ty sz:Nat) (xs:List (List Cl)) (ob:Ob) (b:Nat),zs[k]?=some (.ref l)∧cl'[k]?=some (.ow ty sz xs)∧s.st[l]?=some ob∧β l=some b
    ·obtain⟨k,ty,sz,xs,ob,b,h1,h2,h3,h4⟩:=hex
     obtain⟨_,_,_,_,r5⟩:=hnew k l ty sz xs ob h1 h2 h3
     obtain⟨cs,cs',H,c1,c2,c3,c4,c5,c6,c7,c8⟩:=r5 b h4
     refine⟨H,fun k2 ty2 sz2 xs2 ob2 b2 g1 g2 g3 g4=>?_⟩
     have:=hd k k2 l h1 g1
     subst this
     rw[h2] at g2; cases g2
     rw[h3] at g3; cases g3
     rw[h4] at g4; cases g4
     exact⟨cs',c2,c5,c6,c7,c8⟩
    ·exact⟨fun _ _=>False,fun k ty sz xs ob b h1 h2 h3 h4=>(hex ⟨k,ty,sz,xs,ob,b,h1,h2,h3,h4⟩).elim⟩
   obtain⟨HH,hHH⟩:=Classical.axiomOfChoice hH
   have hwrit:∀ (l:Nat),(∃ (k ty sz:Nat) (xs:List (List Cl)) (ob:Ob) (b:Nat),zs[k]?=some (.ref l)∧cl'[k]?=some (.ow ty sz xs)∧s.st[l]?=some ob∧β l=some b)→∀ m x,HH l m x→∃ k b,zs[k]?=some (.ref l)∧β l=some b∧G' k b∧G' k x∧x≠b:=by
    rintro l ⟨k,ty,sz,xs,ob,b,h1,h2,h3,h4⟩ m x hx
    obtain⟨cs',q1,q2,q3,q4,q5⟩:=hHH l k ty sz xs ob b h1 h2 h3 h4
    exact⟨k,b,h1,h4,q2,(q3 m x hx).1,(q3 m x hx).2⟩
   refine⟨fun l m x=>((∃ (k ty sz:Nat) (xs:List (List Cl)) (ob:Ob) (b:Nat),zs[k]?=some (.ref l)∧cl'[k]?=some (.ow ty sz xs)∧s.st[l]?=some ob∧β l=some b)∧HH l m x)∨((∀ k:Nat,zs[k]?≠some (.ref l))∧φ l m x), ?_, ?_, ?_⟩
   ·intro l o3 b m c h3 hlv hβ hm hc
    obtain⟨o2,q1,q2⟩:=hback l o3 h3
    rcases q2 with ⟨rfl,hno⟩ | ⟨k,ty,sz,xs,p1,p2,rfl⟩
    ·obtain⟨u,hu,hro⟩:=hφ.1 l o3 b m c q1 hlv hβ hm hc
     have hlt:=hFpw l o3 b q1 hlv hβ
     refine⟨u,by rw[cell_of_block (hkeep l b ⟨o3,q1,hlv,.inl hβ⟩ hlt hno)]; exact hu,RdO.mono hS hcell c u _ _ (fun x hx=>.inr ⟨hno,hx⟩) (fun x hx=>?_) hro⟩
     exact hkeep l x ⟨o3,q1,hlv,.inr ⟨m,hx⟩⟩ (hφ.2.1 l m x hx).2.2.2.1 hno
    ·obtain⟨cs',t1,t2,t3,t4,t5⟩:=hHH l k ty sz xs o2 b p1 p2 q1 hβ
     obtain⟨y,hy,hro⟩:=t5 m c hm
     exact⟨y,by simp[World.cell?,t1,hy],RdO.mono (fun _ _ h=>h) (fun _ _ _=>rfl) c y _ _ (fun x hx=>.inl ⟨⟨k,ty,sz,xs,o2,b,p1,p2,q1,hβ⟩,hx⟩) (fun _ _=>rfl) hro⟩
   ·rintro l m x (⟨hex,hx⟩ | ⟨hno,hx⟩)
    ·obtain⟨k,b,p1,p2,p3,p4,p5⟩:=hwrit l hex m x hx
     obtain⟨k2,ty,sz,xs,ob,b2,g1,g2,g3,g4⟩:=hex
     obtain⟨t1,t2,t3⟩:=hG'f k x p4
     obtain⟨o3,s1,s2⟩:=XJ zs cl' s.st l ob hd g3
     have hlv3:o3.live=true:=by
      rcases s2 with rfl | ⟨_,_,_,_,_,_,rfl⟩
      ·exact(hwr k2 l o3 g1 g3).2.1
      ·rfl
     refine⟨⟨o3,b2,s1,hlv3,g4⟩,t1,fun h=>h,t2,t3,fun l' o4 h4 hlv hb'=>?_⟩
     obtain⟨o5,u1,u2⟩:=hback l' o4 h4
     rcases u2 with ⟨rfl,hno'⟩ | ⟨k',ty',sz',xs',v1,v2,rfl⟩
     ·rcases hG' k x p4 with ⟨j,hj⟩ | ⟨q1,_⟩
      ·obtain⟨l2,w1,w2⟩:=hG j x hj
       have:=GR h hφ ⟨o4,u1,hlv,.inl hb'⟩ w2
       subst this
       exact hno' j w1
      ·have:=hFpw l' o4 x u1 hlv hb'
       omega
     ·obtain⟨cs',z1,z2,_⟩:=hHH l' k' ty' sz' xs' o5 x v1 v2 u1 hb'
      have:=hr.dis k k' x p4 z2
      subst this
      rw[p1] at v1
      simp only[ah,Cl.ref.injEq] at v1
      subst v1
      rw[p2] at hb'
      exact p5 (rC hb').symm
    ·obtain⟨⟨o2,b,p1,p2,p3⟩,q1,_,q3,q4,q5⟩:=hφ.2.1 l m x hx
     obtain⟨o3,s1,s2⟩:=XJ zs cl' s.st l o2 hd p1
     have hlv3:o3.live=true:=by
      rcases s2 with rfl | ⟨_,_,_,_,_,_,rfl⟩
      ·exact p2
      ·rfl
     refine⟨⟨o3,b,s1,hlv3,p3⟩,q1,fun h=>h,bn q3 hb.size,fun o ho'=>q4 o (hSo x o ho' q3),fun l' o4 h4 hlv=>?_⟩
     obtain⟨o5,u1,u2⟩:=hback l' o4 h4
     rcases u2 with ⟨rfl,_⟩ | ⟨k',ty',sz',xs',v1,v2,rfl⟩
     ·exact q5 l' o4 u1 hlv
     ·exact q5 l' o5 u1 (hwr k' l' o5 v1 u1).2.1
   ·rintro l l' m m' x (⟨hex,hx⟩ | ⟨hno,hx⟩) (⟨hex',hx'⟩ | ⟨hno',hx'⟩)
    ·obtain⟨k,b,p1,p2,p3,p4,p5⟩:=hwrit l hex m x hx
     obtain⟨k',b',p1',p2',p3',p4',p5'⟩:=hwrit l' hex' m' x hx'
     have:=hr.dis k k' x p4 p4'
     subst this
     rw[p1] at p1'
     simp only[ah,Cl.ref.injEq] at p1'
     subst p1'
     obtain⟨k2,ty,sz,xs,ob,b2,g1,g2,g3,g4⟩:=hex
     obtain⟨cs',z1,z2,z3,z4,z5⟩:=hHH l k2 ty sz xs ob b2 g1 g2 g3 g4
     exact⟨rfl,z4 m m' x hx hx'⟩
    ·obtain⟨k,b,p1,p2,p3,p4,p5⟩:=hwrit l hex m x hx
     obtain⟨⟨o2,b2,t1,t2,t3⟩,_,_,q3,_⟩:=hφ.2.1 l' m' x hx'
     rcases hG' k x p4 with ⟨j,hj⟩ | ⟨q1,_⟩
     ·obtain⟨l2,w1,w2⟩:=hG j x hj
      have:=GR h hφ ⟨o2,t1,t2,.inr ⟨m',hx'⟩⟩ w2
      subst this
      exact absurd w1 (hno' j)
     ·omega
    ·obtain⟨k,b,p1,p2,p3,p4,p5⟩:=hwrit l' hex' m' x hx'
     obtain⟨⟨o2,b2,t1,t2,t3⟩,_,_,q3,_⟩:=hφ.2.1 l m x hx
     rcases hG' k x p4 with ⟨j,hj⟩ | ⟨q1,_⟩
     ·obtain⟨l2,w1,w2⟩:=hG j x hj
      have:=GR h hφ ⟨o2,t1,t2,.inr ⟨m,hx⟩⟩ w2
      subst this
      exact absurd w1 (hno j)
     ·omega
    ·exact hφ.2.2 l l' m m' x hx hx' }
theorem YQ {st:List Ob}:∀ (xs ys:List Cl) (us:List Nat) (K:List Nat→Prop),AU st xs ys us K→ys.length=xs.length∧∀ (k:Nat) (x:Cl),xs[k]?=some x →
  (∃ l ob,x = .ref l∧CO st l=some ob∧ob.wr=true∧Df ob.xs=true∧ys[k]?=some (.ow ob.ty ob.sz ob.xs))∨(ys[k]?=some x∧AO x=true)∨(x = .v (.slice none 0 0)∧∃ ty sz,ys[k]?=some (.ow ty sz []))
 | [],ys,us,K,ho=>by
  cases ys with
  | nil=>grind
  | cons y ys=>cases y<;>simp[AU] at ho
 | x::xs,[],us,K,ho=>by simp[AU] at ho
 | x::xs,y::ys,us,K,ho=>by
  have cons:∀ us',AU st xs ys us' K→((∃ l ob,x = .ref l∧CO st l=some ob∧ob.wr=true∧Df ob.xs=true∧y = .ow ob.ty ob.sz ob.xs)∨(y=x∧AO x=true)∨(x = .v (.slice none 0 0)∧∃ ty sz,y = .ow ty sz [])) →
    (y::ys).length=(x::xs).length∧∀ (k:Nat) (x2:Cl),(x::xs)[k]?=some x2→(∃ l ob,x2 = .ref l∧CO st l=some ob∧ob.wr=true∧Df ob.xs=true∧(y::ys)[k]?=some (.ow ob.ty ob.sz ob.xs))∨((y::ys)[k]?=some x2∧AO x2=true)∨(x2 = .v (.slice none 0 0)∧∃ ty sz,(y::ys)[k]?=some (.ow ty sz [])):=by
   intro us' hrest hx
   obtain⟨q1,q2⟩:=YQ xs ys us' K hrest
   refine⟨by simp[q1],fun k x2 hk=>?_⟩
   cases k with
   | zero =>
    grind
   | succ k=>grind
  cases y with
  | v z=>simp only[AU] at ho; grind
  | sl z=>simp only[AU] at ho; grind
  | ref z=>simp only[AU] at ho; grind
  | ow ty sz zs =>
   simp only[AU] at ho
   split at ho
   ·rename_i l
    split at ho
    ·grind
    grind
   ·grind
   grind
theorem wo (h:Core w0 St0 St β s a w) {φ:Nat→Nat→Nat→Prop} (hφ:Ru w0 w St s.st β φ) {zs cl:List Cl} {K:List Nat→Prop} {us:List Value} (ho:AU s.st zs cl [] K) (hlen:us.length=zs.length)
  (hz:∀ (k:Nat) (c:Cl),zs[k]?=some c→∃ y,us[k]?=some y∧RdC w St s.st β c y):RdL2 w St cl us (fun k x=>∃ l,zs[k]?=some (.ref l)∧Fp s.st β φ l x):=by
 obtain⟨q1,q2⟩:=YQ zs cl [] K ho
 refine⟨by omega,fun k k' x ⟨l,h1,h2⟩ ⟨l',h1',h2'⟩=>?_,fun k c hk=>?_⟩
 ·grind [GR,VB]
 ·have hkz:k<zs.length:=by rw[← q1]; exact(az.1 hk).1
  obtain⟨y,hy,hr⟩:=hz k _ (aA hkz)
  refine⟨y,hy, ?_⟩
  rcases q2 k _ (aA hkz) with ⟨l,ob,e1,e2,_,e4,e5⟩ | ⟨e1,e2⟩ | ⟨e1,ty,sz,e2⟩
  ·rw[hk] at e5
   cases e5
   rw[e1] at hr
   exact RdO.mono (fun _ _ h=>h) (fun _ _ _=>rfl) _ y _ _ (fun x hx=>⟨l,by grind,hx⟩) (fun _ _=>rfl) (AA5 h hφ e2 e4 hr)
  ·grind [RdO.plain,F6,PX]
  ·rw[hk] at e2
   cases e2
   rw[e1] at hr
   simp only[RdC,RdD] at hr
   simp only[RdO]
   grind
def PCtr (P:Program) (f:FuncId) (ty:TypeId) (cl:List Cl) (args:List AV) (cl':List Cl) (rs:List AV):Prop:=
 CallsIn P f∧cl'.length=cl.length∧∀ (w:World) (St:Nat→Nat→Prop) (b:Nat) (cs:Array Value) (vs:List Value),(∀ b o,St b o→b<w.heap.size)→w.heap[b]?=some (.cells cs ty (0,0))→(∀ o,¬ St b o) →
  (∀ (k:Nat) (c:Cl),cl[k]?=some c→∃ y,cs[k]?=some y∧RdD w St c y)→RdAs w St args vs →
  Calls P f (.pointer (some ⟨b,0,none⟩)::vs).toArray w fun e w'=>∃ rv cs' St',e = .returned (Nc rv)∧Below 0 w w'∧(∀ k,k<w.heap.size→k≠b→w'.heap[k]?=w.heap[k]?)∧(∀ b o,St b o→St' b o)∧(∀ b o,St' b o→b<w.heap.size→St b o) ∧
   (∀ b o,St' b o→b<w'.heap.size)∧w'.heap[b]?=some (.cells cs' ty (0,0))∧(∀ k,k<w.heap.size→Ui w' k=Ui w k)∧(∀ (k:Nat) (c:Cl),cl'[k]?=some c→∃ y,cs'[k]?=some y∧RdD w' St' c y)∧RdAs w' St' rs rv
theorem ABe (h:Core w0 St0 St β s a w) {l b:Nat} {ob:Ob} (hob:CO s.st l=some ob) (hwr:ob.wr=true) (hβ:β l=some b) {w':World} {St':Nat→Nat→Prop} {cs cs':Array Value} {cl':List Cl} (hcs0:w.heap[b]?=some (.cells cs ob.ty (0,0)))
  (hb:Below 0 w w') (hblk:∀ k,k<w.heap.size→k≠b→w'.heap[k]?=w.heap[k]?) (hS:∀ b o,St b o→St' b o) (hSo:∀ b o,St' b o→b<w.heap.size→St b o) (hSi:∀ b o,St' b o→b<w'.heap.size)
  (hcs:w'.heap[b]?=some (.cells cs' ob.ty (0,0))) (hbs:∀ k,k<w.heap.size→Ui w' k=Ui w k) (hcl:∀ (k:Nat) (c:Cl),cl'[k]?=some c→∃ y,cs'[k]?=some y∧RdD w' St' c y) (hlen:cl'.length=ob.sz) (hone:ob.xs.length=1) :
  Core w0 St0 St' β ⟨s.n,s.env,s.st.set l ⟨ob.ty,ob.sz,[cl'],true,true⟩⟩ a w':=by
 obtain⟨hl,hlive⟩:=Aw hob
 obtain⟨hB,hlt,_⟩:=h.obs l ob b hl hlive hβ
 have hsz:cs'.size=cs.size:=(iY hcs0 hcs).1 (hbs b hlt)
 have hnSt:∀ o,¬ St b o:=fun o ho=>by
  have:=(h.sep l ob b o hl hlive hβ ho).1
  grind
 have hcell:∀ b' o,St b' o→w'.cell? ⟨b',o,none⟩=w.cell? ⟨b',o,none⟩:=fun b' o hbo=>cell_of_block (hblk b' (h.stIn b' o hbo) fun e=>hnSt o (e▸hbo))
 have hll:l<s.st.length:=(az.1 hl).1
 have hget:∀ l',(s.st.set l ⟨ob.ty,ob.sz,[cl'],true,true⟩)[l']?=if l=l' then some ⟨ob.ty,ob.sz,[cl'],true,true⟩ else s.st[l']?:=fun l'=>by
  grind
 have hoth:∀ (l':Nat) (o2:Ob) (b2:Nat),s.st[l']?=some o2→o2.live=true→β l'=some b2→l≠l'→b2≠b∧w'.heap[b2]?=w.heap[b2]?:=fun l' o2 b2 h1 h2 h3 h4=>by
  have hne:b2≠b:=fun e=>by subst e; exact h4 (h.inj l l' ob o2 b2 hl h1 hlive h2 hβ h3)
  exact⟨hne,hblk b2 (h.obs l' o2 b2 h1 h2 h3).2.1 hne⟩
 have hr:∀ l' u,A_ w s.st β l' u→A_ w' (s.st.set l ⟨ob.ty,ob.sz,[cl'],true,true⟩) β l' u:=by
  intro l' u hu
  unfold A_ at hu ⊢
  rw[hget l']
  by_cases e:l=l'
  ·grind
  ·simp only[e,aT]
   cases hq:s.st[l']? with
   | none=>grind
   | some o2 =>
    grind
 have hp:∀ l' i off u,AVR w St s.st β (.lp l' i off) u→AVR w' St' (s.st.set l ⟨ob.ty,ob.sz,[cl'],true,true⟩) β (.lp l' i off) u:=by
  intro l' i off u hu
  simp only[AVR,hget l'] at hu ⊢
  by_cases e:l=l'
  ·grind
  ·grind
 have hBB:∀ x u,RdB w St s.st β x u→RdB w' St' (s.st.set l ⟨ob.ty,ob.sz,[cl'],true,true⟩) β x u:=fun x u hx=>RdB.mono hS hcell hr x u hx
 have hsp:∀ (l':Nat) (o2:Ob),(s.st.set l ⟨ob.ty,ob.sz,[cl'],true,true⟩)[l']?=some o2→(l=l'∧o2=⟨ob.ty,ob.sz,[cl'],true,true⟩)∨(l≠l'∧s.st[l']?=some o2):=by
  intro l' o2 h2
  rw[hget l'] at h2
  by_cases e:l=l'
  ·grind
  ·grind
 have hlv:∀ (l':Nat) (o2:Ob),(s.st.set l ⟨ob.ty,ob.sz,[cl'],true,true⟩)[l']?=some o2→o2.live=true→∃ o3:Ob,s.st[l']?=some o3∧o3.live=true:=fun l' o2 h2 h3=>by
  grind
 exact {
  defers:=h.defers
  size:=h.size
  lim:=h.lim
  env:=fun i=>AVR.mono hS hcell hr hp _ _ (h.env i)
  below:=h.below.step hb (fun k h1 h2=>hblk k (bn h1 h.below.size) fun e=>by
   subst e
   rcases hB with h' | h'
   ·omega
   grind) fun k hk=>hbs k (bn hk h.below.size)
  st0:=fun b o hbo=>hS b o (h.st0 b o hbo)
  stOld:=fun b o hbo hlt' hno=>h.stOld b o (hSo b o hbo (bn hlt' h.below.size)) hlt' hno
  stIn:=hSi
  obs:=fun l' o2 b2 hl2 hlive2 hβ2=>by
   rcases hsp l' o2 hl2 with ⟨rfl,rfl⟩ | ⟨hne,h4⟩
   ·rw[hβ] at hβ2
    cases hβ2
    refine⟨hB,bn hlt hb.size,cs',hcs,by grind,fun k c hk=>?_⟩
    simp only[bT,Zh,bF] at hk
    obtain⟨y,hy,hc⟩:=hcl k c hk
    exact⟨y,hy,hc.toC.toB⟩
   ·obtain⟨q1,q2,cs2,g1,g2,g3⟩:=h.obs l' o2 b2 h4 hlive2 hβ2
    refine⟨q1,bn q2 hb.size,cs2,by grind,g2,fun k c hk=>?_⟩
    grind
  nil:=fun l' o2 hl2 hlive2 hβ2=>by
   rcases hsp l' o2 hl2 with ⟨rfl,rfl⟩ | ⟨hne,h4⟩
   ·grind
   ·exact h.nil l' o2 h4 hlive2 hβ2
  inj:=fun l1 l2 o1 o2 b' h1 h2 h3 h4 h5 h6=>by
   obtain⟨p1,q1,r1⟩:=hlv l1 o1 h1 h3
   obtain⟨p2,q2,r2⟩:=hlv l2 o2 h2 h4
   exact h.inj l1 l2 p1 p2 b' q1 q2 r1 r2 h5 h6
  sep:=fun l' o2 b' o hl2 hlive2 hβ2 hbo=>by
   rcases hsp l' o2 hl2 with ⟨rfl,rfl⟩ | ⟨hne,h4⟩
   ·grind
   ·exact h.sep l' o2 b' o h4 hlive2 hβ2 (hSo b' o hbo (h.obs l' o2 b' h4 hlive2 hβ2).2.1)
  own:=by
   refine h.own.move id (fun x hx=>?_) hS hcell (fun l' o2 b2 k c hl2 hlive2 hβ2 hk hcw=>?_) (fun _ _ _ _ _ _ _ _ e=>e)
   ·have hxb:x≠b:=fun e=>hx.2.2.2.2 l ob hl hlive (by rw[hβ,e])
    refine⟨⟨hx.1,fun h=>h,bn hx.2.2.1 hb.size,fun o ho=>hx.2.2.2.1 o (hSo x o ho hx.2.2.1),fun l' o2 hl' hlv'=>?_⟩,hblk x hx.2.2.1 hxb⟩
    obtain⟨o3,r1,r2⟩:=hlv l' o2 hl' hlv'
    exact hx.2.2.2.2 l' o3 r1 r2
   ·rcases hsp l' o2 hl2 with ⟨rfl,rfl⟩ | ⟨hne,h4⟩
    ·simp only[bT,Zh,bF] at hk
     obtain⟨y,_,hc⟩:=hcl k c hk
     rw[(hc.toC (st:=s.st) (β:=β)).notOw] at hcw
     cases hcw
    grind [cell_of_block] }
end Go.Vm
