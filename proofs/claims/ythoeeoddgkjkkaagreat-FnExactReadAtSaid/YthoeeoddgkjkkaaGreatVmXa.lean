/- The value machine, part Xa: loops whose head states are reached by any chain of changes; a nil slice taken as an object of its own. -/
import Derived.Test.YthoeeoddgkjkkaaGreatVmX
namespace Go.Vm
set_option linter.unusedSimpArgs false
set_option linter.unusedVariables false
variable {P:Program} {w0:Bs} {St0 St:Nat→Nat→Prop} {β:Nat→Option Nat} {s t r:MS} {a:Act} {w:World}
theorem Core.reTell (h:Core w0 St0 St β s a w) (env':List (Nat×AV)) (st':List Ob)
  (hr:∀ l u,Aw w s.st β l u→Aw w st' β l u) (hp:∀ l i off u,AVR w St s.st β (.lp l i off) u→AVR w St st' β (.lp l i off) u)
  (henv:∀ i u,AVR w St st' β (CB s.env i) u→AVR w St st' β (CB env' i) u)
  (hst:∀ (l:Nat) (o':Ob),st'[l]?=some o'→o'.live=true→∃ o:Ob,s.st[l]?=some o∧o.live=true∧o'.ty=o.ty∧o'.sz=o.sz∧o'.wr=o.wr∧o'.xs.length=o.xs.length∧((∀ x∈o.xs,x.length=o.sz)→∀ x∈o'.xs,x.length=o.sz) ∧
   ∀ (k:Nat) (c':Cl),o'.xs.flatten[k]?=some c'→∃ c,o.xs.flatten[k]?=some c∧(∀ u,RdB w St st' β c u→RdB w St st' β c' u)∧(Ei c'=true→c=c')) :
  Core w0 St0 St β ⟨s.n,env',st'⟩ a w:=by
 have hA:∀ x u,AVR w St s.st β x u→AVR w St st' β x u:=fun x u hx=>AVR.mono (fun _ _ h=>h) (fun _ _ _=>rfl) hr hp x u hx
 have hB:∀ c u,RdB w St s.st β c u→RdB w St st' β c u:=fun c u hc=>RdB.mono (fun _ _ h=>h) (fun _ _ _=>rfl) hr c u hc
 exact {
  defers:=h.defers
  size:=h.size
  env:=fun i=>henv i _ (hA _ _ (h.env i))
  below:=h.below
  st0:=h.st0
  stOld:=h.stOld
  stIn:=h.stIn
  obs:=fun l o' b hl hlv hb=>by
   obtain⟨o,q1,q2,q3,q4,q5,q6,q7,q8⟩:=hst l o' hl hlv
   obtain⟨p1,p2,cs,p3,p4,p5⟩:=h.obs l o b q1 q2 hb
   refine⟨p1,p2,cs,by rw[q3]; exact p3,by rw[q4]; exact q7 p4,fun k c' hk=>?_⟩
   obtain⟨c,r1,r2,r3⟩:=q8 k c' hk
   obtain⟨u,u1,u2⟩:=p5 k c r1
   exact⟨u,u1,r2 u (hB c u u2)⟩
  nil:=fun l o' hl hlv hb=>by
   obtain⟨o,q1,q2,q3,q4,q5,q6,q7,q8⟩:=hst l o' hl hlv
   have:=h.nil l o q1 q2 hb
   rw[this] at q6
   exact List.eq_nil_of_length_eq_zero q6
  inj:=fun l l' o1 o2 b h1 h2 g1 g2 hb hb'=>by
   obtain⟨p1,q1,q2,_⟩:=hst l o1 h1 g1
   obtain⟨p2,q3,q4,_⟩:=hst l' o2 h2 g2
   exact h.inj l l' p1 p2 b q1 q3 q2 q4 hb hb'
  sep:=fun l o' b o hl hlv hb hs=>by
   obtain⟨p,q1,q2,q3,q4,q5,q6,q7,q8⟩:=hst l o' hl hlv
   rw[q4,q5,q6]
   exact h.sep l p b o q1 q2 hb hs
  own:=h.own.move id (fun x hx=>⟨⟨hx.1,fun h=>h,hx.2.2.1,hx.2.2.2.1,fun l o' hl hlv=>by
    obtain⟨o,q1,q2,_⟩:=hst l o' hl hlv
    exact hx.2.2.2.2 l o q1 q2⟩,rfl⟩) (fun _ _ h=>h) (fun _ _ _=>rfl)
   (fun l o' b k c hl hlv hb hk hc=>by
    obtain⟨o,q1,q2,q3,q4,q5,q6,q7,q8⟩:=hst l o' hl hlv
    obtain⟨c0,r1,r2,r3⟩:=q8 k c hk
    have:=r3 hc
    subst this
    exact⟨o,b,q1,q2,hb,r1,rfl⟩) (fun _ _ _ _ _ _ _ _ e=>e) }
def AGR:Cl:=.v (.slice none 0 0)
theorem Core.nilOb (h:Core w0 St0 St β s a w) (e n:Nat):∃ β',Core w0 St0 St β' ⟨s.n,s.env,s.st ++ [⟨e,n,[],true,true⟩]⟩ a w∧∀ u,RdC w St (s.st ++ [⟨e,n,[],true,true⟩]) β' AGR u→RdC w St (s.st ++ [⟨e,n,[],true,true⟩]) β' (.ref s.st.length) u:=by
 obtain⟨a1,a2,a3⟩:=h.addOb ⟨e,n,[],true,true⟩ none (fun _=>rfl) (by simp) h.own (by simp)
 refine⟨_,a1,fun u hu=>?_⟩
 have hu':u = .slice none 0 0:=by
  exact(Jp (St:=St) (w:=w) (v:=(.slice none 0 0:Value)) (u:=u) (by simp only[AVR]; exact hu)).1
 subst hu'
 have:=Iw (w:=w) (St:=St) (β:=fun l=>if l=s.st.length then none else β l) (st:=s.st) (ob:=⟨e,n,[],true,true⟩) (b:=none) (u:=.slice none 0 0) rfl (by simp) fun _=>⟨rfl,rfl⟩
 simpa only[AVR] using this
theorem Head.trans (h1:Head s t) (h2:Head t r):Head s r:=⟨h2.1.trans h1.1,fun w0 St0 St β a w h=>by
 obtain⟨St',β',h'⟩:=h1.2 w0 St0 St β a w h
 exact h2.2 w0 St0 St' β' a w h'⟩
theorem Head.rel (sel:List (Nat×Bool)) (keys:List Nat) (h:Nh sel keys s) (e:Go.Vm.rel sel keys s=t):Head s t:=⟨by rw[← e]; rfl,fun w0 St0 St β a w hc=>⟨St,PO sel β,by rw[← e]; exact hc.rel h⟩⟩
theorem Head.abs (N l0:Nat) (keys:List Nat) (h:jX N l0 keys s t):Head s t:=by
 obtain⟨i,R,row,row',ob,⟨g1,g2,g3,g4,g5⟩,g6,⟨g7,g8⟩,g9⟩:=h
 exact⟨by rw[← g9],fun w0 St0 St β a w hc=>⟨St,β,by rw[← g9]; exact hc.absTrim g1 g2 g3 g4 g5 g6 g7 g8⟩⟩
theorem Head.nilR (l j e n:Nat) (ob:Ob) (row:List Cl) (hob:s.st[l]?=some ob) (hrow:ob.xs = [row]) (h:row[j]?=some (.v (.slice none 0 0))):Head s ⟨s.n,s.env,s.st.set l ⟨ob.ty,ob.sz,[row.set j (.ref s.st.length)],ob.wr,ob.live⟩ ++ [⟨e,n,[],true,true⟩]⟩:=⟨rfl,fun w0 St0 St β a w hc=>by
 obtain⟨β',h1,h2⟩:=hc.nilOb e n
 have hl:l<s.st.length:=(List.getElem?_eq_some_iff.1 hob).1
 have hg:∀ (l2:Nat) (o2:Ob),(s.st.set l ⟨ob.ty,ob.sz,[row.set j (.ref s.st.length)],ob.wr,ob.live⟩ ++ [⟨e,n,[],true,true⟩])[l2]?=some o2→(l2=l∧o2=⟨ob.ty,ob.sz,[row.set j (.ref s.st.length)],ob.wr,ob.live⟩)∨(l2≠l∧(s.st ++ [(⟨e,n,[],true,true⟩:Ob)])[l2]?=some o2):=by
  intro l2 o2 h2
  by_cases e1:l2=l
  ·subst e1
   rw[List.getElem?_append_left (by simpa using hl),List.getElem?_set] at h2
   simp[hl] at h2
   exact .inl ⟨rfl,h2.symm⟩
  ·refine .inr ⟨e1, ?_⟩
   rw[List.getElem?_append] at h2 ⊢
   simp only[List.length_set] at h2
   split at h2
   ·rename_i hlt
    rw[List.getElem?_set,if_neg (fun e2=>e1 e2.symm)] at h2
    rw[if_pos hlt]; exact h2
   ·rename_i hlt
    rw[if_neg hlt]; exact h2
 have hg2:∀ (l2:Nat) (o2:Ob),(s.st ++ [(⟨e,n,[],true,true⟩:Ob)])[l2]?=some o2→∃ o3,(s.st.set l ⟨ob.ty,ob.sz,[row.set j (.ref s.st.length)],ob.wr,ob.live⟩ ++ [⟨e,n,[],true,true⟩])[l2]?=some o3∧o3.live=o2.live∧o3.sz=o2.sz∧o3.ty=o2.ty∧o3.xs.length=o2.xs.length:=by
  intro l2 o2 h2
  by_cases e1:l2=l
  ·subst e1
   rw[List.getElem?_append_left hl,hob] at h2
   cases h2
   exact⟨⟨ob.ty,ob.sz,[row.set j (.ref s.st.length)],ob.wr,ob.live⟩,by rw[List.getElem?_append_left (by simpa using hl),List.getElem?_set]; simp only[if_true,hl],rfl,rfl,rfl,by simp[hrow]⟩
  ·refine⟨o2, ?_,rfl,rfl,rfl,rfl⟩
   rw[List.getElem?_append] at h2 ⊢
   simp only[List.length_set]
   split at h2
   ·rename_i hlt
    rw[if_pos hlt,List.getElem?_set,if_neg (fun e2=>e1 e2.symm)]; exact h2
   ·rename_i hlt
    rw[if_neg hlt]; exact h2
 have hr:∀ (l2:Nat) (u:Value),Aw w (s.st ++ [⟨e,n,[],true,true⟩]) β' l2 u→Aw w (s.st.set l ⟨ob.ty,ob.sz,[row.set j (.ref s.st.length)],ob.wr,ob.live⟩ ++ [⟨e,n,[],true,true⟩]) β' l2 u:=by
  intro l2 u hu
  unfold Aw at hu ⊢
  cases hq:(s.st ++ [(⟨e,n,[],true,true⟩:Ob)])[l2]? with
  | none=>simp[hq] at hu
  | some o2 =>
   obtain⟨o3,p1,p2,p3,p4,p5⟩:=hg2 l2 o2 hq
   simp only[hq] at hu
   simp only[p1]
   refine⟨hu.1,fun hlv=>?_⟩
   have h3:=hu.2 (by rw[← p2]; exact hlv)
   cases hβ:β' l2 with
   | none=>simp only[hβ] at h3 ⊢; exact⟨h3.1,List.eq_nil_of_length_eq_zero (by rw[p5,h3.2]; rfl)⟩
   | some b=>simp only[hβ] at h3 ⊢; simpa only[p3,p4,p5] using h3
 refine⟨St,β',h1.reTell _ _ hr (fun l2 i off u hu=>?_) (fun i u hu=>hu) (fun l2 o' hl2 hlv=>?_)⟩
 ·simp only[AVR] at hu ⊢
  cases hq:(s.st ++ [(⟨e,n,[],true,true⟩:Ob)])[l2]? with
  | none=>simp[hq] at hu
  | some o2 =>
   obtain⟨o3,p1,p2,p3,_⟩:=hg2 l2 o2 hq
   simp only[hq] at hu
   simp only[p1,p2,p3]
   exact hu
 ·rcases hg l2 o' hl2 with ⟨rfl,rfl⟩ | ⟨_,h3⟩
  ·refine⟨ob,by rw[List.getElem?_append_left hl]; exact hob,hlv,rfl,rfl,rfl,by simp[hrow],fun hx x hx2=>?_,fun k c' hk=>?_⟩
   ·simp only[List.mem_singleton] at hx2
    subst hx2
    rw[List.length_set]
    exact hx row (by simp[hrow])
   ·simp only[List.flatten_cons,List.flatten_nil,List.append_nil] at hk
    rw[hrow]
    simp only[List.flatten_cons,List.flatten_nil,List.append_nil]
    rw[List.getElem?_set] at hk
    by_cases e1:j=k
    ·subst e1
     have hj:j<row.length:=(List.getElem?_eq_some_iff.1 h).1
     simp only[if_true,hj,Option.some.injEq] at hk
     subst hk
     exact⟨_,h,fun u hu=>hr _ u (h2 u hu),fun hc=>by simp[Ei] at hc⟩
    ·rw[if_neg e1] at hk
     exact⟨c',hk,fun _ h=>h,fun _=>rfl⟩
  ·exact⟨o',h3,hlv,rfl,rfl,rfl,rfl,fun h=>h,fun k c hk=>⟨c,hk,fun _ h=>h,fun _=>rfl⟩⟩⟩
theorem LoopG.mk {s:MS} {body:MS→(MS→Prop)→Prop} {A:Type} (f:A→MS) (p:A→Prop) (μ:A→Nat) (x0:A) (h0:Head s (f x0)) (hp:p x0)
  (h:∀ x,p x→body (f x) fun s'=>∃ y,True∧Head s' (f y)∧p y∧μ y<μ x):LoopK s body:=
 ⟨fun _=>True,fun s t=>Head s t,A,f,p,μ,fun s t _ h=>h,⟨x0,trivial,h0,hp⟩,h⟩
def hasK (k:Nat):List Nat→Bool
 | []=>false
 | x::xs=>if x=k then true else hasK k xs
def ADX:Bool→Nat→List Nat→List Nat
 | true,_,l=>l
 | false,k,l=>k::l
def keysOf:List Nat→List (Nat×AV)→List Nat
 | _,[]=>[]
 | seen,(k,_)::r=>ADX (hasK k seen) k (keysOf (k::seen) r)
def wU:List Nat→List (Nat×AV)→List (Nat×AV)
 | [],_=>[]
 | k::ks,e=>(k,CB e k)::wU ks e
def PR (dr:List Nat) (up:List (Nat×AV)) (s:MS) (st:List Ob):MS:=⟨s.n,wU (keysOf dr s.env) (up++s.env),st⟩
attribute [go_sem] hasK ADX keysOf wU PR
theorem LoopU.mk {s:MS} {body:MS→(MS→Prop)→Prop} (N:Nat) {A:Type} (up:A→List (Nat×AV)) (stf:A→List Ob) (p:A→Prop) (μ:A→Nat) (x0:A)
  (h0:KI N (keysOf [] s.env) s∧trim N (keysOf [] s.env) s=PR [] (up x0) s (stf x0)∧p x0)
  (h:∀ x,p x→body (PR [] (up x) s (stf x)) fun s'=>∃ y,KI N (keysOf [] s.env) s'∧trim N (keysOf [] s.env) s'=PR [] (up y) s (stf y)∧p y∧μ y<μ x):LoopK s body:=
 LoopK.mk N (keysOf [] s.env) (fun x=>PR [] (up x) s (stf x)) p μ x0 h0 h
theorem LoopH.mk {s:MS} {body:MS→(MS→Prop)→Prop} (dr:List Nat) {A:Type} (up:A→List (Nat×AV)) (stf:A→List Ob) (p:A→Prop) (μ:A→Nat) (x0:A)
  (h0:Head s (PR dr (up x0) s (stf x0))) (hp:p x0)
  (h:∀ x,p x→body (PR dr (up x) s (stf x)) fun s'=>∃ y,True∧Head s' (PR dr (up y) s (stf y))∧p y∧μ y<μ x):LoopK s body:=
 LoopG.mk (fun x=>PR dr (up x) s (stf x)) p μ x0 h0 hp h
theorem Head.sel (sel:List (Nat×Bool)) {n:Nat} {env:List (Nat×AV)} {st:List Ob} (h:Nh sel (env.map Prod.fst) s) (e:Go.Vm.rel sel (env.map Prod.fst) s=⟨n,env,st⟩):Head s ⟨n,env,st⟩:=Head.rel sel _ h e
theorem Head.selAbs (sel:List (Nat×Bool)) (N l0:Nat) {n:Nat} {env:List (Nat×AV)} {st:List Ob} (h:Nh sel (env.map Prod.fst) s) (h2:jX N l0 (env.map Prod.fst) (Go.Vm.rel sel (env.map Prod.fst) s) ⟨n,env,st⟩):Head s ⟨n,env,st⟩:=Head.trans (Head.rel sel _ h rfl) (Head.abs N l0 _ h2)
theorem Ee {sel:List (Nat×Bool)} {xs:List (List Cl)} (h:CY xs=true):xs.map (fun x=>x.map (NQ sel))=xs:=by
 conv=>rhs; rw[← List.map_id xs]
 exact List.map_congr_left fun x hx=>ry (List.all_eq_true.1 h x hx)
theorem Ad {N ty sz:Nat} {R:List (List Cl)} {wr live:Bool} (h:CY R=true):Bh N ⟨ty,sz,R,wr,live⟩=true:=by
 simp only[Bh,Bool.or_eq_true]
 refine .inr (List.all_eq_true.2 fun x hx=>List.all_eq_true.2 fun c hc=>?_)
 have:=List.all_eq_true.1 (List.all_eq_true.1 h x hx) c hc
 cases c<;>simp_all [Jq,EW]
theorem all2 {N:Nat} {a b:Ob} (ha:Bh N a=true) (hb:Bh N b=true) : [a,b].all (Bh N)=true:=by simp[ha,hb]
theorem Ef {sel:List (Nat×Bool)} {xs:List (List Cl)} (h:CY xs=true):(xs.all fun x=>x.all (fQ sel))=true:=List.all_eq_true.2 fun x hx=>r_ (List.all_eq_true.1 h x hx)
theorem PS (a:Value) (l:Nat):CY [[.v a,.ref l]]=false:=rfl
end Go.Vm
