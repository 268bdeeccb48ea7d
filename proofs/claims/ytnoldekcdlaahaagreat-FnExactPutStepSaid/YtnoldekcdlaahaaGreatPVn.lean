/- A part. -/
import Derived.Test.YtnoldekcdlaahaaGreatPVmX
import Derived.Deep.RegionLaw
set_option linter.unusedSimpArgs false
set_option linter.unusedVariables false
set_option maxHeartbeats 4000000
set_option maxRecDepth 100000
namespace Go.Vm
variable {P:Program} {w0:Bs} {St0 St:Nat→Nat→Prop} {β:Nat→Option Nat} {s t r:MS} {a:Act} {w:World}
theorem Core.reTell (h:Core w0 St0 St β s a w) (env':List (Nat×AV)) (st':List Ob)
  (hr:∀ l u,BM w s.st β l u→BM w st' β l u) (hp:∀ l i off u,AVR w St s.st β (.lp l i off) u→AVR w St st' β (.lp l i off) u)
  (henv:∀ i u,AVR w St st' β (Bi s.env i) u→AVR w St st' β (Bi env' i) u)
  (hst:∀ (l:Nat) (o':Ob),st'[l]?=some o'→o'.live=true→∃ o:Ob,s.st[l]?=some o∧o.live=true∧o'.ty=o.ty∧o'.sz=o.sz∧o'.wr=o.wr∧o'.xs.length=o.xs.length∧((∀ x∈o.xs,x.length=o.sz)→∀ x∈o'.xs,x.length=o.sz) ∧
   ∀ (k:Nat) (c':Cl),o'.xs.flatten[k]?=some c'→∃ c,o.xs.flatten[k]?=some c∧(∀ u,RdB w St st' β c u→RdB w St st' β c' u)∧(Gm c'=true→c=c')) :
  Core w0 St0 St β ⟨s.n,env',st'⟩ a w:=by
 have hA:∀ x u,AVR w St s.st β x u→AVR w St st' β x u:=fun x u hx=>AVR.mono (fun _ _ h=>h) (fun _ _ _=>rfl) hr hp x u hx
 have hB:∀ c u,RdB w St s.st β c u→RdB w St st' β c u:=fun c u hc=>RdB.mono (fun _ _ h=>h) (fun _ _ _=>rfl) hr c u hc
 exact {
  defers:=h.defers
  size:=h.size
  lim:=h.lim
  env:=fun i=>henv i _ (hA _ _ (h.env i))
  below:=h.below
  st0:=h.st0
  stOld:=h.stOld
  stIn:=h.stIn
  obs:=fun l o' b hl hlv hb=>by
   obtain⟨o,q1,q2,q3,q4,q5,q6,q7,q8⟩:=hst l o' hl hlv
   obtain⟨p1,p2,cs,p3,p4,p5⟩:=h.obs l o b q1 q2 hb
   refine⟨p1,p2,cs,AOT,AOT,fun k c' hk=>?_⟩
   grind
  nil:=fun l o' hl hlv hb=>by
   obtain⟨o,q1,q2,q3,q4,q5,q6,q7,q8⟩:=hst l o' hl hlv
   have:=h.nil l o q1 q2 hb
   grind
  inj:=fun l l' o1 o2 b h1 h2 g1 g2 hb hb'=>by
   obtain⟨p1,q1,q2,_⟩:=hst l o1 h1 g1
   obtain⟨p2,q3,q4,_⟩:=hst l' o2 h2 g2
   exact h.inj l l' p1 p2 b q1 q3 q2 q4 hb hb'
  sep:=fun l o' b o hl hlv hb hs=>by
   obtain⟨p,q1,q2,q3,q4,q5,q6,q7,q8⟩:=hst l o' hl hlv
   rw[q4,q5,q6]
   exact h.sep l p b o q1 q2 hb hs
  own:=h.own.move id (fun x hx=>⟨⟨hx.1,fun h=>h,hx.2.2.1,hx.2.2.2.1,fun l o' hl hlv=>by
    obtain⟨o,q1,q2,_⟩:=hst l o' hl hlv
    exact hx.2.2.2.2 l o q1 q2⟩,rfl⟩) (fun _ _ h=>h) (fun _ _ _=>rfl)
   (fun l o' b k c hl hlv hb hk hc=>by
    grind) (fun _ _ _ _ _ _ _ _ e=>e) }
def AKu:Cl:=.v (.slice none 0 0)
theorem Core.nilOb (h:Core w0 St0 St β s a w) (e n:Nat):∃ β',Core w0 St0 St β' ⟨s.n,s.env,s.st ++ [⟨e,n,[],true,true⟩]⟩ a w∧∀ u,RdC w St (s.st ++ [⟨e,n,[],true,true⟩]) β' AKu u→RdC w St (s.st ++ [⟨e,n,[],true,true⟩]) β' (.ref s.st.length) u:=by
 obtain⟨a1,a2,a3⟩:=h.addOb ⟨e,n,[],true,true⟩ none (fun _=>rfl) AOR h.own AOR
 refine⟨_,a1,fun u hu=>?_⟩
 have hu':u = .slice none 0 0:=by
  exact(OO (St:=St) (w:=w) (v:=(.slice none 0 0:Value)) (u:=u) (by simp only[AVR]; exact hu)).1
 subst hu'
 have:=NL (w:=w) (St:=St) (β:=fun l=>if l=s.st.length then none else β l) (st:=s.st) (ob:=⟨e,n,[],true,true⟩) (b:=none) (u:=.slice none 0 0) rfl AOR fun _=>⟨rfl,rfl⟩
 simpa only[AVR] using this
theorem Head.trans (h1:Head s t) (h2:Head t r):Head s r:=⟨h2.1.trans h1.1,fun w0 St0 St β a w h=>by
 obtain⟨St',β',h'⟩:=h1.2 w0 St0 St β a w h
 exact h2.2 w0 St0 St' β' a w h'⟩
theorem Head.rel (sel:List (Nat×Bool)) (keys:List Nat) (h:Qo sel keys s) (e:Go.Vm.rel sel keys s=t):Head s t:=⟨by rw[← e]; rfl,fun w0 St0 St β a w hc=>⟨St,VO sel β,by rw[← e]; exact hc.rel h⟩⟩
theorem Head.abs (N l0:Nat) (keys:List Nat) (h:ABh N l0 keys s t):Head s t:=by
 obtain⟨i,R,row,row',ob,⟨g1,g2,g3,g4,g5⟩,g6,⟨g7,g8⟩,g9⟩:=h
 exact⟨by rw[← g9],fun w0 St0 St β a w hc=>⟨St,β,by rw[← g9]; exact hc.absTrim g1 g2 g3 g4 g5 g6 g7 g8⟩⟩
theorem Head.nilR (l j e n:Nat) (ob:Ob) (row:List Cl) (hob:s.st[l]?=some ob) (hrow:ob.xs = [row]) (h:row[j]?=some (.v (.slice none 0 0))):Head s ⟨s.n,s.env,s.st.set l ⟨ob.ty,ob.sz,[row.set j (.ref s.st.length)],ob.wr,ob.live⟩ ++ [⟨e,n,[],true,true⟩]⟩:=⟨rfl,fun w0 St0 St β a w hc=>by
 obtain⟨β',h1,h2⟩:=hc.nilOb e n
 have hl:l<s.st.length:=(aF.1 hob).1
 have hg:∀ (l2:Nat) (o2:Ob),(s.st.set l ⟨ob.ty,ob.sz,[row.set j (.ref s.st.length)],ob.wr,ob.live⟩ ++ [⟨e,n,[],true,true⟩])[l2]?=some o2→(l2=l∧o2=⟨ob.ty,ob.sz,[row.set j (.ref s.st.length)],ob.wr,ob.live⟩)∨(l2≠l∧(s.st ++ [(⟨e,n,[],true,true⟩:Ob)])[l2]?=some o2):=by
  intro l2 o2 h2
  by_cases e1:l2=l
  ·grind
  ·grind
 have hg2:∀ (l2:Nat) (o2:Ob),(s.st ++ [(⟨e,n,[],true,true⟩:Ob)])[l2]?=some o2→∃ o3,(s.st.set l ⟨ob.ty,ob.sz,[row.set j (.ref s.st.length)],ob.wr,ob.live⟩ ++ [⟨e,n,[],true,true⟩])[l2]?=some o3∧o3.live=o2.live∧o3.sz=o2.sz∧o3.ty=o2.ty∧o3.xs.length=o2.xs.length:=by
  intro l2 o2 h2
  by_cases e1:l2=l
  ·grind
  ·grind
 have hr:∀ (l2:Nat) (u:Value),BM w (s.st ++ [⟨e,n,[],true,true⟩]) β' l2 u→BM w (s.st.set l ⟨ob.ty,ob.sz,[row.set j (.ref s.st.length)],ob.wr,ob.live⟩ ++ [⟨e,n,[],true,true⟩]) β' l2 u:=by
  intro l2 u hu
  unfold BM at hu ⊢
  cases hq:(s.st ++ [(⟨e,n,[],true,true⟩:Ob)])[l2]? with
  | none=>grind
  | some o2 =>
   grind
 refine⟨St,β',h1.reTell _ _ hr (fun l2 i off u hu=>?_) (fun i u hu=>hu) (fun l2 o' hl2 hlv=>?_)⟩
 ·simp only[AVR] at hu ⊢
  grind
 ·rcases hg l2 o' hl2 with ⟨rfl,rfl⟩ | ⟨_,h3⟩
  ·refine⟨ob,AOT,hlv,rfl,rfl,rfl,by simp[hrow],fun hx x hx2=>?_,fun k c' hk=>?_⟩
   ·grind
   ·simp only[df,aaH,bQ] at hk
    rw[hrow]
    simp only[df,aaH,bQ]
    rw[wE] at hk
    by_cases e1:j=k
    ·subst e1
     have hj:j<row.length:=(aF.1 h).1
     exact AM7
    grind
  grind⟩
theorem LoopG.mk {s:MS} {body:MS→(MS→Prop)→Prop} {A:Type} (f:A→MS) (p:A→Prop) (μ:A→Nat) (x0:A) (h0:Head s (f x0)) (hp:p x0)
  (h:∀ x,p x→body (f x) fun s'=>∃ y,True∧Head s' (f y)∧p y∧μ y<μ x):LoopK s body:=
 ⟨fun _=>True,fun s t=>Head s t,A,f,p,μ,fun s t _ h=>h,⟨x0,trivial,h0,hp⟩,h⟩
def hasK (k:Nat):List Nat→Bool
 | []=>false
 | x::xs=>if x=k then true else hasK k xs
def AJi:Bool→Nat→List Nat→List Nat
 | true,_,l=>l
 | false,k,l=>k::l
def keysOf:List Nat→List (Nat×AV)→List Nat
 | _,[]=>[]
 | seen,(k,_)::r=>AJi (hasK k seen) k (keysOf (k::seen) r)
def AHY:List Nat→List (Nat×AV)→List (Nat×AV)
 | [],_=>[]
 | k::ks,e=>(k,Bi e k)::AHY ks e
def VV (dr:List Nat) (up:List (Nat×AV)) (s:MS) (st:List Ob):MS:=⟨s.n,AHY (keysOf dr s.env) (up++s.env),st⟩
attribute [go_sem] hasK AJi keysOf AHY VV
theorem ABK {s:MS} {body:MS→(MS→Prop)→Prop} (N:Nat) {A:Type} (up:A→List (Nat×AV)) (stf:A→List Ob) (p:A→Prop) (μ:A→Nat) (x0:A)
  (h0:Pe N (keysOf [] s.env) s∧trim N (keysOf [] s.env) s=VV [] (up x0) s (stf x0)∧p x0)
  (h:∀ x,p x→body (VV [] (up x) s (stf x)) fun s'=>∃ y,Pe N (keysOf [] s.env) s'∧trim N (keysOf [] s.env) s'=VV [] (up y) s (stf y)∧p y∧μ y<μ x):LoopK s body:=
 ABf N (keysOf [] s.env) (fun x=>VV [] (up x) s (stf x)) p μ x0 h0 h
theorem ABZ {s:MS} {body:MS→(MS→Prop)→Prop} (dr:List Nat) {A:Type} (up:A→List (Nat×AV)) (stf:A→List Ob) (p:A→Prop) (μ:A→Nat) (x0:A)
  (h0:Head s (VV dr (up x0) s (stf x0))) (hp:p x0)
  (h:∀ x,p x→body (VV dr (up x) s (stf x)) fun s'=>∃ y,True∧Head s' (VV dr (up y) s (stf y))∧p y∧μ y<μ x):LoopK s body:=
 LoopG.mk (fun x=>VV dr (up x) s (stf x)) p μ x0 h0 hp h
theorem ABJ (sel:List (Nat×Bool)) {n:Nat} {env:List (Nat×AV)} {st:List Ob} (h:Qo sel (env.map Prod.fst) s) (e:Go.Vm.rel sel (env.map Prod.fst) s=⟨n,env,st⟩):Head s ⟨n,env,st⟩:=Head.rel sel _ h e
theorem ACJ (sel:List (Nat×Bool)) (N l0:Nat) {n:Nat} {env:List (Nat×AV)} {st:List Ob} (h:Qo sel (env.map Prod.fst) s) (h2:ABh N l0 (env.map Prod.fst) (Go.Vm.rel sel (env.map Prod.fst) s) ⟨n,env,st⟩):Head s ⟨n,env,st⟩:=Head.trans (Head.rel sel _ h rfl) (Head.abs N l0 _ h2)
theorem Dx {sel:List (Nat×Bool)} {xs:List (List Cl)} (h:BJ xs=true):xs.map (fun x=>x.map (QP sel))=xs:=by
 conv=>rhs; rw[← List.map_id xs]
 exact aaK fun x hx=>AGX (aJ.1 h x hx)
theorem AU {N ty sz:Nat} {R:List (List Cl)} {wr live:Bool} (h:BJ R=true):Aw N ⟨ty,sz,R,wr,live⟩=true:=by
 simp only[Aw,r_]
 refine .inr (aJ.2 fun x hx=>aJ.2 fun c hc=>?_)
 have:=aJ.1 (aJ.1 h x hx) c hc
 cases c<;>simp_all [D6,I7]
theorem all2 {N:Nat} {a b:Ob} (ha:Aw N a=true) (hb:Aw N b=true) : [a,b].all (Aw N)=true:=by simp[ha,hb]
theorem EY {sel:List (Nat×Bool)} {xs:List (List Cl)} (h:BJ xs=true):(xs.all fun x=>x.all (zq sel))=true:=aJ.2 fun x hx=>AGY (aJ.1 h x hx)
theorem N_ (a:Value) (l:Nat):BJ [[.v a,.ref l]]=false:=rfl
end Go.Vm
namespace Go.Vm
open Go.RowKit
variable {P:Program} {w0:Bs} {St0 St:Nat→Nat→Prop} {β:Nat→Option Nat} {s:MS} {a:Act} {w:World}
theorem Head.close (l0 i:Nat) (used:List Nat) {ob:Ob} {row row':List Cl} (hob:Cf s.st l0=some ob) (hrw:ob.xs[i]?=some row) (hwr:ob.wr=true) (hl0:l0∉used)
  (ho:OwnL s.st row row' [l0] fun us=>∀ l∈us,l=l0∨l∈used):Head s ⟨s.n,s.env,AQ used l0 i row' ob s.st⟩:=⟨rfl,fun w0 St0 St β a w h=>⟨_,_,h.closeRow hob hrw hwr hl0 ho⟩⟩
theorem AC3 {P:Program} {s:MS} {f:FuncId} {args:List AV} {dst:Option Nat} {K:MS→Prop} {A B C:Prop} (y:AV) (st':List Ob) (h:InlS P f s.st args y st') (hk:K (MS.put ⟨s.n,s.env,st'⟩ dst y)):NM A (NM B (NM C (InlK P f s args dst K))):=
 .inr (.inr (.inr ⟨h.1,fun w0 St0 St β a w us h1 h2=>(h.2 w0 St0 St β s a w us rfl h1 h2).mono fun e w' ⟨u,e1,St',β',q1,q2⟩=>⟨u,e1,⟨s.n,s.env,st'⟩,y,rfl,hk,St',β',q1,q2⟩⟩))
theorem EndH.self {P:Program} {s:MS} {vars:List ResultVar} {rs:List Res} (hp:Post P vars rs s):EndH P vars rs .ret s:=⟨s,⟨rfl,fun _ _ _ _ _ _ h=>⟨_,_,h⟩⟩,hp⟩
theorem EndH.close {P:Program} {s:MS} {vars:List ResultVar} {rs:List Res} (l0 i:Nat) (used:List Nat) {ob:Ob} {row row':List Cl} (hob:Cf s.st l0=some ob) (hrw:ob.xs[i]?=some row) (hwr:ob.wr=true) (hl0:l0∉used)
  (ho:OwnL s.st row row' [l0] fun us=>∀ l∈us,l=l0∨l∈used) (hk:EndH P vars rs .ret ⟨s.n,s.env,AQ used l0 i row' ob s.st⟩):EndH P vars rs .ret s:=by
 obtain⟨t,h1,h2⟩:=hk
 exact⟨t,(Head.close l0 i used hob hrw hwr hl0 ho).trans h1,h2⟩
attribute [go_sem] Xv
end Go.Vm
namespace Go.Proofs.YtnoldekcdlaahaaGreat
open Go.Vm Go.RowKit
theorem SN {n:Nat}:∀ (L:List (List Cl)) (m:Nat),(∀ x∈L,x.length=n)→(L.take m).flatten=L.flatten.take (m*n)∧(L.drop m).flatten=L.flatten.drop (m*n)
 | [],m,_=>AOR
 | x::L,0,_=>AOR
 | x::L,m+1,h=>by
  obtain⟨h1,h2⟩:=SN L m fun y hy=>h y (abg _ hy)
  have hx:x.length=n:=h x (List.mem_cons_self ..)
  have e:(m+1)*n=x.length+m*n:=by rw[hx,Zm,Nat.one_mul,Nat.add_comm]
  simp only[aa9,List.drop_succ_cons,df,h1,h2,e,List.take_length_add_append,List.drop_length_add_append]
  exact⟨trivial,trivial⟩
end Go.Proofs.YtnoldekcdlaahaaGreat
namespace Go.Vm
open Go.RowKit
variable {P:Program} {w0:Bs} {St0 St:Nat→Nat→Prop} {β:Nat→Option Nat} {s:MS} {a:Act} {w:World} {st:List Ob}
def UF (st:List Ob) (c d:Cl):Prop:=(∃ l ob,c = .ref l∧Cf st l=some ob∧BJ ob.xs=true∧d = .sl (QG ob.xs))∨(D6 c=true∧d=er c)
def BorR (st:List Ob):List Cl→List Cl→Prop
 | [],[]=>True
 | c::cs,d::ds=>UF st c d∧BorR st cs ds
 | _,_=>False
def BorX (st:List Ob) (c d:Cl):Prop:=YT st c=some d∨∃ l ob ys,c = .ref l∧Cf st l=some ob∧d = .sl ys∧ys.length=ob.xs.length∧∀ (i:Nat) x y,ob.xs[i]?=some x→ys[i]?=some y→BorR st x y
def BorL (st:List Ob):List Cl→List Cl→Prop
 | [],[]=>True
 | c::cs,d::ds=>BorX st c d∧BorL st cs ds
 | _,_=>False
def AJj (st:List Ob):AV→AV→Prop
 | .c c,.c d=>BorX st c d
 | .agg cs,.agg ds=>BorL st cs ds
 | _,_=>False
def AAH (st:List Ob):List AV→List AV→Prop
 | [],[]=>True
 | x::xs,y::ys=>AJj st x y∧AAH st xs ys
 | _,_=>False
theorem BorR.at:∀ {cs ds:List Cl},BorR st cs ds→cs.length=ds.length∧∀ (k:Nat) (d:Cl),ds[k]?=some d→∃ c,cs[k]?=some c∧UF st c d
 | [],[],_=>⟨rfl,fun k d h=>AOx⟩
 | c::cs,d::ds,h=>by
  obtain⟨q1,q2⟩:=BorR.at h.2
  exact AL4
 | [],_::_,h=>h.elim
 | _::_,[],h=>h.elim
theorem BorL.at:∀ {cs ds:List Cl},BorL st cs ds→cs.length=ds.length∧∀ (k:Nat) (d:Cl),ds[k]?=some d→∃ c,cs[k]?=some c∧BorX st c d
 | [],[],_=>⟨rfl,fun k d h=>AOx⟩
 | c::cs,d::ds,h=>by
  obtain⟨q1,q2⟩:=BorL.at h.2
  exact AL4
 | [],_::_,h=>h.elim
 | _::_,[],h=>h.elim
section
variable {φ:Nat→Nat→Nat→Prop}
theorem AAI (h:Core w0 St0 St β s a w) (hφ:VF w0 w St s.st β φ) {c d:Cl} (hc:BorX s.st c d) {u:Value} (hu:RdC w St s.st β c u):RdD w (AllSt w St s.st β φ) d u:=by
 rcases hc with hc | ⟨l,ob,ys,rfl,hob,rfl,hlen,hrows⟩
 ·exact Yn h hφ hc hu
 obtain⟨hl,hlive⟩:=Bo hob
 have hu:BM w s.st β l u:=by simpa only[RdC] using hu
 simp only[BM,hl] at hu
 have hx2:=hu.2 hlive
 simp only[RdD]
 cases hβ:β l with
 | none =>
  simp only[hβ] at hx2
  obtain⟨rfl,hn⟩:=hx2
  have:ys = []:=aam (by rw[hlen,hn]; rfl)
  subst this
  exact⟨none,0,rfl,aT _,aA _,⟨0,AOR⟩,.inl rfl⟩
 | some b =>
  simp only[hβ] at hx2
  obtain⟨cap,cs,e1,e2,e3,e4,e5⟩:=hx2
  obtain⟨_,_,cs',g1,g2,g3⟩:=h.obs l ob b hl hlive hβ
  rw[e4] at g1
  simp only[ak,Obj.cells.injEq,xU] at g1
  subst g1
  have hrow:∀ (i:Nat) y,ys[i]?=some y→∃ x,ob.xs[i]?=some x∧x.length=ob.sz∧BorR s.st x y:=fun i y hy=>by
   have hi:i<ob.xs.length:=by rw[← hlen]; exact(aF.1 hy).1
   exact⟨ob.xs[i],au hi,g2 _ (ax hi),hrows i _ _ (au hi) hy⟩
  have hw:∀ y∈ys,y.length=ob.sz:=fun y hy=>by
   obtain⟨i,hi⟩:=List.getElem?_of_mem hy
   obtain⟨x,_,h2,h3⟩:=hrow i y hi
   rw[← h3.at.1,h2]
  refine⟨some ⟨b,0,none⟩,cap,by rw[e1,hlen],by rw[hlen]; exact e2,e3,⟨ob.sz,hw⟩,.inr ⟨b,0,rfl,AEK ob.sz hw fun i y hi=>AEM fun j d hj=>?_⟩⟩
  obtain⟨x,hx,hxl,hb⟩:=hrow i y hi
  obtain⟨c,hc,hcd⟩:=hb.at.2 j d hj
  have hk:=Fh g2 i j x c hx hc
  obtain⟨v,hv,hr⟩:=g3 _ c hk
  refine⟨.inr ⟨l,ob,hl,hlive,.inl hβ⟩,v,by simp only[World.cell?,e4,sF]; exact hv, ?_⟩
  rcases hcd with ⟨l2,ob2,rfl,hob2,hnr,rfl⟩ | ⟨hnr,rfl⟩
  ·have hr2:BM w s.st β l2 v:=by simpa only[RdB,RdC] using hr
   have:=RdO.frz _ _ _ (xg h hφ hob2 hnr hr2)
   simp only[er] at this
   exact RdD.mono (fun b o hbo=>by
    rcases hbo with hbo | hbo
    ·exact .inl hbo
    ·exact .inr ⟨l2,hbo⟩) (fun _ _ _=>rfl) _ _ this
  ·cases ho:Gm c with
   | true =>
    obtain⟨u2,hu2,hro⟩:=hφ.1 l ob b _ c hl hlive hβ hk ho
    have e:u2=v:=by
     simp only[World.cell?,e4,abx,aB,aX] at hu2
     rw[hv] at hu2
     exact(ry hu2).symm
    subst e
    exact RdD.mono (fun b o hbo=>by
     rcases hbo with hbo | hbo
     ·exact .inl hbo
     ·exact .inr ⟨l,ob,hl,hlive,.inr ⟨_,hbo⟩⟩) (fun _ _ _=>rfl) _ _ (RdO.frz _ _ _ hro)
   | false =>
    have hrc:=hr.toC ho
    cases c with
    | ref l=>simp[D6] at hnr
    | v x=>simp only[er]; exact RdD.mono (fun _ _ h=>.inl h) (fun _ _ _=>rfl) _ _ (by simpa only[RdC] using hrc)
    | sl x=>simp only[er]; exact RdD.mono (fun _ _ h=>.inl h) (fun _ _ _=>rfl) _ _ (by simpa only[RdC] using hrc)
    | ow ty sz x=>simp[Gm] at ho
theorem dE (h:Core w0 St0 St β s a w) (hφ:VF w0 w St s.st β φ):∀ {xs ys:List AV},AAH s.st xs ys→∀ {us:List Value},AVRs w St s.st β xs us→RdAs w (AllSt w St s.st β φ) ys us
 | [],[],_,us,hu=>by
  simp only[AVRs] at hu
  exact hu
 | x::xs,y::ys,hx,us,hu=>by
  simp only[AVRs] at hu
  obtain⟨v,vs,e,g1,g2⟩:=hu
  refine⟨v,vs,e, ?_,dE h hφ hx.2 g2⟩
  have hx:=hx.1
  cases x<;>cases y<;>simp only[AJj] at hx
  ·simp only[AVR] at g1
   exact AAI h hφ hx g1
  ·simp only[AVR] at g1
   obtain⟨us,e1,e2,e3⟩:=g1
   obtain⟨q1,q2⟩:=hx.at
   refine⟨us,e1,by rw[← q1,e2],fun k d hk=>?_⟩
   obtain⟨c,hc,hcd⟩:=q2 k d hk
   obtain⟨y,hy,hr⟩:=e3 k c hc
   exact⟨y,hy,AAI h hφ hcd hr⟩
 | [],_::_,h,_,_=>h.elim
 | _::_,[],h,_,_=>h.elim
end
theorem InlK.bor {f:FuncId} {args:List AV} {dst:Option Nat} {K:MS→Prop} {A B C:Prop} {args':List AV} (rs:List Res) (hx:AAH s.st args args') (hc:rs.all Gn=true) (h:Ctr P f args' rs) (hk:YS rs→ABX s dst K s.st rs) :
  NM A (NM B (NM C (InlK P f s args dst K))):=.inr (.inr (.inr ⟨h.1,fun w0 St0 St β a w us h1 h2=>by
 obtain⟨φ,hφ⟩:=h1.own
 refine(h.2 w _ us (fun b o hb=>AllSt.lt h1 hφ hb) (dE h1 hφ hx h2)).mono fun e w' hb=>?_
 obtain⟨vs,bs,St2,hb⟩:=hb
 have hb:=hb.clo hc h1.stIn
 obtain⟨β',k1,k2⟩:=Qw h1 hb
 have hwf:YS rs:=by
  obtain⟨Φs,hr,_⟩:=hb.res
  exact hr.wf
 have e1:=hb.ret
 exact⟨_,e1,⟨s.n,s.env,(Ir s.st rs).2⟩,retA (Ir s.st rs).1,rfl,hk hwf,St,β',k1,Ky k2⟩⟩))
theorem InlS.bor {f:FuncId} {args args':List AV} (rs:List Res) (hx:AAH st args args') (hc:rs.all Gn=true) (h:Ctr P f args' rs):InlS P f st args (retA (Ir st rs).1) (Ir st rs).2:=⟨h.1,fun w0 St0 St β s a w us hst h1 h2=>by
 subst hst
 obtain⟨φ,hφ⟩:=h1.own
 refine(h.2 w _ us (fun b o hb=>AllSt.lt h1 hφ hb) (dE h1 hφ hx h2)).mono fun e w' hb=>?_
 obtain⟨vs,bs,St2,hb⟩:=hb
 have hb:=hb.clo hc h1.stIn
 obtain⟨β',k1,k2⟩:=Qw h1 hb
 exact⟨_,hb.ret,St,β',k1,Ky k2⟩⟩
theorem BorX.set {α:Type} {f g:α→List Cl} {xs:List α} {n l ty sz:Nat} {row:List Cl} {wr live:Bool} (hob:Cf st l=some ⟨ty,sz,(xs.map f).set n row,wr,live⟩) (hnr:∀ x,(f x).all D6=true) (her:∀ x,KA (f x)=g x)
  (hrow:∀ x,xs[n]?=some x→BorR st row (g x)):BorX st (.ref l) (.sl (xs.map g)):=by
 have gen:∀ r:List Cl,r.all D6=true→BorR st r (KA r):=by
  intro r
  induction r with
  | nil=>intro _; simp only[KA,BorR]
  | cons c r ih =>
   intro h
   simp only[bi,ay] at h
   rw[KA]
   exact⟨.inr ⟨h.1,rfl⟩,ih h.2⟩
 refine .inr ⟨l,_,_,rfl,hob,rfl,AOR,fun i x y hx hy=>?_⟩
 simp only[mW,zf] at hy
 obtain⟨z,hz,rfl⟩:=hy
 rw[wE] at hx
 by_cases e:n=i
 ·subst e
  have hn:n<xs.length:=(aF.1 hz).1
  simp only[ae,hn,bf,ak] at hx
  subst hx
  exact hrow z hz
 ·simp only[e,aX,mW,hz,bY,ak] at hx
  subst hx
  rw[← her]
  exact gen _ (hnr z)
def openR (l i:Nat):Nat→Nat→List Ob→List Ob
 | 0,_,st=>st
 | n+1,off,st=>match Cf st l with
  | some ob=>if ob.wr=true then match ob.xs[i]? with
   | some row=>match row[off]? with
    | some (.ow ty sz xs)=>openR l i n (off+1) (B_ st l i off ob row ty sz xs)
    | _=>openR l i n (off+1) st
   | none=>st
   else st
  | none=>st
theorem Head.openR (l i:Nat):∀ (n off:Nat) (s:MS),Head s ⟨s.n,s.env,Go.Vm.openR l i n off s.st⟩
 | 0,_,s=>⟨rfl,fun _ _ _ _ _ _ h=>⟨_,_,h⟩⟩
 | n+1,off,s=>by
  rw[Go.Vm.openR]
  split
  ·rename_i ob hob
   split
   ·rename_i hwr
    split
    ·rename_i row hrow
     split
     ·rename_i ty sz xs hc
      refine Head.trans (t:=⟨s.n,s.env,B_ s.st l i off ob row ty sz xs⟩) ⟨rfl,fun w0 St0 St β a w h=>?_⟩ (Head.openR l i n (off+1) _)
      obtain⟨b,u,β',_,_,hcore,_⟩:=h.openCell hob hwr hrow hc
      exact⟨_,_,hcore⟩
     ·exact Head.openR l i n (off+1) s
    ·exact⟨rfl,fun _ _ _ _ _ _ h=>⟨_,_,h⟩⟩
   ·exact⟨rfl,fun _ _ _ _ _ _ h=>⟨_,_,h⟩⟩
  ·exact⟨rfl,fun _ _ _ _ _ _ h=>⟨_,_,h⟩⟩
theorem EndH.openR {vars:List ResultVar} {rs:List Res} (l i n:Nat) (hk:EndH P vars rs .ret ⟨s.n,s.env,Go.Vm.openR l i n 0 s.st⟩):EndH P vars rs .ret s:=by
 obtain⟨t,h1,h2⟩:=hk
 exact⟨t,(Head.openR l i n 0 s).trans h1,h2⟩
theorem DrawK.headD {l:List Oper} {t:MS} {K:MS→Prop} (hh:Head s t) (hok:FV s.n l.toArray=true) (hops:(l.all fun o=>o.op.operands.toList.all Ak)=true) (h:vpD P l.toArray K l t):DrawK P l.toArray s K:=AES fun w0 St0 St β a w hc=>by
 obtain⟨St',β',hc'⟩:=hh.2 w0 St0 St β a w hc
 have:=Xy (by rw[hh.1]; exact hok) hops hc' h
 rwa [hh.1] at this
theorem DrawK.headE {x:Option (Nat×Nat)} {l:List Oper} {t:MS} {K:MS→Prop} (hh:Head s t) (hok:FV s.n l.toArray=true) (hops:(l.all fun o=>o.op.operands.toList.all Ak)=true) (h:vpE P x l.toArray K l 0 [(0,t.st)] [] t) (hx:xu l.toArray x=true:=by rfl):DrawK P l.toArray s K:=AES fun w0 St0 St β a w hc=>by
 obtain⟨St',β',hc'⟩:=hh.2 w0 St0 St β a w hc
 have:=VQ hx (by rw[hh.1]; exact hok) hops hc' h
 rwa [hh.1] at this
end Go.Vm
namespace Go.Proofs.YtnoldekcdlaahaaGreat

end Go.Proofs.YtnoldekcdlaahaaGreat
namespace Go.Vm
open Go.RowKit
variable {P:Program} {w0:Bs} {St0 St:Nat→Nat→Prop} {β:Nat→Option Nat} {s t:MS} {a:Act} {w:World} {st:List Ob}
theorem ADp {c:Cl} {u:Value} (h:RdC w St st β c u):I7 st.length c=true:=by
 cases c with
 | ref l =>
  have h:BM w st β l u:=h
  unfold BM at h
  exact ANg
 | _=>rfl
mutual
theorem ni:∀ (x:AV) (u:Value),AVR w St st β x u→I8 st.length x=true
 | .c x,u,h=>by simp only[AVR] at h; exact ADp h
 | .agg xs,u,h=>by
  simp only[AVR] at h
  obtain⟨us,_,_,h⟩:=h
  simp only[I8]
  refine aJ.2 fun c hc=>?_
  obtain⟨k,hk⟩:=List.getElem?_of_mem hc
  obtain⟨y,_,hy⟩:=h k c hk
  exact ADp hy
 | .lp l i off,u,h=>by
  simp only[AVR] at h
  exact ANg
 | .ip xs,u,_=>rfl
 | .tup xs,u,h=>by
  simp only[AVR] at h
  obtain⟨us,_,h⟩:=h
  exact AAJ xs us h
 | .undef,u,_=>rfl
 | .un,u,_=>rfl
 | .pin x u0,u,h=>by
  simp only[AVR] at h
  exact ni x u h.2
 | .clo f xs,u,_=>rfl
 | .vw x i n m,u,h=>by
  simp only[AVR] at h
  obtain⟨_,_,_,_,_,_,_,h⟩:=h
  exact ni x _ h
theorem AAJ:∀ (xs:List AV) (us:List Value),AVRs w St st β xs us→SQ st.length xs=true
 | [],us,_=>rfl
 | x::xs,us,h=>by
  simp only[AVRs] at h
  obtain⟨y,ys,_,h2,h3⟩:=h
  simp only[SQ,ay]
  exact⟨ni x y h2,AAJ xs ys h3⟩
end
theorem Core.cut (h:Core w0 St0 St β s a w) {N:Nat} (t1:∀ i,I8 N (Bi s.env i)=true) (t2:((s.st.take N).all (Aw N))=true):Core w0 St0 St β ⟨s.n,s.env,s.st.take N⟩ a w:=by
 have hg:∀ l ob,(s.st.take N)[l]?=some ob→s.st[l]?=some ob:=fun l ob hl=>by
  rw[aaB] at hl
  split at hl
  ·exact hl
  ·cases hl
 exact {
  defers:=h.defers
  size:=h.size
  lim:=h.lim
  env:=fun i=>Qq _ _ (t1 i) (h.env i)
  below:=h.below,st0:=h.st0,stOld:=h.stOld,stIn:=h.stIn
  obs:=fun l ob b hl hlive hβ=>by
   exact AKg
  nil:=fun l ob hl=>h.nil l ob (hg l ob hl)
  inj:=fun l l' ob ob' b h1 h2=>h.inj l l' ob ob' b (hg l ob h1) (hg l' ob' h2)
  sep:=fun l ob b o hl=>h.sep l ob b o (hg l ob hl)
  own:=h.own.move id (fun x hx=>⟨⟨hx.1,hx.2.1,hx.2.2.1,hx.2.2.2.1,fun l ob hl=>hx.2.2.2.2 l ob (hg l ob hl)⟩,rfl⟩) (fun _ _ h=>h) (fun _ _ _=>rfl)
   (fun l ob b k c h1 h2 h3 h4 _=>⟨ob,b,hg l ob h1,h2,h3,h4,rfl⟩) (fun _ _ _ _ _ _ _ _ e=>e) }
def yL:AV→Bool
 | .c (.v (.bool _))=>true
 | .tup []=>true
 | _=>false
theorem jq {y:AV} (hp:yL y=true) {St':Nat→Nat→Prop} {st st':List Ob} {β':Nat→Option Nat} {w':World} {u:Value} (h:AVR w St st β y u):AVR w' St' st' β' y u:=by
 cases y with
 | c c =>
  cases c with
  | v x =>
   cases x with
   | bool b=>simpa only[AVR,RdC,RdD] using h
   | _=>cases hp
  | _=>cases hp
 | tup xs =>
  cases xs with
  | nil=>simpa only[AVR,AVRs] using h
  | cons x xs=>cases hp
 | _=>cases hp
def inlT (st':List Ob) (env:List (Nat×AV)) (r x:AV) (t:MS):Prop:=x=r∧t.env=env∧∃ t2,Head t t2∧t2.env=t.env∧t2.st.take st'.length=st'
theorem inlT.head {st':List Ob} {env:List (Nat×AV)} {r x:AV} {t t2:MS} (h:Head t t2) (he:t2.env=t.env) (hk:inlT st' env r x t2):inlT st' env r x t:=by
 obtain⟨h1,h2,t3,h3,h4,h5⟩:=hk
 exact⟨h1,he▸h2,t3,⟨h3.1.trans h.1,fun w0 St0 St β a w hc=>by
  obtain⟨_,_,hc⟩:=h.2 w0 St0 St β a w hc
  exact h3.2 _ _ _ _ _ _ hc⟩,h4.trans he,h5⟩
theorem inlT.self {st':List Ob} {env:List (Nat×AV)} {r x:AV} {t:MS} (h1:x=r) (h2:t.env=env) (h3:t.st.take st'.length=st'):inlT st' env r x t:=⟨h1,h2,t,⟨rfl,fun _ _ _ _ _ _ h=>⟨_,_,h⟩⟩,rfl,h3⟩
theorem InlS.mkT {f:FuncId} {fn:Func} {c:Code} {args:List AV} {st st':List Ob} {y:AV} (hin:CallsIn P f) (hf:P.funcs[f]?=some fn) (hb:fn.body=some c) (hm:P.follows .mixedOrders=true) {n:Nat} (hn:fn.ntmps=n) {vars:Array ResultVar} (hvars:fn.results=vars) (hc:codeOk n c=true)
  (hlen0:(Nat.ble args.length n&&Nat.ble n 1000000)=true) (hlen:st.length=st'.length) (hp:yL y=true) (hno:st'.all (Aw st'.length)=true) (st1:List Ob) (hh:∀ (m:Nat) (env:List (Nat×AV)),Head ⟨m,env,st⟩ ⟨m,env,st1⟩)
  (h:∀ (m:Nat) (env:List (Nat×AV)),vp P c ⟨n,Ws args 0 (yB env),st1⟩ (Lp P vars.toList m (inlT st' env y))):InlS P f st args y st':=
 ⟨hin,fun w0 St0 St β s a w us hst hcore hargs=>by
  subst hst
  refine(SS hf hb hm hn hvars hc hlen0 ⟨st1,hh _ _,h s.n s.env⟩ hcore hargs).mono fun e w' hx=>?_
  obtain⟨u,e1,t,x,q1,⟨rfl,q2,t2,q3,q4,q5⟩,St',β',q6,q7⟩:=hx
  obtain⟨St2,β2,q8⟩:=q3.2 _ _ _ _ _ _ q6
  have q9:=q8.cut (N:=st'.length) (fun i=>by rw[q4,q2,← hlen]; exact ni _ _ (hcore.env i)) (by rw[q5]; exact hno)
  have e2:(⟨t2.n,t2.env,t2.st.take st'.length⟩:MS)=⟨s.n,s.env,st'⟩:=by rw[q5,q4,q2,q3.1,q1]
  rw[e2] at q9
  exact⟨u,e1,St2,β2,q9,jq hp q7⟩⟩
theorem AFa {l0 i:Nat} {used:List Nat} {ob:Ob} {row':List Cl} (hob:Cf s.st l0=some ob):∀ (x:AV) (u:Value),AVR w St s.st β x u→AVR w St (AQ used l0 i row' ob s.st) β x u:=by
 obtain⟨hl,_⟩:=Bo hob
 have hmk:∀ (l:Nat) (o2:Ob),s.st[l]?=some o2→∃ o3,(AQ used l0 i row' ob s.st)[l]?=some o3∧(o3.live=true→o2.live=true)∧o3.sz=o2.sz∧o3.ty=o2.ty∧o3.xs.length=o2.xs.length∧(o2.xs = []→o3.xs = []):=by
  intro l o2 h2
  have hlt:l<s.st.length:=(aF.1 h2).1
  unfold AQ
  rw[Z5,wE]
  by_cases e:l0=l
  ·subst e
   rw[h2] at hl
   cases hl
   simp only[bf,hlt,bY]
   split<;>simp_all
  ·simp only[e,aX,h2,bY]
   split<;>simp_all
 refine AVR.mono (fun _ _ h=>h) (fun _ _ _=>rfl) (fun l u hu=>?_) (fun l i2 off u hu=>?_)
 ·unfold BM at hu ⊢
  cases hq:s.st[l]? with
  | none=>rw[hq] at hu; exact hu.elim
  | some o2 =>
   obtain⟨o3,h1,h2,h3,h4,h5,h6⟩:=hmk l o2 hq
   simp only[hq] at hu
   simp only[h1]
   refine⟨hu.1,fun hlv=>?_⟩
   have hu2:=hu.2 (h2 hlv)
   cases hβ:β l with
   | none=>simp only[hβ] at hu2 ⊢; exact⟨hu2.1,h6 hu2.2⟩
   | some b =>
    simp only[hβ] at hu2 ⊢
    obtain⟨cap,cs,e1,e2,e3,e4,e5⟩:=hu2
    exact⟨cap,cs,by rw[h5]; exact e1,by rw[h5]; exact e2,e3,by rw[h4]; exact e4,by rw[h3]; exact e5⟩
 ·simp only[AVR] at hu ⊢
  cases hq:s.st[l]? with
  | none=>rw[hq] at hu; exact hu.elim
  | some o2 =>
   obtain⟨o3,h1,h2,h3,h4,h5,h6⟩:=hmk l o2 hq
   grind
theorem uH {l0 i:Nat} {used:List Nat} {ob:Ob} {row':List Cl} (hob:Cf s.st l0=some ob):∀ (xs:List AV) (us:List Value),AVRs w St s.st β xs us→AVRs w St (AQ used l0 i row' ob s.st) β xs us
 | [],us,h=>APQ
 | x::xs,us,h=>by
  simp only[AVRs] at h ⊢
  obtain⟨y,ys,h1,h2,h3⟩:=h
  exact⟨y,ys,h1,AFa hob x y h2,uH hob xs ys h3⟩
theorem InlK.mkC {f:FuncId} {args:List AV} {dst:Option Nat} {K:MS→Prop} {A B C:Prop} (sel:List (Nat×Bool)) (l0 i:Nat) (used keys:List Nat) {ob:Ob} {row row':List Cl} (hob:Cf s.st l0=some ob) (hrw:ob.xs[i]?=some row) (hwr:ob.wr=true) (hl0:l0∉used)
  (ho:OwnL s.st row row' [l0] fun us=>∀ l∈us,l=l0∨l∈used) (ht:Qo sel keys ⟨s.n,s.env,AQ used l0 i row' ob s.st⟩) (hargs:ADS sel args=true) {y:AV} {st1 st' st2:List Ob} (e1:Ou sel (AQ used l0 i row' ob s.st) sel=st1)
  (h:InlS P f st1 (ABY sel args) y st') (hp:yL y=true) (hh:∀ env,Head ⟨s.n,env,st'⟩ ⟨s.n,env,st2⟩)
  (hk:K (MS.put ⟨s.n,keys.map fun k=>(k,tJ sel (Bi s.env k)),st2⟩ dst y)):NM A (NM B (NM C (InlK P f s args dst K))):=
 .inr (.inr (.inr ⟨h.1,fun w0 St0 St β a w us hc hA=>by
  have h1:=(hc.closeRow hob hrw hwr hl0 ho).rel ht
  refine(h.2 w0 St0 St _ _ a w us e1 h1 (by rw[← e1]; exact xy ht.2.2 _ _ hargs (uH hob _ _ hA))).mono fun e w' hx=>?_
  obtain⟨u,q0,St',β',q1,q2⟩:=hx
  obtain⟨St2,β2,q3⟩:=(hh _).2 _ _ _ _ _ _ q1
  exact⟨u,q0,⟨s.n,_,st2⟩,y,rfl,hk,St2,β2,q3,jq hp q2⟩⟩))
theorem Head.openS (l i k:Nat) {n:Nat} {env:List (Nat×AV)} {st:List Ob}:Head ⟨n,env,st⟩ ⟨n,env,Go.Vm.openR l i k 0 st⟩:=Head.openR l i k 0 ⟨n,env,st⟩
theorem InlK.mkO {f:FuncId} {fn:Func} {c:Code} {args:List AV} {dst:Option Nat} {K:MS→Prop} {A B C:Prop} (hin:CallsIn P f) (hf:P.funcs[f]?=some fn) (hb:fn.body=some c) (hm:P.follows .mixedOrders=true) {n:Nat} (hn:fn.ntmps=n) {vars:Array ResultVar} (hvars:fn.results=vars) (hc:codeOk n c=true)
  (hlen0:(Nat.ble args.length n&&Nat.ble n 1000000)=true) (st1:List Ob) (hh:∀ env,Head ⟨n,env,s.st⟩ ⟨n,env,st1⟩) (h:vp P c ⟨n,Ws args 0 (yB s.env),st1⟩ (Lp P vars.toList s.n (AHL dst K))):NM A (NM B (NM C (InlK P f s args dst K))):=
 .inr (.inr (.inr ⟨hin,fun w0 St0 St β a w us hcore hargs=>SS hf hb hm hn hvars hc hlen0 ⟨st1,hh _,h⟩ hcore hargs⟩))
def unA:List Nat→List (Nat×AV)→List (Nat×AV)
 | [],E=>E
 | k::ks,E=>(k,.un)::unA ks E
def AFb (junk:List Nat) (U:List (Nat×AV)):List (Nat×AV)→Prop
 | []=>U = []
 | (k,v)::r=>(k,v)::r=U∨(hasK k junk=true∧AFb junk U r)
attribute [go_sem] unA
theorem dF {E:List (Nat×AV)} {i:Nat}:∀ (l:List Nat),Bi (unA l E) i=if hasK i l=true then .un else Bi E i
 | []=>by simp[unA,hasK]
 | k::ks=>by
  simp only[unA,Bi,hasK,dF ks]
  by_cases e:k=i
  ·subst e; simp
  ·have e2:¬ i=k:=fun h=>e h.symm
   simp[e,e2]
theorem uI {junk:List Nat} {U:List (Nat×AV)} {i:Nat} (hi:¬ hasK i junk=true):∀ (src:List (Nat×AV)),AFb junk U src→Bi src i=Bi U i
 | [],h=>by simp only[AFb] at h; rw[h]
 | (k,v)::r,h=>by
  rcases h with h | ⟨h1,h2⟩
  ·rw[h]
  ·have e:¬ k=i:=fun e=>hi (e▸h1)
   simp only[Bi,e,aX]
   exact uI hi r h2
theorem Head.env {n:Nat} {env env':List (Nat×AV)} {st:List Ob} (h:∀ i,Bi env' i = .un∨Bi env' i=Bi env i):Head ⟨n,env,st⟩ ⟨n,env',st⟩:=⟨rfl,fun w0 St0 St β a w hc=>⟨St,β,{
 defers:=hc.defers,size:=hc.size,lim:=hc.lim
 env:=fun i=>by
  rcases h i with e | e
  ·show AVR w St st β (Bi env' i) _
   rw[e]; simp only[AVR]
  ·show AVR w St st β (Bi env' i) _
   rw[e]; exact hc.env i
 below:=hc.below,st0:=hc.st0,stOld:=hc.stOld,stIn:=hc.stIn,obs:=hc.obs,nil:=hc.nil,inj:=hc.inj,sep:=hc.sep,own:=hc.own }⟩⟩
theorem Head.pop {n k:Nat} {u:AV} {r:List (Nat×AV)} {st:List Ob} {junk:List Nat} {E:List (Nat×AV)} (h:AFb (k::junk) (unA junk E) r):Head ⟨n,(k,u)::r,st⟩ ⟨n,(k,u)::unA junk E,st⟩:=Head.env fun i=>by
 simp only[Bi]
 by_cases e:k=i
 ·simp[e]
 ·simp only[e,aX]
  by_cases hj:hasK i junk=true
  ·left; rw[dF,bF hj]
  ·right
   refine(uI (fun hh=>?_) r h).symm
   simp only[hasK] at hh
   split at hh
   ·rename_i e2; exact e e2
   ·exact hj hh
theorem LoopN.mk {n k:Nat} {v:AV} {E:List (Nat×AV)} {st:List Ob} {body:MS→(MS→Prop)→Prop} (junk:List Nat) {A:Type} (up:A→AV) (stf:A→List Ob) (p:A→Prop) (μ:A→Nat) (x0:A) (h0:v=up x0∧st=stf x0∧p x0)
  (h:∀ x,p x→body ⟨n,(k,up x)::unA junk E,stf x⟩ fun s'=>∃ y,True∧Head s' ⟨n,(k,up y)::unA junk E,stf y⟩∧p y∧μ y<μ x):LoopK ⟨n,(k,v)::E,st⟩ body:=by
 obtain⟨rfl,rfl,hp⟩:=h0
 refine LoopG.mk (fun x=>⟨n,(k,up x)::unA junk E,stf x⟩) p μ x0 (Head.env fun i=>?_) hp h
 simp only[Bi]
 by_cases e:k=i
 ·simp[e]
 ·simp only[e,aX,dF]
  split
  ·exact .inl rfl
  ·exact .inr rfl
end Go.Vm
namespace Go.Proofs.YtnoldekcdlaahaaGreat

end Go.Proofs.YtnoldekcdlaahaaGreat
