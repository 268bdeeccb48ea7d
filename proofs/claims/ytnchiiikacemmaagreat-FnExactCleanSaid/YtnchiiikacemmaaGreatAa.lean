/- A part. -/
import Derived.Test.YtnchiiikacemmaaGreatVmX
set_option linter.unusedSimpArgs false
set_option linter.unusedVariables false
set_option maxHeartbeats 2000000
set_option maxRecDepth 10000
namespace Go.Vm
variable {P:Program} {w0:Bs} {St0 St:Nat→Nat→Prop} {β:Nat→Option Nat} {s t r:MS} {a:Act} {w:World}
theorem Core.reTell (h:Core w0 St0 St β s a w) (env':List (Nat×AV)) (st':List Ob)
  (hr:∀ l u,BD w s.st β l u→BD w st' β l u) (hp:∀ l i off u,AVR w St s.st β (.lp l i off) u→AVR w St st' β (.lp l i off) u)
  (henv:∀ i u,AVR w St st' β (Cm s.env i) u→AVR w St st' β (Cm env' i) u)
  (hst:∀ (l:Nat) (o':Ob),st'[l]?=some o'→o'.live=true→∃ o:Ob,s.st[l]?=some o∧o.live=true∧o'.ty=o.ty∧o'.sz=o.sz∧o'.wr=o.wr∧o'.xs.length=o.xs.length∧((∀ x∈o.xs,x.length=o.sz)→∀ x∈o'.xs,x.length=o.sz) ∧
   ∀ (k:Nat) (c':Cl),o'.xs.flatten[k]?=some c'→∃ c,o.xs.flatten[k]?=some c∧(∀ u,RdB w St st' β c u→RdB w St st' β c' u)∧(Fb c'=true→c=c')) :
  Core w0 St0 St β ⟨s.n,env',st'⟩ a w:=by
 have hA:∀ x u,AVR w St s.st β x u→AVR w St st' β x u:=fun x u hx=>AVR.mono (fun _ _ h=>h) (fun _ _ _=>rfl) hr hp x u hx
 have hB:∀ c u,RdB w St s.st β c u→RdB w St st' β c u:=fun c u hc=>RdB.mono (fun _ _ h=>h) (fun _ _ _=>rfl) hr c u hc
 exact {
  defers:=h.defers
  size:=h.size
  env:=fun i=>henv i _ (hA _ _ (h.env i))
  below:=h.below
  st0:=h.st0
  stOld:=h.stOld
  stIn:=h.stIn
  obs:=fun l o' b hl hlv hb=>by
   obtain⟨o,q1,q2,q3,q4,q5,q6,q7,q8⟩:=hst l o' hl hlv
   obtain⟨p1,p2,cs,p3,p4,p5⟩:=h.obs l o b q1 q2 hb
   refine⟨p1,p2,cs,by rw[q3]; exact p3,by rw[q4]; exact q7 p4,fun k c' hk=>?_⟩
   obtain⟨c,r1,r2,r3⟩:=q8 k c' hk
   obtain⟨u,u1,u2⟩:=p5 k c r1
   exact⟨u,u1,r2 u (hB c u u2)⟩
  nil:=fun l o' hl hlv hb=>by
   obtain⟨o,q1,q2,q3,q4,q5,q6,q7,q8⟩:=hst l o' hl hlv
   have:=h.nil l o q1 q2 hb
   rw[this] at q6
   exact dh q6
  inj:=fun l l' o1 o2 b h1 h2 g1 g2 hb hb'=>by
   obtain⟨p1,q1,q2,_⟩:=hst l o1 h1 g1
   obtain⟨p2,q3,q4,_⟩:=hst l' o2 h2 g2
   exact h.inj l l' p1 p2 b q1 q3 q2 q4 hb hb'
  sep:=fun l o' b o hl hlv hb hs=>by
   obtain⟨p,q1,q2,q3,q4,q5,q6,q7,q8⟩:=hst l o' hl hlv
   rw[q4,q5,q6]
   exact h.sep l p b o q1 q2 hb hs
  own:=h.own.move id (fun x hx=>⟨⟨hx.1,fun h=>h,hx.2.2.1,hx.2.2.2.1,fun l o' hl hlv=>by
    obtain⟨o,q1,q2,_⟩:=hst l o' hl hlv
    exact hx.2.2.2.2 l o q1 q2⟩,rfl⟩) (fun _ _ h=>h) (fun _ _ _=>rfl)
   (fun l o' b k c hl hlv hb hk hc=>by
    obtain⟨o,q1,q2,q3,q4,q5,q6,q7,q8⟩:=hst l o' hl hlv
    obtain⟨c0,r1,r2,r3⟩:=q8 k c hk
    have:=r3 hc
    subst this
    exact⟨o,b,q1,q2,hb,r1,rfl⟩) (fun _ _ _ _ _ _ _ _ e=>e) }
def AH5:Cl:=.v (.slice none 0 0)
theorem Core.nilOb (h:Core w0 St0 St β s a w) (e n:Nat):∃ β',Core w0 St0 St β' ⟨s.n,s.env,s.st ++ [⟨e,n,[],true,true⟩]⟩ a w∧∀ u,RdC w St (s.st ++ [⟨e,n,[],true,true⟩]) β' AH5 u→RdC w St (s.st ++ [⟨e,n,[],true,true⟩]) β' (.ref s.st.length) u:=by
 obtain⟨a1,a2,a3⟩:=h.addOb ⟨e,n,[],true,true⟩ none (fun _=>rfl) (by simp) h.own (by simp)
 refine⟨_,a1,fun u hu=>?_⟩
 have hu':u = .slice none 0 0:=by
  exact(NF (St:=St) (w:=w) (v:=(.slice none 0 0:Value)) (u:=u) (by simp only[AVR]; exact hu)).1
 subst hu'
 have:=Ky (w:=w) (St:=St) (β:=fun l=>if l=s.st.length then none else β l) (st:=s.st) (ob:=⟨e,n,[],true,true⟩) (b:=none) (u:=.slice none 0 0) rfl (by simp) fun _=>⟨rfl,rfl⟩
 simpa only[AVR] using this
theorem Head.trans (h1:Head s t) (h2:Head t r):Head s r:=⟨h2.1.trans h1.1,fun w0 St0 St β a w h=>by
 obtain⟨St',β',h'⟩:=h1.2 w0 St0 St β a w h
 exact h2.2 w0 St0 St' β' a w h'⟩
theorem Head.rel (sel:List (Nat×Bool)) (keys:List Nat) (h:Qx sel keys s) (e:Go.Vm.rel sel keys s=t):Head s t:=⟨by rw[← e]; rfl,fun w0 St0 St β a w hc=>⟨St,Tm sel β,by rw[← e]; exact hc.rel h⟩⟩
theorem Head.abs (N l0:Nat) (keys:List Nat) (h:zi N l0 keys s t):Head s t:=by
 obtain⟨i,R,row,row',ob,⟨g1,g2,g3,g4,g5⟩,g6,⟨g7,g8⟩,g9⟩:=h
 exact⟨by rw[← g9],fun w0 St0 St β a w hc=>⟨St,β,by rw[← g9]; exact hc.absTrim g1 g2 g3 g4 g5 g6 g7 g8⟩⟩
theorem Head.nilR (l j e n:Nat) (ob:Ob) (row:List Cl) (hob:s.st[l]?=some ob) (hrow:ob.xs = [row]) (h:row[j]?=some (.v (.slice none 0 0))):Head s ⟨s.n,s.env,s.st.set l ⟨ob.ty,ob.sz,[row.set j (.ref s.st.length)],ob.wr,ob.live⟩ ++ [⟨e,n,[],true,true⟩]⟩:=⟨rfl,fun w0 St0 St β a w hc=>by
 obtain⟨β',h1,h2⟩:=hc.nilOb e n
 have hl:l<s.st.length:=(ay.1 hob).1
 have hg:∀ (l2:Nat) (o2:Ob),(s.st.set l ⟨ob.ty,ob.sz,[row.set j (.ref s.st.length)],ob.wr,ob.live⟩ ++ [⟨e,n,[],true,true⟩])[l2]?=some o2→(l2=l∧o2=⟨ob.ty,ob.sz,[row.set j (.ref s.st.length)],ob.wr,ob.live⟩)∨(l2≠l∧(s.st ++ [(⟨e,n,[],true,true⟩:Ob)])[l2]?=some o2):=by
  intro l2 o2 h2
  by_cases e1:l2=l
  ·subst e1
   rw[au (by simpa using hl),di] at h2
   simp[hl] at h2
   exact .inl ⟨rfl,h2.symm⟩
  ·refine .inr ⟨e1, ?_⟩
   rw[abd] at h2 ⊢
   simp only[bG] at h2
   split at h2
   ·rename_i hlt
    rw[di,aV (fun e2=>e1 e2.symm)] at h2
    rw[aX hlt]; exact h2
   ·rename_i hlt
    rw[aV hlt]; exact h2
 have hg2:∀ (l2:Nat) (o2:Ob),(s.st ++ [(⟨e,n,[],true,true⟩:Ob)])[l2]?=some o2→∃ o3,(s.st.set l ⟨ob.ty,ob.sz,[row.set j (.ref s.st.length)],ob.wr,ob.live⟩ ++ [⟨e,n,[],true,true⟩])[l2]?=some o3∧o3.live=o2.live∧o3.sz=o2.sz∧o3.ty=o2.ty∧o3.xs.length=o2.xs.length:=by
  intro l2 o2 h2
  by_cases e1:l2=l
  ·subst e1
   rw[au hl,hob] at h2
   cases h2
   exact⟨⟨ob.ty,ob.sz,[row.set j (.ref s.st.length)],ob.wr,ob.live⟩,by rw[au (by simpa using hl),di]; simp only[aW,hl],rfl,rfl,rfl,by simp[hrow]⟩
  ·refine⟨o2, ?_,rfl,rfl,rfl,rfl⟩
   rw[abd] at h2 ⊢
   simp only[bG]
   split at h2
   ·rename_i hlt
    rw[aX hlt,di,aV (fun e2=>e1 e2.symm)]; exact h2
   ·rename_i hlt
    rw[aV hlt]; exact h2
 have hr:∀ (l2:Nat) (u:Value),BD w (s.st ++ [⟨e,n,[],true,true⟩]) β' l2 u→BD w (s.st.set l ⟨ob.ty,ob.sz,[row.set j (.ref s.st.length)],ob.wr,ob.live⟩ ++ [⟨e,n,[],true,true⟩]) β' l2 u:=by
  intro l2 u hu
  unfold BD at hu ⊢
  cases hq:(s.st ++ [(⟨e,n,[],true,true⟩:Ob)])[l2]? with
  | none=>simp[hq] at hu
  | some o2 =>
   obtain⟨o3,p1,p2,p3,p4,p5⟩:=hg2 l2 o2 hq
   simp only[hq] at hu
   simp only[p1]
   refine⟨hu.1,fun hlv=>?_⟩
   have h3:=hu.2 (by rw[← p2]; exact hlv)
   cases hβ:β' l2 with
   | none=>simp only[hβ] at h3 ⊢; exact⟨h3.1,dh (by rw[p5,h3.2]; rfl)⟩
   | some b=>simp only[hβ] at h3 ⊢; simpa only[p3,p4,p5] using h3
 refine⟨St,β',h1.reTell _ _ hr (fun l2 i off u hu=>?_) (fun i u hu=>hu) (fun l2 o' hl2 hlv=>?_)⟩
 ·simp only[AVR] at hu ⊢
  cases hq:(s.st ++ [(⟨e,n,[],true,true⟩:Ob)])[l2]? with
  | none=>simp[hq] at hu
  | some o2 =>
   obtain⟨o3,p1,p2,p3,_⟩:=hg2 l2 o2 hq
   simp only[hq] at hu
   simp only[p1,p2,p3]
   exact hu
 ·rcases hg l2 o' hl2 with ⟨rfl,rfl⟩ | ⟨_,h3⟩
  ·refine⟨ob,by rw[au hl]; exact hob,hlv,rfl,rfl,rfl,by simp[hrow],fun hx x hx2=>?_,fun k c' hk=>?_⟩
   ·simp only[aa4] at hx2
    subst hx2
    rw[bG]
    exact hx row (by simp[hrow])
   ·simp only[bM,lT,bz] at hk
    rw[hrow]
    simp only[bM,lT,bz]
    rw[di] at hk
    by_cases e1:j=k
    ·subst e1
     have hj:j<row.length:=(ay.1 h).1
     simp only[aW,hj,ah] at hk
     subst hk
     exact⟨_,h,fun u hu=>hr _ u (h2 u hu),fun hc=>by simp[Fb] at hc⟩
    ·rw[aV e1] at hk
     exact⟨c',hk,fun _ h=>h,fun _=>rfl⟩
  ·exact⟨o',h3,hlv,rfl,rfl,rfl,rfl,fun h=>h,fun k c hk=>⟨c,hk,fun _ h=>h,fun _=>rfl⟩⟩⟩
theorem LoopG.mk {s:MS} {body:MS→(MS→Prop)→Prop} {A:Type} (f:A→MS) (p:A→Prop) (μ:A→Nat) (x0:A) (h0:Head s (f x0)) (hp:p x0)
  (h:∀ x,p x→body (f x) fun s'=>∃ y,True∧Head s' (f y)∧p y∧μ y<μ x):LoopK s body:=
 ⟨fun _=>True,fun s t=>Head s t,A,f,p,μ,fun s t _ h=>h,⟨x0,trivial,h0,hp⟩,h⟩
def hasK (k:Nat):List Nat→Bool
 | []=>false
 | x::xs=>if x=k then true else hasK k xs
def AGA:Bool→Nat→List Nat→List Nat
 | true,_,l=>l
 | false,k,l=>k::l
def keysOf:List Nat→List (Nat×AV)→List Nat
 | _,[]=>[]
 | seen,(k,_)::r=>AGA (hasK k seen) k (keysOf (k::seen) r)
def AEP:List Nat→List (Nat×AV)→List (Nat×AV)
 | [],_=>[]
 | k::ks,e=>(k,Cm e k)::AEP ks e
def SH (dr:List Nat) (up:List (Nat×AV)) (s:MS) (st:List Ob):MS:=⟨s.n,AEP (keysOf dr s.env) (up++s.env),st⟩
attribute [go_sem] hasK AGA keysOf AEP SH
theorem LoopU.mk {s:MS} {body:MS→(MS→Prop)→Prop} (N:Nat) {A:Type} (up:A→List (Nat×AV)) (stf:A→List Ob) (p:A→Prop) (μ:A→Nat) (x0:A)
  (h0:N9 N (keysOf [] s.env) s∧trim N (keysOf [] s.env) s=SH [] (up x0) s (stf x0)∧p x0)
  (h:∀ x,p x→body (SH [] (up x) s (stf x)) fun s'=>∃ y,N9 N (keysOf [] s.env) s'∧trim N (keysOf [] s.env) s'=SH [] (up y) s (stf y)∧p y∧μ y<μ x):LoopK s body:=
 LoopK.mk N (keysOf [] s.env) (fun x=>SH [] (up x) s (stf x)) p μ x0 h0 h
theorem LoopH.mk {s:MS} {body:MS→(MS→Prop)→Prop} (dr:List Nat) {A:Type} (up:A→List (Nat×AV)) (stf:A→List Ob) (p:A→Prop) (μ:A→Nat) (x0:A)
  (h0:Head s (SH dr (up x0) s (stf x0))) (hp:p x0)
  (h:∀ x,p x→body (SH dr (up x) s (stf x)) fun s'=>∃ y,True∧Head s' (SH dr (up y) s (stf y))∧p y∧μ y<μ x):LoopK s body:=
 LoopG.mk (fun x=>SH dr (up x) s (stf x)) p μ x0 h0 hp h
theorem Head.sel (sel:List (Nat×Bool)) {n:Nat} {env:List (Nat×AV)} {st:List Ob} (h:Qx sel (env.map Prod.fst) s) (e:Go.Vm.rel sel (env.map Prod.fst) s=⟨n,env,st⟩):Head s ⟨n,env,st⟩:=Head.rel sel _ h e
theorem Head.selAbs (sel:List (Nat×Bool)) (N l0:Nat) {n:Nat} {env:List (Nat×AV)} {st:List Ob} (h:Qx sel (env.map Prod.fst) s) (h2:zi N l0 (env.map Prod.fst) (Go.Vm.rel sel (env.map Prod.fst) s) ⟨n,env,st⟩):Head s ⟨n,env,st⟩:=Head.trans (Head.rel sel _ h rfl) (Head.abs N l0 _ h2)
theorem DR {sel:List (Nat×Bool)} {xs:List (List Cl)} (h:FT xs=true):xs.map (fun x=>x.map (Ql sel))=xs:=by
 conv=>rhs; rw[← List.map_id xs]
 exact aaM fun x hx=>AEE (aG.1 h x hx)
theorem AP {N ty sz:Nat} {R:List (List Cl)} {wr live:Bool} (h:FT R=true):Aw N ⟨ty,sz,R,wr,live⟩=true:=by
 simp only[Aw,zH]
 refine .inr (aG.2 fun x hx=>aG.2 fun c hc=>?_)
 have:=aG.1 (aG.1 h x hx) c hc
 cases c<;>simp_all [NG,FQ]
theorem all2 {N:Nat} {a b:Ob} (ha:Aw N a=true) (hb:Aw N b=true) : [a,b].all (Aw N)=true:=by simp[ha,hb]
theorem Du {sel:List (Nat×Bool)} {xs:List (List Cl)} (h:FT xs=true):(xs.all fun x=>x.all (xP sel))=true:=aG.2 fun x hx=>AEF (aG.1 h x hx)
theorem vk (a:Value) (l:Nat):FT [[.v a,.ref l]]=false:=rfl
end Go.Vm
open Go.Proofs.Tryz
namespace Go.Proofs.YtnchiiikacemmaaGreat
open Go.Vm
def EP (a b:DVal):Bool:=if(a.ty != b.ty)=true then decide (a.ty<b.ty) else if(a.n != b.n)=true then decide (a.n<b.n) else Op.bytesLess a.s.toList b.s.toList
def KX (a b:DVal):Bool:=(a.ty==b.ty)&&((a.n==b.n)&&(a.s.toList==b.s.toList))
theorem Zj (a b:DVal):Ctr prog 325 [.agg a.c,.agg b.c] [.val (.c (.v (.bool (EP a b))))]:=by
 refine CM call325 func325 ntmps325 results325 fun hw=>?_
 rcases h1:a.ty != b.ty with _ | _<;>rcases h2:a.n != b.n with _ | _<;>simp only[go_sem,h1,h2,EP]
def Kt:List DVal→List DVal→Bool
 | [],[]=>true
 | a::l,b::m=>KX a b&&Kt l m
 | _,_=>false
theorem Uk:∀ (a b:List DVal),a.length≠b.length→Kt a b=false
 | [],[],h=>by simp at h
 | [],_::_,_=>rfl
 | _::_,[],_=>rfl
 | a::l,b::m,h=>by simp only[Kt]; rw[Uk l m (by simpa using h)]; simp
theorem Xg (a b:List DVal) {k:Nat} (h1:k<a.length) (h2:k<b.length):Kt (a.drop k) (b.drop k)=(KX a[k] b[k]&&Kt (a.drop (k+1)) (b.drop (k+1))):=by
 rw[aC h1,aC h2]; rfl
theorem Ot (a b:List DVal) (ha:a.length≤1048576) (hb:b.length≤1048576):Ctr prog 206 [.c (.sl (a.map DVal.c)),.c (.sl (b.map DVal.c))] [.val (.c (.v (.bool (Kt a b))))]:=by
 refine CM call206 func206 ntmps206 results206 fun hw=>?_
 simp only[go_sem,ae]
 refine cndC.mk (fun h=>?_) (fun h=>?_)
 ·simp only[go_sem]
  rw[Uk a b (by simp at h; omega)]
 ·have he:a.length=b.length:=by simp at h; omega
  simp only[go_sem]
  refine LoopU.mk 0 (A:=Nat) (fun k=>[(5,.c (.v (.int .i64 (k))))]) (fun _=>[]) (fun k=>k≤a.length∧Kt (a.drop k) (b.drop k)=Kt a b) (fun k=>a.length-k) 0 ⟨⟨rfl,rfl⟩,rfl,ak _,rfl⟩ ?_
  rintro k ⟨hk,hf⟩
  simp only[go_sem,ae]
  refine cndC.mk (fun h=>?_) (fun h=>?_)
  ·have hk':k<a.length:=by simpa using h
   have hk2:k<b.length:=by omega
   rw[Xg a b hk' hk2] at hf
   simp only[go_sem]
   try refine DrawK.mk ?_
   try simp only[go_sem,AA _ hk',AA _ hk2]
   have e1:(a[k].ty==b[k].ty&&(a[k].n==b[k].n&&a[k].s.toList==b[k].s.toList))=KX a[k] b[k]:=rfl
   try simp only[e1]
   rcases hv:KX a[k] b[k] with _ | _
   ·simp only[go_sem,aN]
    rw[hv,ag] at hf
    rw[hf]
   ·simp only[go_sem,aQ,wrap_i64 (n:=(k:Int)+1) (by omega) (by omega)]
    rw[hv,ai] at hf
    exact⟨k+1,⟨rfl,rfl⟩,rfl,⟨by omega,hf⟩,by omega⟩
  ·have hk':k=a.length:=by simp at h; omega
   subst hk'
   simp only[go_sem]
   rw[← hf,aO,he,aO]; rfl
theorem lW (a b:List DVal) (ha:a.length≤1048576) (hb:b.length≤1048576):Ctr prog 245 [.c (.sl (a.map DVal.c)),.c (.sl (b.map DVal.c))] [.val (.c (.v (.bool (Kt a b))))]:=by
 refine CM call245 func245 ntmps245 results245 fun hw=>?_
 simp only[go_sem,ae]
 refine cndC.mk (fun h=>?_) (fun h=>?_)
 ·simp only[go_sem]
  rw[Uk a b (by simp at h; omega)]
 ·have he:a.length=b.length:=by simp at h; omega
  simp only[go_sem,ae]
  refine LoopU.mk 0 (A:=Nat) (fun k=>[(13,.c (.v (.int .i64 (k))))]) (fun _=>[]) (fun k=>k≤a.length∧Kt (a.drop k) (b.drop k)=Kt a b) (fun k=>a.length-k) 0 ⟨⟨rfl,rfl⟩,rfl,ak _,rfl⟩ ?_
  rintro k ⟨hk,hf⟩
  simp only[go_sem]
  refine cndC.mk (fun h=>?_) (fun h=>?_)
  ·have hk':k<a.length:=by simpa using h
   have hk2:k<b.length:=by omega
   rw[Xg a b hk' hk2] at hf
   simp only[go_sem]
   try refine DrawK.mk ?_
   try simp only[go_sem,AA _ hk',AA _ hk2]
   have e1:(a[k].ty==b[k].ty&&(a[k].n==b[k].n&&a[k].s.toList==b[k].s.toList))=KX a[k] b[k]:=rfl
   try simp only[e1]
   rcases hv:KX a[k] b[k] with _ | _
   ·simp only[go_sem,aN]
    rw[hv,ag] at hf
    rw[hf]
   ·simp only[go_sem,aQ,wrap_i64 (n:=(k:Int)+1) (by omega) (by omega)]
    rw[hv,ai] at hf
    exact⟨k+1,⟨rfl,rfl⟩,rfl,⟨by omega,hf⟩,by omega⟩
  ·have hk':k=a.length:=by simp at h; omega
   subst hk'
   simp only[go_sem]
   rw[← hf,aO,he,aO]; rfl
theorem Ou (a b:List DVal) (ha:a.length≤1048576) (hb:b.length≤1048576):Ctr prog 216 [.c (.sl (a.map DVal.c)),.c (.sl (b.map DVal.c))] [.val (.c (.v (.bool (Kt a b))))]:=by
 refine CM call216 func216 ntmps216 results216 fun hw=>?_
 simp only[go_sem]
 refine CallK.mk _ (lW a b ha hb) fun _=>?_
 simp only[go_sem]
end Go.Proofs.YtnchiiikacemmaaGreat
