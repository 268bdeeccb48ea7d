/- A part. -/
import Derived.Test.YtdagmocgcanknaaGreatVmW
import Derived.ProofKit
import Derived.Deep.RegionLaw
set_option linter.unusedSimpArgs false
set_option linter.unusedVariables false
set_option maxHeartbeats 4000000
set_option maxRecDepth 100000
namespace Go.Vm
open Go.RowKit Go.WideShapes
def Old (w:World) (b o:Nat):Prop:=(w.cell? ⟨b,o,none⟩).isSome=true
def RdCs (w:World):List Value->List Cl->Prop
 | [],[]=>True
 | u::us,c::cs=>RdD w (Old w) c u/\RdCs w us cs
 | _,_=>False
theorem RdCs.append {w:World}:∀ {us:List Value} {cs:List Cl} {us':List Value} {cs':List Cl},RdCs w us cs->RdCs w us' cs'->RdCs w (us++us') (cs++cs')
 | [],[],_,_,_,h=>h
 | _::_,_::_,_,_,h,h'=>⟨h.1,RdCs.append h.2 h'⟩
 | [],_::_,_,_,h,_=>h.elim
 | _::_,[],_,_,h,_=>h.elim
theorem RdCs.len {w:World}:∀ {us:List Value} {cs:List Cl},RdCs w us cs->us.length=cs.length
 | [],[],_=>rfl
 | _::_,_::_,h=>by simp[RdCs.len h.2]
 | [],_::_,h=>h.elim
 | _::_,[],h=>h.elim
theorem RdCs.at {w:World}:∀ {us:List Value} {cs:List Cl},RdCs w us cs->∀ (k:Nat) (c:Cl),cs[k]?=some c->∃ y,us[k]?=some y/\RdD w (Old w) c y
 | [],[],_,k,c,hk=>APZ
 | u::us,c0::cs,h,k,c,hk=>by
  cases k with
  | zero=>simp at hk; subst hk; exact⟨u,rfl,h.1⟩
  | succ k=>simpa using RdCs.at h.2 k c AOo
 | [],_::_,h,_,_,_=>h.elim
 | _::_,[],h,_,_,_=>h.elim
theorem RdCs.glue {w:World} {us:List Value} {o n m:Nat} {A B:List Cl} (hA:RdCs w ((us.drop o).take n) A) (hm:o+n=m) (hB:RdCs w (us.drop m) B):RdCs w (us.drop o) (A++B):=by subst hm;have:=hA.append hB;grind [List.drop_drop,List.take_append_drop]
theorem RdCs.last {w:World} {us:List Value} {o n:Nat} {A:List Cl} (hA:RdCs w ((us.drop o).take n) A) (hm:us.length=o+n):RdCs w (us.drop o) A:=by grind [aau]
theorem RdCs.agg {w:World} {us:Array Value} {cs:List Cl} (h:RdCs w us.toList cs):RdA w (Old w) (.agg cs) (.agg us):=
 ⟨us.toList,AOm,h.len,fun k c hk=>h.at k c hk⟩
theorem RdCs.one {w:World} {v:Value} {c:Cl} (h:RdCs w [v] [c]):RdD w (Old w) c v:=h.1
variable {H:Type} {enc:TypeId×Value->H} {P:Program} {w:World} {sp:Nat->Bool} {held:Bool}
theorem mapM_each {α β:Type} {f:α->Option β}:∀ {l:List α} {ys:List β},l.mapM f=some ys->∀ (j:Nat) (x:α),l[j]?=some x->∃ y,f x=some y
 | [],_,_,j,x,hj=>by simp at hj
 | a::l,ys,h,j,x,hj=>by
  rw[List.mapM_cons] at h;cases ha:f a with
  | none=>grind
  | some b =>
   cases hl:l.mapM f with
   | none=>grind
   | some bs =>
    cases j with
    | zero=>grind
    | succ j=>exact mapM_each hl j x AOo
theorem mapM_at {α β:Type} {f:α->Option β}:∀ {l:List α} {ys:List β},l.mapM f=some ys->∀ (j:Nat) (x:α),l[j]?=some x->∃ y,ys[j]?=some y/\f x=some y
 | [],_,_,j,x,hj=>by simp at hj
 | a::l,ys,h,j,x,hj=>by
  rw[List.mapM_cons] at h;cases ha:f a with
  | none=>grind
  | some b =>
   cases hl:l.mapM f with
   | none=>grind
   | some bs =>
    simp[ha,hl] at h
    subst h
    cases j with
    | zero=>grind
    | succ j=>simpa using mapM_at hl j x AOo
theorem AD_ {k:IntKind} {t:TypeId} (ht:P.underlying t=some (.int k)) {fuel:Nat} {cs:List Value} {y:DataW H×List MemPlace} (h:DataW.trod enc P w 0 sp held fuel t cs=some y) :
  ∃ n:Int,RdCs w cs [.v (.int k n)]:=by
 cases fuel with
 | zero=>simp[DataW.trod] at h
 | succ fuel =>
  unfold DataW.trod at h
  rw[ht] at h
  simp only at h
  split at h<;>simp_all
  rename_i k' n heq
  obtain⟨⟨rfl,hw⟩,_⟩:=h
  exact⟨n,⟨rfl,by simpa [Qv] using hw⟩,trivial⟩
theorem AFq {t:TypeId} (ht:P.underlying t=some .bool) {fuel:Nat} {cs:List Value} {y:DataW H×List MemPlace} (h:DataW.trod enc P w 0 sp held fuel t cs=some y) :
  ∃ n:Bool,RdCs w cs [.v (.bool n)]:=by
 cases fuel with
 | zero=>simp[DataW.trod] at h
 | succ fuel =>
  rcases cs with _ | ⟨c,_ | ⟨c2,cs⟩⟩
  .exact ANv
  .cases c with
   | bool b=>exact⟨b,⟨rfl,rfl⟩,trivial⟩
   | _=>simp[DataW.trod,ht] at h
  .exact ANv
theorem AB9 {t:TypeId} (ht:P.underlying t=some .string) {fuel:Nat} {cs:List Value} {y:DataW H×List MemPlace} (h:DataW.trod enc P w 0 sp held fuel t cs=some y) :
  ∃ n:ByteArray,RdCs w cs [.v (.string n)]:=by
 cases fuel with
 | zero=>simp[DataW.trod] at h
 | succ fuel =>
  rcases cs with _ | ⟨c,_ | ⟨c2,cs⟩⟩
  .exact ANv
  .cases c with
   | string b =>
    simp only[DataW.trod,ht] at h
    split at h
    .rename_i hb
     exact⟨b,⟨rfl,by simpa [Qv] using hb⟩,trivial⟩
    .cases h
   | _=>simp[DataW.trod,ht] at h
  .exact ANv
theorem AB_ {t:TypeId} {fs:Array Field} (ht:P.underlying t=some (.struct fs)) {fuel:Nat} {cs:List Value} {y:DataW H×List MemPlace} (h:DataW.trod enc P w 0 sp held (fuel+1) t cs=some y) :
  cs.length=P.cellsOf t/\∀ (j:Nat) (f:Field),fs.toList[j]?=some f->∃ y,DataW.trod enc P w 0 sp held fuel f.type ((cs.drop f.offset).take (P.cellsOf f.type))=some y:=by
 simp only[DataW.trod,ht] at h
 grind [aao,mapM_each]
theorem AEA {α:Type} {f:α->List Cl} {t e:TypeId} (ht:P.underlying t=some (.slice e)) {fuel:Nat} (hlen:∀ x,(f x).length=P.cellsOf e) (hpos:0<P.cellsOf e)
  (he:∀ (cs:List Value) (y:DataW H×List MemPlace),DataW.trod enc P w 0 sp held fuel e cs=some y->∃ x,RdCs w cs (f x))
  {cs:List Value} {y:DataW H×List MemPlace} (h:DataW.trod enc P w 0 sp held (fuel+1) t cs=some y):∃ xs:List α,RdCs w cs [.sl (xs.map f)]:=by
 rcases cs with _ | ⟨c,_ | ⟨c2,cs⟩⟩
 .exact ANv
 .cases c with
  | slice a len cap =>
   cases a with
   | none =>
    have:len=0/\cap=0:=by simp only[DataW.trod,ht] at h;split at h<;>simp_all
    obtain⟨rfl,rfl⟩:=this
    exact⟨[],⟨by simp only[RdD]; exact⟨none,0,rfl,AOm,by simp[maxLen],⟨0,AOm⟩,.inl rfl⟩,trivial⟩⟩
   | some a =>
    simp only[DataW.trod,ht] at h
    split at h
    .rename_i hb
     obtain⟨_,hlc,hcm⟩:=hb
     obtain⟨es,hes,_⟩:=Option.bind_eq_some_iff.1 h
     have hel:∀ i,i<len->∃ x:α,∃ vs:List Value,w.cells? 0 (a.add (i*P.cellsOf e)) (P.cellsOf e)=some vs/\RdCs w vs (f x):=by intro i hi;obtain⟨z,hz⟩:=mapM_each hes i i AQe;obtain⟨vs,hvs,hz⟩:=Option.bind_eq_some_iff.1 hz;obtain⟨x,hx⟩:=he vs z hz;exact⟨x,vs,hvs,hx⟩
     by_cases hz:len=0
     .subst hz
      exact⟨[],⟨by simp only[RdD]; exact⟨some a,cap,rfl,AOm,hcm,⟨0,AOm⟩,.inl rfl⟩,trivial⟩⟩
     .have hcell:∀ i,i<len->∀ k,k<P.cellsOf e->∃ u,w.cell? ((a.add (i*P.cellsOf e)).add k)=some u:=by
       intro i hi k hk
       obtain⟨x,vs,hvs,hx⟩:=hel i hi
       simp only[World.cells?,aq,aO] at hvs
       obtain⟨u,hu⟩:=mapM_each hvs k k (by simp[hk])
       exact⟨u,hu⟩
      have hspot:a.spot=none:=by
       obtain⟨u,hu⟩:=hcell 0 AOl 0 hpos
       simp only[Nat.zero_mul,Addr.add,aO] at hu
       unfold World.cell? at hu
       split at hu
       .simp_all
       .cases hu
      obtain⟨b,off,spot⟩:=a
      simp only at hspot
      subst hspot
      have hadd:∀ i,(⟨b,off,none⟩:Addr).add i=⟨b,off+i,none⟩:=by
       intro i; unfold Addr.add; split
       .grind
       .rfl
      simp only[hadd] at hel
      have hch:∃ g:Nat->α,∀ i,i<len->∃ vs:List Value,w.cells? 0 ⟨b,off+i*P.cellsOf e,none⟩ (P.cellsOf e)=some vs/\RdCs w vs (f (g i)):=by
       obtain⟨x0,_⟩:=hel 0 AOl
       refine⟨fun i=>if h:i<len then(hel i h).choose else x0,fun i hi=>?_⟩
       simp only[hi,dif_pos]
       exact(hel i hi).choose_spec
      obtain⟨g,hg⟩:=hch
      refine⟨(List.range len).map g,⟨?_,trivial⟩⟩
      simp only[RdD]
      refine⟨some ⟨b,off,none⟩,cap,AOm,AOo,hcm,⟨P.cellsOf e, ?_⟩,.inr ⟨b,off,rfl, ?_⟩⟩
      .grind
      .refine ADP (P.cellsOf e) ?_ fun i x hi=>?_
       .grind
       .have hil:i<len:=by
         rcases bh i len with h' | h'
         .exact h'
         .grind
        have hx:x=f (g i):=by simpa [hil] using hi.symm
        subst hx
        obtain⟨vs,hvs,hrd⟩:=hg i hil
        refine ACj fun j c hj=>?_
        obtain⟨u,hu,hc⟩:=hrd.at j c hj
        simp only[World.cells?,aq,aO] at hvs
        have hjl:j<P.cellsOf e:=by
         rw[<- hlen (g i)]
         rcases bh j (f (g i)).length with h' | h'
         .exact h'
         .grind
        obtain⟨u2,hu2,hcl⟩:=mapM_at hvs j j (by simp[hjl])
        rw[hu2] at hu
        simp only[ai] at hu
        subst hu
        have hadd2:(⟨b,off+i*P.cellsOf e,none⟩:Addr).add j=⟨b,off+i*P.cellsOf e+j,none⟩:=by
         unfold Addr.add; split
         .grind
         .rfl
        rw[hadd2] at hcl
        exact⟨by simp[Old,hcl],u2,hcl,hc⟩
    .cases h
  | _=>simp[DataW.trod,ht] at h
 .exact ANv
theorem Hw {α:Type} {f:α->List Cl} {t e:TypeId} {n:Nat} (ht:P.underlying t=some (.slice e)) (hn:P.cellsOf e=n) (hlen:∀ x,(f x).length=n) (hpos:0<n) {fuel:Nat}
  (he:∀ fuel',fuel'<fuel->∀ (cs:List Value) (y:DataW H×List MemPlace),DataW.trod enc P w 0 sp held fuel' e cs=some y->∃ x,RdCs w cs (f x))
  {cs:List Value} {y:DataW H×List MemPlace} (h:DataW.trod enc P w 0 sp held fuel t cs=some y):∃ xs:List α,RdCs w cs [.sl (xs.map f)]:=by
 subst hn
 cases fuel with
 | zero=>simp[DataW.trod] at h
 | succ fuel=>exact AEA ht hlen hpos (he fuel AOl) h
theorem EN {t:TypeId} {fs:Array Field} {n:Nat} (ht:P.underlying t=some (.struct fs)) (hn:P.cellsOf t=n) {fuel:Nat} {cs:List Value} {y:DataW H×List MemPlace} (h:DataW.trod enc P w 0 sp held fuel t cs=some y) :
  ∃ fuel',fuel'<fuel/\cs.length=n/\∀ (j:Nat) (f:Field),fs.toList[j]?=some f->∃ y,DataW.trod enc P w 0 sp held fuel' f.type ((cs.drop f.offset).take (P.cellsOf f.type))=some y:=by
 subst hn
 cases fuel with
 | zero=>simp[DataW.trod] at h
 | succ fuel=>exact⟨fuel,AOl,AB_ ht h⟩
theorem Old.lt {w:World} {b o:Nat} (h:Old w b o):b<w.heap.size:=by unfold Old World.cell? at h;grind
end Go.Vm
namespace Go.Vm
variable {P:Program} {w0:Bs} {St0 St:Nat->Nat->Prop} {β:Nat->Option Nat} {s t r:MS} {a:Act} {w:World}
theorem Core.reTell (h:Core w0 St0 St β s a w) (env':List (Nat×AV)) (st':List Ob)
  (hr:∀ l u,BQ w s.st β l u->BQ w st' β l u) (hp:∀ l i off u,AVR w St s.st β (.lp l i off) u->AVR w St st' β (.lp l i off) u)
  (henv:∀ i u,AVR w St st' β (CG s.env i) u->AVR w St st' β (CG env' i) u)
  (hst:∀ (l:Nat) (o':Ob),st'[l]?=some o'->o'.live=true->∃ o:Ob,s.st[l]?=some o/\o.live=true/\o'.ty=o.ty/\o'.sz=o.sz/\o'.wr=o.wr/\o'.xs.length=o.xs.length/\((∀ x∈o.xs,x.length=o.sz)->∀ x∈o'.xs,x.length=o.sz) /\
   ∀ (k:Nat) (c':Cl),o'.xs.flatten[k]?=some c'->∃ c,o.xs.flatten[k]?=some c/\(∀ u,RdB w St st' β c u->RdB w St st' β c' u)/\(HY c'=true->c=c')) :
  Core w0 St0 St β ⟨s.n,env',st'⟩ a w:=by
 have hA:∀ x u,AVR w St s.st β x u->AVR w St st' β x u:=fun x u hx=>AVR.mono (fun _ _ h=>h) (fun _ _ _=>rfl) hr hp x u hx
 have hB:∀ c u,RdB w St s.st β c u->RdB w St st' β c u:=fun c u hc=>RdB.mono (fun _ _ h=>h) (fun _ _ _=>rfl) hr c u hc
 exact {
  defers:=h.defers
  size:=h.size
  lim:=h.lim
  env:=fun i=>henv i _ (hA _ _ (h.env i))
  below:=h.below
  st0:=h.st0
  stOld:=h.stOld
  stIn:=h.stIn
  obs:=fun l o' b hl hlv hb=>by obtain⟨o,q1,q2,q3,q4,q5,q6,q7,q8⟩:=hst l o' hl hlv;obtain⟨p1,p2,cs,p3,p4,p5⟩:=h.obs l o b q1 q2 hb;refine⟨p1,p2,cs,AOo,AOo,fun k c' hk=>?_⟩;grind
  nil:=fun l o' hl hlv hb=>by obtain⟨o,q1,q2,q3,q4,q5,q6,q7,q8⟩:=hst l o' hl hlv;have:=h.nil l o q1 q2 hb;grind
  inj:=fun l l' o1 o2 b h1 h2 g1 g2 hb hb'=>by obtain⟨p1,q1,q2,_⟩:=hst l o1 h1 g1;obtain⟨p2,q3,q4,_⟩:=hst l' o2 h2 g2;exact h.inj l l' p1 p2 b q1 q3 q2 q4 hb hb'
  sep:=fun l o' b o hl hlv hb hs=>by obtain⟨p,q1,q2,q3,q4,q5,q6,q7,q8⟩:=hst l o' hl hlv;rw[q4,q5,q6];exact h.sep l p b o q1 q2 hb hs
  own:=h.own.move id (fun x hx=>⟨⟨hx.1,fun h=>h,hx.2.2.1,hx.2.2.2.1,fun l o' hl hlv=>by
    obtain⟨o,q1,q2,_⟩:=hst l o' hl hlv
    exact hx.2.2.2.2 l o q1 q2⟩,rfl⟩) (fun _ _ h=>h) (fun _ _ _=>rfl)
   (fun l o' b k c hl hlv hb hk hc=>by
    grind) (fun _ _ _ _ _ _ _ _ e=>e) }
def AKv:Cl:=.v (.slice none 0 0)
theorem Core.nilOb (h:Core w0 St0 St β s a w) (e n:Nat):∃ β',Core w0 St0 St β' ⟨s.n,s.env,s.st ++ [⟨e,n,[],true,true⟩]⟩ a w/\∀ u,RdC w St (s.st ++ [⟨e,n,[],true,true⟩]) β' AKv u->RdC w St (s.st ++ [⟨e,n,[],true,true⟩]) β' (.ref s.st.length) u:=by
 obtain⟨a1,a2,a3⟩:=h.addOb ⟨e,n,[],true,true⟩ none (fun _=>rfl) AOm h.own AOm;refine⟨_,a1,fun u hu=>?_⟩;have hu':u = .slice none 0 0:=by exact(O8 (St:=St) (w:=w) (v:=(.slice none 0 0:Value)) (u:=u) (by simp only[AVR]; exact hu)).1
 subst hu';have:=Nq (w:=w) (St:=St) (β:=fun l=>if l=s.st.length then none else β l) (st:=s.st) (ob:=⟨e,n,[],true,true⟩) (b:=none) (u:=.slice none 0 0) rfl AOm fun _=>⟨rfl,rfl⟩;simpa only[AVR] using this
theorem Head.trans (h1:Head s t) (h2:Head t r):Head s r:=⟨h2.1.trans h1.1,fun w0 St0 St β a w h=>by
 obtain⟨St',β',h'⟩:=h1.2 w0 St0 St β a w h;exact h2.2 w0 St0 St' β' a w h'⟩
theorem Head.rel (sel:List (Nat×Bool)) (keys:List Nat) (h:Ro sel keys s) (e:Go.Vm.rel sel keys s=t):Head s t:=⟨by rw[<- e]; rfl,fun w0 St0 St β a w hc=>⟨St,V3 sel β,by rw[<- e]; exact hc.rel h⟩⟩
theorem Head.abs (N l0:Nat) (keys:List Nat) (h:AB7 N l0 keys s t):Head s t:=by obtain⟨i,R,row,row',ob,⟨g1,g2,g3,g4,g5⟩,g6,⟨g7,g8⟩,g9⟩:=h;exact⟨by rw[<- g9],fun w0 St0 St β a w hc=>⟨St,β,by rw[<- g9]; exact hc.absTrim g1 g2 g3 g4 g5 g6 g7 g8⟩⟩
theorem Head.nilR (l j e n:Nat) (ob:Ob) (row:List Cl) (hob:s.st[l]?=some ob) (hrow:ob.xs = [row]) (h:row[j]?=some (.v (.slice none 0 0))):Head s ⟨s.n,s.env,s.st.set l ⟨ob.ty,ob.sz,[row.set j (.ref s.st.length)],ob.wr,ob.live⟩ ++ [⟨e,n,[],true,true⟩]⟩:=⟨rfl,fun w0 St0 St β a w hc=>by
 obtain⟨β',h1,h2⟩:=hc.nilOb e n;have hl:l<s.st.length:=(az.1 hob).1
 have hg:∀ (l2:Nat) (o2:Ob),(s.st.set l ⟨ob.ty,ob.sz,[row.set j (.ref s.st.length)],ob.wr,ob.live⟩ ++ [⟨e,n,[],true,true⟩])[l2]?=some o2->(l2=l/\o2=⟨ob.ty,ob.sz,[row.set j (.ref s.st.length)],ob.wr,ob.live⟩)\/(l2≠l/\(s.st ++ [(⟨e,n,[],true,true⟩:Ob)])[l2]?=some o2):=by
  intro l2 o2 h2;by_cases e1:l2=l
  .grind
  .grind
 have hg2:∀ (l2:Nat) (o2:Ob),(s.st ++ [(⟨e,n,[],true,true⟩:Ob)])[l2]?=some o2->∃ o3,(s.st.set l ⟨ob.ty,ob.sz,[row.set j (.ref s.st.length)],ob.wr,ob.live⟩ ++ [⟨e,n,[],true,true⟩])[l2]?=some o3/\o3.live=o2.live/\o3.sz=o2.sz/\o3.ty=o2.ty/\o3.xs.length=o2.xs.length:=by
  intro l2 o2 h2;by_cases e1:l2=l
  .grind
  .grind
 have hr:∀ (l2:Nat) (u:Value),BQ w (s.st ++ [⟨e,n,[],true,true⟩]) β' l2 u->BQ w (s.st.set l ⟨ob.ty,ob.sz,[row.set j (.ref s.st.length)],ob.wr,ob.live⟩ ++ [⟨e,n,[],true,true⟩]) β' l2 u:=by
  intro l2 u hu;unfold BQ at hu ⊢;cases hq:(s.st ++ [(⟨e,n,[],true,true⟩:Ob)])[l2]? with
  | none=>grind
  | some o2 =>
   grind
 refine⟨St,β',h1.reTell _ _ hr (fun l2 i off u hu=>?_) (fun i u hu=>hu) (fun l2 o' hl2 hlv=>?_)⟩
 .simp only[AVR] at hu ⊢;grind
 .rcases hg l2 o' hl2 with ⟨rfl,rfl⟩ | ⟨_,h3⟩
  .refine⟨ob,AOo,hlv,rfl,rfl,rfl,by simp[hrow],fun hx x hx2=>?_,fun k c' hk=>?_⟩
   .grind
   .simp only[XV,aaH,bc] at hk;rw[hrow];simp only[XV,aaH,bc];rw[wu] at hk;by_cases e1:j=k
    .subst e1;have hj:j<row.length:=(az.1 h).1;exact ANJ
    grind
  grind⟩
theorem LoopG.mk {s:MS} {body:MS->(MS->Prop)->Prop} {A:Type} (f:A->MS) (p:A->Prop) (μ:A->Nat) (x0:A) (h0:Head s (f x0)) (hp:p x0)
  (h:∀ x,p x->body (f x) fun s'=>∃ y,True/\Head s' (f y)/\p y/\μ y<μ x):LoopK s body:=
 ⟨fun _=>True,fun s t=>Head s t,A,f,p,μ,fun s t _ h=>h,⟨x0,trivial,h0,hp⟩,h⟩
def hasK (k:Nat):List Nat->Bool
 | []=>false
 | x::xs=>if x=k then true else hasK k xs
def AJp:Bool->Nat->List Nat->List Nat
 | true,_,l=>l
 | false,k,l=>k::l
def keysOf:List Nat->List (Nat×AV)->List Nat
 | _,[]=>[]
 | seen,(k,_)::r=>AJp (hasK k seen) k (keysOf (k::seen) r)
def AHc:List Nat->List (Nat×AV)->List (Nat×AV)
 | [],_=>[]
 | k::ks,e=>(k,CG e k)::AHc ks e
def V7 (dr:List Nat) (up:List (Nat×AV)) (s:MS) (st:List Ob):MS:=⟨s.n,AHc (keysOf dr s.env) (up++s.env),st⟩
attribute [go_sem] hasK AJp keysOf AHc V7
theorem AAe {s:MS} {body:MS->(MS->Prop)->Prop} (N:Nat) {A:Type} (up:A->List (Nat×AV)) (stf:A->List Ob) (p:A->Prop) (μ:A->Nat) (x0:A)
  (h0:QS N (keysOf [] s.env) s/\trim N (keysOf [] s.env) s=V7 [] (up x0) s (stf x0)/\p x0)
  (h:∀ x,p x->body (V7 [] (up x) s (stf x)) fun s'=>∃ y,QS N (keysOf [] s.env) s'/\trim N (keysOf [] s.env) s'=V7 [] (up y) s (stf y)/\p y/\μ y<μ x):LoopK s body:=
 ABf N (keysOf [] s.env) (fun x=>V7 [] (up x) s (stf x)) p μ x0 h0 h
theorem AAv {s:MS} {body:MS->(MS->Prop)->Prop} (dr:List Nat) {A:Type} (up:A->List (Nat×AV)) (stf:A->List Ob) (p:A->Prop) (μ:A->Nat) (x0:A)
  (h0:Head s (V7 dr (up x0) s (stf x0))) (hp:p x0)
  (h:∀ x,p x->body (V7 dr (up x) s (stf x)) fun s'=>∃ y,True/\Head s' (V7 dr (up y) s (stf y))/\p y/\μ y<μ x):LoopK s body:=
 LoopG.mk (fun x=>V7 dr (up x) s (stf x)) p μ x0 h0 hp h
theorem AAS (sel:List (Nat×Bool)) {n:Nat} {env:List (Nat×AV)} {st:List Ob} (h:Ro sel (env.map Prod.fst) s) (e:Go.Vm.rel sel (env.map Prod.fst) s=⟨n,env,st⟩):Head s ⟨n,env,st⟩:=Head.rel sel _ h e
theorem ABi (sel:List (Nat×Bool)) (N l0:Nat) {n:Nat} {env:List (Nat×AV)} {st:List Ob} (h:Ro sel (env.map Prod.fst) s) (h2:AB7 N l0 (env.map Prod.fst) (Go.Vm.rel sel (env.map Prod.fst) s) ⟨n,env,st⟩):Head s ⟨n,env,st⟩:=Head.trans (Head.rel sel _ h rfl) (Head.abs N l0 _ h2)
theorem Df {sel:List (Nat×Bool)} {xs:List (List Cl)} (h:DR xs=true):xs.map (fun x=>x.map (QT sel))=xs:=by
 conv=>rhs; rw[<- List.map_id xs]
 exact aaP fun x hx=>AGa (aC.1 h x hx)
theorem AX {N ty sz:Nat} {R:List (List Cl)} {wr live:Bool} (h:DR R=true):Aq N ⟨ty,sz,R,wr,live⟩=true:=by simp only[Aq,aaN];refine .inr (aC.2 fun x hx=>aC.2 fun c hc=>?_);have:=aC.1 (aC.1 h x hx) c hc;cases c<;>simp_all [Ij,JQ]
theorem all2 {N:Nat} {a b:Ob} (ha:Aq N a=true) (hb:Aq N b=true) : [a,b].all (Aq N)=true:=by simp[ha,hb]
theorem D5 {sel:List (Nat×Bool)} {xs:List (List Cl)} (h:DR xs=true):(xs.all fun x=>x.all (inC sel))=true:=aC.2 fun x hx=>AGb (aC.1 h x hx)
theorem Om (a:Value) (l:Nat):DR [[.v a,.ref l]]=false:=rfl
end Go.Vm
namespace Go.Vm
open Go.RowKit
variable {P:Program} {w0:Bs} {St0 St:Nat->Nat->Prop} {β:Nat->Option Nat} {s:MS} {a:Act} {w:World}
theorem Head.close (l0 i:Nat) (used:List Nat) {ob:Ob} {row row':List Cl} (hob:DF s.st l0=some ob) (hrw:ob.xs[i]?=some row) (hwr:ob.wr=true) (hl0:l0∉used)
  (ho:OwnL s.st row row' [l0] fun us=>∀ l∈us,l=l0\/l∈used):Head s ⟨s.n,s.env,Aa used l0 i row' ob s.st⟩:=⟨rfl,fun w0 St0 St β a w h=>⟨_,_,h.closeRow hob hrw hwr hl0 ho⟩⟩
theorem ACZ {P:Program} {s:MS} {f:FuncId} {args:List AV} {dst:Option Nat} {K:MS->Prop} {A B C:Prop} (y:AV) (st':List Ob) (h:InlS P f s.st args y st') (hk:K (MS.put ⟨s.n,s.env,st'⟩ dst y)):Ns A (Ns B (Ns C (InlK P f s args dst K))):=
 .inr (.inr (.inr ⟨h.1,fun w0 St0 St β a w us h1 h2=>(h.2 w0 St0 St β s a w us rfl h1 h2).mono fun e w' ⟨u,e1,St',β',q1,q2⟩=>⟨u,e1,⟨s.n,s.env,st'⟩,y,rfl,hk,St',β',q1,q2⟩⟩))
theorem EndH.self {P:Program} {s:MS} {vars:List ResultVar} {rs:List Res} (hp:Post P vars rs s):EndH P vars rs .ret s:=⟨s,⟨rfl,fun _ _ _ _ _ _ h=>⟨_,_,h⟩⟩,hp⟩
theorem EndH.close {P:Program} {s:MS} {vars:List ResultVar} {rs:List Res} (l0 i:Nat) (used:List Nat) {ob:Ob} {row row':List Cl} (hob:DF s.st l0=some ob) (hrw:ob.xs[i]?=some row) (hwr:ob.wr=true) (hl0:l0∉used)
  (ho:OwnL s.st row row' [l0] fun us=>∀ l∈us,l=l0\/l∈used) (hk:EndH P vars rs .ret ⟨s.n,s.env,Aa used l0 i row' ob s.st⟩):EndH P vars rs .ret s:=by
 obtain⟨t,h1,h2⟩:=hk
 exact⟨t,(Head.close l0 i used hob hrw hwr hl0 ho).trans h1,h2⟩
attribute [go_sem] Yf
end Go.Vm
namespace Go.Proofs.YtdagmocgcanknaaGreat
open Go.Vm Go.RowKit
theorem TP {n:Nat}:∀ (L:List (List Cl)) (m:Nat),(∀ x∈L,x.length=n)->(L.take m).flatten=L.flatten.take (m*n)/\(L.drop m).flatten=L.flatten.drop (m*n)
 | [],m,_=>AOm
 | x::L,0,_=>AOm
 | x::L,m+1,h=>by
  obtain⟨h1,h2⟩:=TP L m fun y hy=>h y (abg _ hy);have hx:x.length=n:=h x (List.mem_cons_self ..);have e:(m+1)*n=x.length+m*n:=by rw[hx,dE,Nat.one_mul,Nat.add_comm]
  simp only[aba,List.drop_succ_cons,XV,h1,h2,e,List.take_length_add_append,List.drop_length_add_append];exact⟨trivial,trivial⟩
end Go.Proofs.YtdagmocgcanknaaGreat
namespace Go.Vm
open Go.RowKit
variable {P:Program} {w0:Bs} {St0 St:Nat->Nat->Prop} {β:Nat->Option Nat} {s:MS} {a:Act} {w:World} {st:List Ob}
def o8 (st:List Ob) (c d:Cl):Prop:=(∃ l ob,c = .ref l/\DF st l=some ob/\DR ob.xs=true/\d = .sl (Qq ob.xs))\/(Ij c=true/\d=er c)
def BorR (st:List Ob):List Cl->List Cl->Prop
 | [],[]=>True
 | c::cs,d::ds=>o8 st c d/\BorR st cs ds
 | _,_=>False
def BorX (st:List Ob) (c d:Cl):Prop:=Xf st c=some d\/∃ l ob ys,c = .ref l/\DF st l=some ob/\d = .sl ys/\ys.length=ob.xs.length/\∀ (i:Nat) x y,ob.xs[i]?=some x->ys[i]?=some y->BorR st x y
def BorL (st:List Ob):List Cl->List Cl->Prop
 | [],[]=>True
 | c::cs,d::ds=>BorX st c d/\BorL st cs ds
 | _,_=>False
def AJq (st:List Ob):AV->AV->Prop
 | .c c,.c d=>BorX st c d
 | .agg cs,.agg ds=>BorL st cs ds
 | _,_=>False
def AAn (st:List Ob):List AV->List AV->Prop
 | [],[]=>True
 | x::xs,y::ys=>AJq st x y/\AAn st xs ys
 | _,_=>False
theorem BorR.at:∀ {cs ds:List Cl},BorR st cs ds->cs.length=ds.length/\∀ (k:Nat) (d:Cl),ds[k]?=some d->∃ c,cs[k]?=some c/\o8 st c d
 | [],[],_=>⟨rfl,fun k d h=>APN⟩
 | c::cs,d::ds,h=>by obtain⟨q1,q2⟩:=BorR.at h.2;exact AMB
 | [],_::_,h=>h.elim
 | _::_,[],h=>h.elim
theorem BorL.at:∀ {cs ds:List Cl},BorL st cs ds->cs.length=ds.length/\∀ (k:Nat) (d:Cl),ds[k]?=some d->∃ c,cs[k]?=some c/\BorX st c d
 | [],[],_=>⟨rfl,fun k d h=>APN⟩
 | c::cs,d::ds,h=>by obtain⟨q1,q2⟩:=BorL.at h.2;exact AMB
 | [],_::_,h=>h.elim
 | _::_,[],h=>h.elim
section
variable {φ:Nat->Nat->Nat->Prop}
theorem AAo (h:Core w0 St0 St β s a w) (hφ:Vl w0 w St s.st β φ) {c d:Cl} (hc:BorX s.st c d) {u:Value} (hu:RdC w St s.st β c u):RdD w (AllSt w St s.st β φ) d u:=by
 rcases hc with hc | ⟨l,ob,ys,rfl,hob,rfl,hlen,hrows⟩
 .exact Zb h hφ hc hu
 obtain⟨hl,hlive⟩:=Bo hob;have hu:BQ w s.st β l u:=by simpa only[RdC] using hu
 simp only[BQ,hl] at hu;have hx2:=hu.2 hlive;simp only[RdD];cases hβ:β l with
 | none =>
  simp only[hβ] at hx2
  obtain⟨rfl,hn⟩:=hx2
  have:ys = []:=aam (by rw[hlen,hn]; rfl)
  subst this
  exact⟨none,0,rfl,aG _,aq _,⟨0,AOm⟩,.inl rfl⟩
 | some b =>
  simp only[hβ] at hx2
  obtain⟨cap,cs,e1,e2,e3,e4,e5⟩:=hx2
  obtain⟨_,_,cs',g1,g2,g3⟩:=h.obs l ob b hl hlive hβ
  rw[e4] at g1
  simp only[ai,Obj.cells.injEq,yH] at g1
  subst g1
  have hrow:∀ (i:Nat) y,ys[i]?=some y->∃ x,ob.xs[i]?=some x/\x.length=ob.sz/\BorR s.st x y:=fun i y hy=>by
   have hi:i<ob.xs.length:=by rw[<- hlen]; exact(az.1 hy).1
   exact⟨ob.xs[i],am hi,g2 _ (an hi),hrows i _ _ (am hi) hy⟩
  have hw:∀ y∈ys,y.length=ob.sz:=fun y hy=>by obtain⟨i,hi⟩:=List.getElem?_of_mem hy;obtain⟨x,_,h2,h3⟩:=hrow i y hi;rw[<- h3.at.1,h2]
  refine⟨some ⟨b,0,none⟩,cap,by rw[e1,hlen],by rw[hlen]; exact e2,e3,⟨ob.sz,hw⟩,.inr ⟨b,0,rfl,ADP ob.sz hw fun i y hi=>ACj fun j d hj=>?_⟩⟩
  obtain⟨x,hx,hxl,hb⟩:=hrow i y hi
  obtain⟨c,hc,hcd⟩:=hb.at.2 j d hj
  have hk:=F6 g2 i j x c hx hc
  obtain⟨v,hv,hr⟩:=g3 _ c hk
  refine⟨.inr ⟨l,ob,hl,hlive,.inl hβ⟩,v,by simp only[World.cell?,e4,nY]; exact hv, ?_⟩
  rcases hcd with ⟨l2,ob2,rfl,hob2,hnr,rfl⟩ | ⟨hnr,rfl⟩
  .have hr2:BQ w s.st β l2 v:=by simpa only[RdB,RdC] using hr
   have:=RdO.frz _ _ _ (yN h hφ hob2 hnr hr2)
   simp only[er] at this
   exact RdD.mono (fun b o hbo=>by
    rcases hbo with hbo | hbo
    .exact .inl hbo
    .exact .inr ⟨l2,hbo⟩) (fun _ _ _=>rfl) _ _ this
  .cases ho:HY c with
   | true =>
    obtain⟨u2,hu2,hro⟩:=hφ.1 l ob b _ c hl hlive hβ hk ho
    have e:u2=v:=by simp only[World.cell?,e4,Option.isSome_none,ax,aL] at hu2;rw[hv] at hu2;exact(uG hu2).symm
    subst e
    exact RdD.mono (fun b o hbo=>by
     rcases hbo with hbo | hbo
     .exact .inl hbo
     .exact .inr ⟨l,ob,hl,hlive,.inr ⟨_,hbo⟩⟩) (fun _ _ _=>rfl) _ _ (RdO.frz _ _ _ hro)
   | false =>
    have hrc:=hr.toC ho
    cases c with
    | ref l=>simp[Ij] at hnr
    | v x=>simp only[er]; exact RdD.mono (fun _ _ h=>.inl h) (fun _ _ _=>rfl) _ _ (by simpa only[RdC] using hrc)
    | sl x=>simp only[er]; exact RdD.mono (fun _ _ h=>.inl h) (fun _ _ _=>rfl) _ _ (by simpa only[RdC] using hrc)
    | ow ty sz x=>simp[HY] at ho
theorem dm (h:Core w0 St0 St β s a w) (hφ:Vl w0 w St s.st β φ):∀ {xs ys:List AV},AAn s.st xs ys->∀ {us:List Value},AVRs w St s.st β xs us->RdAs w (AllSt w St s.st β φ) ys us
 | [],[],_,us,hu=>by simp only[AVRs] at hu;exact hu
 | x::xs,y::ys,hx,us,hu=>by
  simp only[AVRs] at hu;obtain⟨v,vs,e,g1,g2⟩:=hu;refine⟨v,vs,e, ?_,dm h hφ hx.2 g2⟩;have hx:=hx.1;cases x<;>cases y<;>simp only[AJq] at hx
  .simp only[AVR] at g1;exact AAo h hφ hx g1
  .simp only[AVR] at g1;obtain⟨us,e1,e2,e3⟩:=g1;obtain⟨q1,q2⟩:=hx.at;refine⟨us,e1,by rw[<- q1,e2],fun k d hk=>?_⟩;obtain⟨c,hc,hcd⟩:=q2 k d hk;obtain⟨y,hy,hr⟩:=e3 k c hc;exact⟨y,hy,AAo h hφ hcd hr⟩
 | [],_::_,h,_,_=>h.elim
 | _::_,[],h,_,_=>h.elim
end
theorem InlK.bor {f:FuncId} {args:List AV} {dst:Option Nat} {K:MS->Prop} {A B C:Prop} {args':List AV} (rs:List Res) (hx:AAn s.st args args') (hc:rs.all EH=true) (h:Ctr P f args' rs) (hk:ZA rs->ABx s dst K s.st rs) :
  Ns A (Ns B (Ns C (InlK P f s args dst K))):=.inr (.inr (.inr ⟨h.1,fun w0 St0 St β a w us h1 h2=>by
 obtain⟨φ,hφ⟩:=h1.own
 refine(h.2 w _ us (fun b o hb=>AllSt.lt h1 hφ hb) (dm h1 hφ hx h2)).mono fun e w' hb=>?_
 obtain⟨vs,bs,St2,hb⟩:=hb
 have hb:=hb.clo hc h1.stIn
 obtain⟨β',k1,k2⟩:=Rj h1 hb
 have hwf:ZA rs:=by obtain⟨Φs,hr,_⟩:=hb.res;exact hr.wf
 have e1:=hb.ret
 exact⟨_,e1,⟨s.n,s.env,(JE s.st rs).2⟩,retA (JE s.st rs).1,rfl,hk hwf,St,β',k1,Lj k2⟩⟩))
theorem InlS.bor {f:FuncId} {args args':List AV} (rs:List Res) (hx:AAn st args args') (hc:rs.all EH=true) (h:Ctr P f args' rs):InlS P f st args (retA (JE st rs).1) (JE st rs).2:=⟨h.1,fun w0 St0 St β s a w us hst h1 h2=>by
 subst hst;obtain⟨φ,hφ⟩:=h1.own;refine(h.2 w _ us (fun b o hb=>AllSt.lt h1 hφ hb) (dm h1 hφ hx h2)).mono fun e w' hb=>?_;obtain⟨vs,bs,St2,hb⟩:=hb;have hb:=hb.clo hc h1.stIn;obtain⟨β',k1,k2⟩:=Rj h1 hb;exact⟨_,hb.ret,St,β',k1,Lj k2⟩⟩
theorem BorX.set {α:Type} {f g:α->List Cl} {xs:List α} {n l ty sz:Nat} {row:List Cl} {wr live:Bool} (hob:DF st l=some ⟨ty,sz,(xs.map f).set n row,wr,live⟩) (hnr:∀ x,(f x).all Ij=true) (her:∀ x,Kq (f x)=g x)
  (hrow:∀ x,xs[n]?=some x->BorR st row (g x)):BorX st (.ref l) (.sl (xs.map g)):=by
 have gen:∀ r:List Cl,r.all Ij=true->BorR st r (Kq r):=by
  intro r;induction r with
  | nil=>intro _; simp only[Kq,BorR]
  | cons c r ih =>
   intro h
   simp only[aI,ar] at h
   rw[Kq]
   exact⟨.inr ⟨h.1,rfl⟩,ih h.2⟩
 refine .inr ⟨l,_,_,rfl,hob,rfl,AOm,fun i x y hx hy=>?_⟩
 simp only[nX,aao] at hy
 obtain⟨z,hz,rfl⟩:=hy
 rw[wu] at hx
 by_cases e:n=i
 .subst e
  have hn:n<xs.length:=(az.1 hz).1
  simp only[aa,hn,aO,ai] at hx
  subst hx
  exact hrow z hz
 .simp only[e,aL,nX,hz,bi,ai] at hx
  subst hx
  rw[<- her]
  exact gen _ (hnr z)
def openR (l i:Nat):Nat->Nat->List Ob->List Ob
 | 0,_,st=>st
 | n+1,off,st=>match DF st l with
  | some ob=>if ob.wr=true then match ob.xs[i]? with
   | some row=>match row[off]? with
    | some (.ow ty sz xs)=>openR l i n (off+1) (CV st l i off ob row ty sz xs)
    | _=>openR l i n (off+1) st
   | none=>st
   else st
  | none=>st
theorem Head.openR (l i:Nat):∀ (n off:Nat) (s:MS),Head s ⟨s.n,s.env,Go.Vm.openR l i n off s.st⟩
 | 0,_,s=>⟨rfl,fun _ _ _ _ _ _ h=>⟨_,_,h⟩⟩
 | n+1,off,s=>by
  rw[Go.Vm.openR];split
  .rename_i ob hob;split
   .rename_i hwr;split
    .rename_i row hrow;split
     .rename_i ty sz xs hc;refine Head.trans (t:=⟨s.n,s.env,CV s.st l i off ob row ty sz xs⟩) ⟨rfl,fun w0 St0 St β a w h=>?_⟩ (Head.openR l i n (off+1) _);obtain⟨b,u,β',_,_,hcore,_⟩:=h.openCell hob hwr hrow hc;exact⟨_,_,hcore⟩
     .exact Head.openR l i n (off+1) s
    .exact⟨rfl,fun _ _ _ _ _ _ h=>⟨_,_,h⟩⟩
   .exact⟨rfl,fun _ _ _ _ _ _ h=>⟨_,_,h⟩⟩
  .exact⟨rfl,fun _ _ _ _ _ _ h=>⟨_,_,h⟩⟩
theorem EndH.openR {vars:List ResultVar} {rs:List Res} (l i n:Nat) (hk:EndH P vars rs .ret ⟨s.n,s.env,Go.Vm.openR l i n 0 s.st⟩):EndH P vars rs .ret s:=by obtain⟨t,h1,h2⟩:=hk;exact⟨t,(Head.openR l i n 0 s).trans h1,h2⟩
theorem DrawK.headD {l:List Oper} {t:MS} {K:MS->Prop} (hh:Head s t) (hok:FY s.n l.toArray=true) (hops:(l.all fun o=>o.op.operands.toList.all Ap)=true) (h:vpD P l.toArray K l t):DrawK P l.toArray s K:=AEY fun w0 St0 St β a w hc=>by obtain⟨St',β',hc'⟩:=hh.2 w0 St0 St β a w hc;have:=Ya (by rw[hh.1]; exact hok) hops hc' h;rwa [hh.1] at this
theorem DrawK.headE {x:Option (Nat×Nat)} {l:List Oper} {t:MS} {K:MS->Prop} (hh:Head s t) (hok:FY s.n l.toArray=true) (hops:(l.all fun o=>o.op.operands.toList.all Ap)=true) (h:vpE P x l.toArray K l 0 [(0,t.st)] [] t) (hx:yZ l.toArray x=true:=by rfl):DrawK P l.toArray s K:=AEY fun w0 St0 St β a w hc=>by obtain⟨St',β',hc'⟩:=hh.2 w0 St0 St β a w hc;have:=V5 hx (by rw[hh.1]; exact hok) hops hc' h;rwa [hh.1] at this
end Go.Vm
namespace Go.Proofs.YtdagmocgcanknaaGreat

end Go.Proofs.YtdagmocgcanknaaGreat
namespace Go.Vm
open Go.RowKit
variable {P:Program} {w0:Bs} {St0 St:Nat->Nat->Prop} {β:Nat->Option Nat} {s t:MS} {a:Act} {w:World} {st:List Ob}
theorem AEB {c:Cl} {u:Value} (h:RdC w St st β c u):JQ st.length c=true:=by
 cases c with
 | ref l =>
  have h:BQ w st β l u:=h
  unfold BQ at h
  exact ANr
 | _=>rfl
mutual
theorem o9:∀ (x:AV) (u:Value),AVR w St st β x u->JR st.length x=true
 | .c x,u,h=>by simp only[AVR] at h; exact AEB h
 | .agg xs,u,h=>by simp only[AVR] at h;obtain⟨us,_,_,h⟩:=h;simp only[JR];refine aC.2 fun c hc=>?_;obtain⟨k,hk⟩:=List.getElem?_of_mem hc;obtain⟨y,_,hy⟩:=h k c hk;exact AEB hy
 | .lp l i off,u,h=>by simp only[AVR] at h;exact ANr
 | .ip xs,u,_=>rfl
 | .tup xs,u,h=>by simp only[AVR] at h;obtain⟨us,_,h⟩:=h;exact AAp xs us h
 | .undef,u,_=>rfl
 | .un,u,_=>rfl
 | .pin x u0,u,h=>by simp only[AVR] at h;exact o9 x u h.2
 | .clo f xs,u,_=>rfl
 | .vw x i n m,u,h=>by simp only[AVR] at h;obtain⟨_,_,_,_,_,_,_,h⟩:=h;exact o9 x _ h
theorem AAp:∀ (xs:List AV) (us:List Value),AVRs w St st β xs us->TR st.length xs=true
 | [],us,_=>rfl
 | x::xs,us,h=>by simp only[AVRs] at h;obtain⟨y,ys,_,h2,h3⟩:=h;simp only[TR,ar];exact⟨o9 x y h2,AAp xs ys h3⟩
end
theorem Core.cut (h:Core w0 St0 St β s a w) {N:Nat} (t1:∀ i,JR N (CG s.env i)=true) (t2:((s.st.take N).all (Aq N))=true):Core w0 St0 St β ⟨s.n,s.env,s.st.take N⟩ a w:=by
 have hg:∀ l ob,(s.st.take N)[l]?=some ob->s.st[l]?=some ob:=fun l ob hl=>by
  rw[aaC] at hl;split at hl
  .exact hl
  .cases hl
 exact {
  defers:=h.defers
  size:=h.size
  lim:=h.lim
  env:=fun i=>Rt _ _ (t1 i) (h.env i)
  below:=h.below,st0:=h.st0,stOld:=h.stOld,stIn:=h.stIn
  obs:=fun l ob b hl hlive hβ=>by exact AK9
  nil:=fun l ob hl=>h.nil l ob (hg l ob hl)
  inj:=fun l l' ob ob' b h1 h2=>h.inj l l' ob ob' b (hg l ob h1) (hg l' ob' h2)
  sep:=fun l ob b o hl=>h.sep l ob b o (hg l ob hl)
  own:=h.own.move id (fun x hx=>⟨⟨hx.1,hx.2.1,hx.2.2.1,hx.2.2.2.1,fun l ob hl=>hx.2.2.2.2 l ob (hg l ob hl)⟩,rfl⟩) (fun _ _ h=>h) (fun _ _ _=>rfl)
   (fun l ob b k c h1 h2 h3 h4 _=>⟨ob,b,hg l ob h1,h2,h3,h4,rfl⟩) (fun _ _ _ _ _ _ _ _ e=>e) }
def yz:AV->Bool
 | .c (.v (.bool _))=>true
 | .tup []=>true
 | _=>false
theorem kR {y:AV} (hp:yz y=true) {St':Nat->Nat->Prop} {st st':List Ob} {β':Nat->Option Nat} {w':World} {u:Value} (h:AVR w St st β y u):AVR w' St' st' β' y u:=by
 cases y with
 | c c =>
  cases c with
  | v x =>
   cases x with
   | bool b=>simpa only[AVR,RdC,RdD] using h
   | _=>cases hp
  | _=>cases hp
 | tup xs =>
  cases xs with
  | nil=>simpa only[AVR,AVRs] using h
  | cons x xs=>cases hp
 | _=>cases hp
def inlT (st':List Ob) (env:List (Nat×AV)) (r x:AV) (t:MS):Prop:=x=r/\t.env=env/\∃ t2,Head t t2/\t2.env=t.env/\t2.st.take st'.length=st'
theorem inlT.head {st':List Ob} {env:List (Nat×AV)} {r x:AV} {t t2:MS} (h:Head t t2) (he:t2.env=t.env) (hk:inlT st' env r x t2):inlT st' env r x t:=by
 obtain⟨h1,h2,t3,h3,h4,h5⟩:=hk
 exact⟨h1,he▸h2,t3,⟨h3.1.trans h.1,fun w0 St0 St β a w hc=>by
  obtain⟨_,_,hc⟩:=h.2 w0 St0 St β a w hc;exact h3.2 _ _ _ _ _ _ hc⟩,h4.trans he,h5⟩
theorem inlT.self {st':List Ob} {env:List (Nat×AV)} {r x:AV} {t:MS} (h1:x=r) (h2:t.env=env) (h3:t.st.take st'.length=st'):inlT st' env r x t:=⟨h1,h2,t,⟨rfl,fun _ _ _ _ _ _ h=>⟨_,_,h⟩⟩,rfl,h3⟩
theorem AEX {f:FuncId} {fn:Func} {c:Code} {args:List AV} {st st':List Ob} {y:AV} (hin:CallsIn P f) (hf:P.funcs[f]?=some fn) (hb:fn.body=some c) (hm:P.follows .mixedOrders=true) {n:Nat} (hn:fn.ntmps=n) {vars:Array ResultVar} (hvars:fn.results=vars) (hc:codeOk n c=true)
  (hlen0:(Nat.ble args.length n&&Nat.ble n 1000000)=true) (hlen:st.length=st'.length) (hp:yz y=true) (hno:st'.all (Aq st'.length)=true) (st1:List Ob) (hh:∀ (m:Nat) (env:List (Nat×AV)),Head ⟨m,env,st⟩ ⟨m,env,st1⟩)
  (h:∀ (m:Nat) (env:List (Nat×AV)),vp P c ⟨n,Xn args 0 (yl env),st1⟩ (MR P vars.toList m (inlT st' env y))):InlS P f st args y st':=
 ⟨hin,fun w0 St0 St β s a w us hst hcore hargs=>by
  subst hst;refine(TS hf hb hm hn hvars hc hlen0 ⟨st1,hh _ _,h s.n s.env⟩ hcore hargs).mono fun e w' hx=>?_;obtain⟨u,e1,t,x,q1,⟨rfl,q2,t2,q3,q4,q5⟩,St',β',q6,q7⟩:=hx;obtain⟨St2,β2,q8⟩:=q3.2 _ _ _ _ _ _ q6;have q9:=q8.cut (N:=st'.length) (fun i=>by rw[q4,q2,<- hlen]; exact o9 _ _ (hcore.env i)) (by rw[q5]; exact hno);have e2:(⟨t2.n,t2.env,t2.st.take st'.length⟩:MS)=⟨s.n,s.env,st'⟩:=by rw[q5,q4,q2,q3.1,q1]
  rw[e2] at q9;exact⟨u,e1,St2,β2,q9,kR hp q7⟩⟩
theorem AFr {l0 i:Nat} {used:List Nat} {ob:Ob} {row':List Cl} (hob:DF s.st l0=some ob):∀ (x:AV) (u:Value),AVR w St s.st β x u->AVR w St (Aa used l0 i row' ob s.st) β x u:=by
 obtain⟨hl,_⟩:=Bo hob
 have hmk:∀ (l:Nat) (o2:Ob),s.st[l]?=some o2->∃ o3,(Aa used l0 i row' ob s.st)[l]?=some o3/\(o3.live=true->o2.live=true)/\o3.sz=o2.sz/\o3.ty=o2.ty/\o3.xs.length=o2.xs.length/\(o2.xs = []->o3.xs = []):=by
  intro l o2 h2;have hlt:l<s.st.length:=(az.1 h2).1;unfold Aa;rw[dZ,wu];by_cases e:l0=l
  .subst e;rw[h2] at hl;cases hl;simp only[aO,hlt,bi];split<;>simp_all
  .simp only[e,aL,h2,bi];split<;>simp_all
 refine AVR.mono (fun _ _ h=>h) (fun _ _ _=>rfl) (fun l u hu=>?_) (fun l i2 off u hu=>?_)
 .unfold BQ at hu ⊢;cases hq:s.st[l]? with
  | none=>rw[hq] at hu; exact hu.elim
  | some o2 =>
   obtain⟨o3,h1,h2,h3,h4,h5,h6⟩:=hmk l o2 hq
   simp only[hq] at hu
   simp only[h1]
   refine⟨hu.1,fun hlv=>?_⟩
   have hu2:=hu.2 (h2 hlv)
   cases hβ:β l with
   | none=>simp only[hβ] at hu2 ⊢; exact⟨hu2.1,h6 hu2.2⟩
   | some b =>
    simp only[hβ] at hu2 ⊢
    obtain⟨cap,cs,e1,e2,e3,e4,e5⟩:=hu2
    exact⟨cap,cs,by rw[h5]; exact e1,by rw[h5]; exact e2,e3,by rw[h4]; exact e4,by rw[h3]; exact e5⟩
 .simp only[AVR] at hu ⊢;cases hq:s.st[l]? with
  | none=>rw[hq] at hu; exact hu.elim
  | some o2 =>
   obtain⟨o3,h1,h2,h3,h4,h5,h6⟩:=hmk l o2 hq
   grind
theorem u_ {l0 i:Nat} {used:List Nat} {ob:Ob} {row':List Cl} (hob:DF s.st l0=some ob):∀ (xs:List AV) (us:List Value),AVRs w St s.st β xs us->AVRs w St (Aa used l0 i row' ob s.st) β xs us
 | [],us,h=>APr
 | x::xs,us,h=>by simp only[AVRs] at h ⊢;obtain⟨y,ys,h1,h2,h3⟩:=h;exact⟨y,ys,h1,AFr hob x y h2,u_ hob xs ys h3⟩
theorem InlK.mkC {f:FuncId} {args:List AV} {dst:Option Nat} {K:MS->Prop} {A B C:Prop} (sel:List (Nat×Bool)) (l0 i:Nat) (used keys:List Nat) {ob:Ob} {row row':List Cl} (hob:DF s.st l0=some ob) (hrw:ob.xs[i]?=some row) (hwr:ob.wr=true) (hl0:l0∉used)
  (ho:OwnL s.st row row' [l0] fun us=>∀ l∈us,l=l0\/l∈used) (ht:Ro sel keys ⟨s.n,s.env,Aa used l0 i row' ob s.st⟩) (hargs:ADw sel args=true) {y:AV} {st1 st' st2:List Ob} (e1:PY sel (Aa used l0 i row' ob s.st) sel=st1)
  (h:InlS P f st1 (ABy sel args) y st') (hp:yz y=true) (hh:∀ env,Head ⟨s.n,env,st'⟩ ⟨s.n,env,st2⟩)
  (hk:K (MS.put ⟨s.n,keys.map fun k=>(k,uk sel (CG s.env k)),st2⟩ dst y)):Ns A (Ns B (Ns C (InlK P f s args dst K))):=
 .inr (.inr (.inr ⟨h.1,fun w0 St0 St β a w us hc hA=>by
  have h1:=(hc.closeRow hob hrw hwr hl0 ho).rel ht;refine(h.2 w0 St0 St _ _ a w us e1 h1 (by rw[<- e1]; exact yg ht.2.2 _ _ hargs (u_ hob _ _ hA))).mono fun e w' hx=>?_;obtain⟨u,q0,St',β',q1,q2⟩:=hx;obtain⟨St2,β2,q3⟩:=(hh _).2 _ _ _ _ _ _ q1;exact⟨u,q0,⟨s.n,_,st2⟩,y,rfl,hk,St2,β2,q3,kR hp q2⟩⟩))
theorem Head.openS (l i k:Nat) {n:Nat} {env:List (Nat×AV)} {st:List Ob}:Head ⟨n,env,st⟩ ⟨n,env,Go.Vm.openR l i k 0 st⟩:=Head.openR l i k 0 ⟨n,env,st⟩
theorem ACh {f:FuncId} {fn:Func} {c:Code} {args:List AV} {dst:Option Nat} {K:MS->Prop} {A B C:Prop} (hin:CallsIn P f) (hf:P.funcs[f]?=some fn) (hb:fn.body=some c) (hm:P.follows .mixedOrders=true) {n:Nat} (hn:fn.ntmps=n) {vars:Array ResultVar} (hvars:fn.results=vars) (hc:codeOk n c=true)
  (hlen0:(Nat.ble args.length n&&Nat.ble n 1000000)=true) (st1:List Ob) (hh:∀ env,Head ⟨n,env,s.st⟩ ⟨n,env,st1⟩) (h:vp P c ⟨n,Xn args 0 (yl s.env),st1⟩ (MR P vars.toList s.n (AHQ dst K))):Ns A (Ns B (Ns C (InlK P f s args dst K))):=
 .inr (.inr (.inr ⟨hin,fun w0 St0 St β a w us hcore hargs=>TS hf hb hm hn hvars hc hlen0 ⟨st1,hh _,h⟩ hcore hargs⟩))
def unA:List Nat->List (Nat×AV)->List (Nat×AV)
 | [],E=>E
 | k::ks,E=>(k,.un)::unA ks E
attribute [go_sem] unA
theorem vC {E:List (Nat×AV)} {i:Nat}:∀ (l:List Nat),CG (unA l E) i=if hasK i l=true then .un else CG E i
 | []=>by simp[unA,hasK]
 | k::ks=>by
  simp only[unA,CG,hasK,vC ks];by_cases e:k=i
  .subst e; simp
  .have e2:¬ i=k:=fun h=>e h.symm;simp[e,e2]
theorem Head.env {n:Nat} {env env':List (Nat×AV)} {st:List Ob} (h:∀ i,CG env' i = .un\/CG env' i=CG env i):Head ⟨n,env,st⟩ ⟨n,env',st⟩:=⟨rfl,fun w0 St0 St β a w hc=>⟨St,β,{
 defers:=hc.defers,size:=hc.size,lim:=hc.lim
 env:=fun i=>by
  rcases h i with e | e
  .show AVR w St st β (CG env' i) _;rw[e]; simp only[AVR]
  .show AVR w St st β (CG env' i) _;rw[e]; exact hc.env i
 below:=hc.below,st0:=hc.st0,stOld:=hc.stOld,stIn:=hc.stIn,obs:=hc.obs,nil:=hc.nil,inj:=hc.inj,sep:=hc.sep,own:=hc.own }⟩⟩
theorem LoopN.mk {n k:Nat} {v:AV} {E:List (Nat×AV)} {st:List Ob} {body:MS->(MS->Prop)->Prop} (junk:List Nat) {A:Type} (up:A->AV) (stf:A->List Ob) (p:A->Prop) (μ:A->Nat) (x0:A) (h0:v=up x0/\st=stf x0/\p x0)
  (h:∀ x,p x->body ⟨n,(k,up x)::unA junk E,stf x⟩ fun s'=>∃ y,True/\Head s' ⟨n,(k,up y)::unA junk E,stf y⟩/\p y/\μ y<μ x):LoopK ⟨n,(k,v)::E,st⟩ body:=by
 obtain⟨rfl,rfl,hp⟩:=h0
 refine LoopG.mk (fun x=>⟨n,(k,up x)::unA junk E,stf x⟩) p μ x0 (Head.env fun i=>?_) hp h
 simp only[CG]
 by_cases e:k=i
 .simp[e]
 .simp only[e,aL,vC]
  split
  .exact .inl rfl
  .exact .inr rfl
end Go.Vm
namespace Go.Proofs.YtdagmocgcanknaaGreat

