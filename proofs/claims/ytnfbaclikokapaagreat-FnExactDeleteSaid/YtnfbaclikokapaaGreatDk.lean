/- A part. -/
import Derived.Test.YtnfbaclikokapaaGreatVmW
import Derived.ProofKit
import Derived.Test.YtnfbaclikokapaaGreatIa
import Derived.Test.YtnfbaclikokapaaGreatOa
set_option linter.unusedSimpArgs false
set_option linter.unusedVariables false
set_option maxHeartbeats 2000000
set_option maxRecDepth 10000
namespace Go.Vm
open Go.RowKit Go.WideShapes
def Old (w:World) (b o:Nat):Prop:=(w.cell? ⟨b,o,none⟩).isSome=true
def RdCs (w:World):List Value→List Cl→Prop
 | [],[]=>True
 | u::us,c::cs=>RdD w (Old w) c u∧RdCs w us cs
 | _,_=>False
theorem RdCs.append {w:World}:∀ {us:List Value} {cs:List Cl} {us':List Value} {cs':List Cl},RdCs w us cs→RdCs w us' cs'→RdCs w (us++us') (cs++cs')
 | [],[],_,_,_,h=>h
 | _::_,_::_,_,_,h,h'=>⟨h.1,RdCs.append h.2 h'⟩
 | [],_::_,_,_,h,_=>h.elim
 | _::_,[],_,_,h,_=>h.elim
theorem RdCs.len {w:World}:∀ {us:List Value} {cs:List Cl},RdCs w us cs→us.length=cs.length
 | [],[],_=>rfl
 | _::_,_::_,h=>by simp[RdCs.len h.2]
 | [],_::_,h=>h.elim
 | _::_,[],h=>h.elim
theorem RdCs.at {w:World}:∀ {us:List Value} {cs:List Cl},RdCs w us cs→∀ (k:Nat) (c:Cl),cs[k]?=some c→∃ y,us[k]?=some y∧RdD w (Old w) c y
 | [],[],_,k,c,hk=>by simp at hk
 | u::us,c0::cs,h,k,c,hk=>by
  cases k with
  | zero=>simp at hk; subst hk; exact⟨u,rfl,h.1⟩
  | succ k=>simpa using RdCs.at h.2 k c (by simpa using hk)
 | [],_::_,h,_,_,_=>h.elim
 | _::_,[],h,_,_,_=>h.elim
theorem RdCs.glue {w:World} {us:List Value} {o n m:Nat} {A B:List Cl} (hA:RdCs w ((us.drop o).take n) A) (hm:o+n=m) (hB:RdCs w (us.drop m) B):RdCs w (us.drop o) (A++B):=by
 subst hm
 have:=hA.append hB
 rwa [← List.drop_drop,List.take_append_drop] at this
theorem RdCs.last {w:World} {us:List Value} {o n:Nat} {A:List Cl} (hA:RdCs w ((us.drop o).take n) A) (hm:us.length=o+n):RdCs w (us.drop o) A:=by
 rwa [aaC (by simp; omega)] at hA
theorem RdCs.agg {w:World} {us:Array Value} {cs:List Cl} (h:RdCs w us.toList cs):RdA w (Old w) (.agg cs) (.agg us):=
 ⟨us.toList,by simp,h.len,fun k c hk=>h.at k c hk⟩
theorem RdCs.one {w:World} {v:Value} {c:Cl} (h:RdCs w [v] [c]):RdD w (Old w) c v:=h.1
variable {H:Type} {enc:TypeId×Value→H} {P:Program} {w:World} {sp:Nat→Bool} {held:Bool}
theorem mapM_each {α β:Type} {f:α→Option β}:∀ {l:List α} {ys:List β},l.mapM f=some ys→∀ (j:Nat) (x:α),l[j]?=some x→∃ y,f x=some y
 | [],_,_,j,x,hj=>by simp at hj
 | a::l,ys,h,j,x,hj=>by
  rw[List.mapM_cons] at h
  cases ha:f a with
  | none=>simp[ha] at h
  | some b =>
   cases hl:l.mapM f with
   | none=>simp[ha,hl] at h
   | some bs =>
    cases j with
    | zero=>simp at hj; subst hj; exact⟨b,ha⟩
    | succ j=>exact mapM_each hl j x (by simpa using hj)
theorem mapM_at {α β:Type} {f:α→Option β}:∀ {l:List α} {ys:List β},l.mapM f=some ys→∀ (j:Nat) (x:α),l[j]?=some x→∃ y,ys[j]?=some y∧f x=some y
 | [],_,_,j,x,hj=>by simp at hj
 | a::l,ys,h,j,x,hj=>by
  rw[List.mapM_cons] at h
  cases ha:f a with
  | none=>simp[ha] at h
  | some b =>
   cases hl:l.mapM f with
   | none=>simp[ha,hl] at h
   | some bs =>
    simp[ha,hl] at h
    subst h
    cases j with
    | zero=>simp at hj; subst hj; exact⟨b,rfl,ha⟩
    | succ j=>simpa using mapM_at hl j x (by simpa using hj)
theorem AAN {k:IntKind} {t:TypeId} (ht:P.underlying t=some (.int k)) {fuel:Nat} {cs:List Value} {y:DataW H×List MemPlace} (h:DataW.trod enc P w 0 sp held fuel t cs=some y) :
  ∃ n:Int,RdCs w cs [.v (.int k n)]:=by
 cases fuel with
 | zero=>simp[DataW.trod] at h
 | succ fuel =>
  unfold DataW.trod at h
  rw[ht] at h
  simp only at h
  split at h<;>simp_all
  rename_i k' n heq
  obtain⟨⟨rfl,hw⟩,_⟩:=h
  exact⟨n,⟨rfl,by simpa [O9] using hw⟩,trivial⟩
theorem ACF {t:TypeId} (ht:P.underlying t=some .bool) {fuel:Nat} {cs:List Value} {y:DataW H×List MemPlace} (h:DataW.trod enc P w 0 sp held fuel t cs=some y) :
  ∃ n:Bool,RdCs w cs [.v (.bool n)]:=by
 cases fuel with
 | zero=>simp[DataW.trod] at h
 | succ fuel =>
  rcases cs with _ | ⟨c,_ | ⟨c2,cs⟩⟩
  ·simp[DataW.trod,ht] at h
  ·cases c with
   | bool b=>exact⟨b,⟨rfl,rfl⟩,trivial⟩
   | _=>simp[DataW.trod,ht] at h
  ·simp[DataW.trod,ht] at h
theorem xg {t:TypeId} (ht:P.underlying t=some .string) {fuel:Nat} {cs:List Value} {y:DataW H×List MemPlace} (h:DataW.trod enc P w 0 sp held fuel t cs=some y) :
  ∃ n:ByteArray,RdCs w cs [.v (.string n)]:=by
 cases fuel with
 | zero=>simp[DataW.trod] at h
 | succ fuel =>
  rcases cs with _ | ⟨c,_ | ⟨c2,cs⟩⟩
  ·simp[DataW.trod,ht] at h
  ·cases c with
   | string b =>
    simp only[DataW.trod,ht] at h
    split at h
    ·rename_i hb
     exact⟨b,⟨rfl,by simpa [O9] using hb⟩,trivial⟩
    ·cases h
   | _=>simp[DataW.trod,ht] at h
  ·simp[DataW.trod,ht] at h
theorem xh {t:TypeId} {fs:Array Field} (ht:P.underlying t=some (.struct fs)) {fuel:Nat} {cs:List Value} {y:DataW H×List MemPlace} (h:DataW.trod enc P w 0 sp held (fuel+1) t cs=some y) :
  cs.length=P.cellsOf t∧∀ (j:Nat) (f:Field),fs.toList[j]?=some f→∃ y,DataW.trod enc P w 0 sp held fuel f.type ((cs.drop f.offset).take (P.cellsOf f.type))=some y:=by
 simp only[DataW.trod,ht] at h
 split at h
 ·rename_i hl
  obtain⟨xs,hx,_⟩:=yQ.1 h
  exact⟨hl,fun j f hj=>mapM_each hx j f hj⟩
 ·cases h
theorem AAO {α:Type} {f:α→List Cl} {t e:TypeId} (ht:P.underlying t=some (.slice e)) {fuel:Nat} (hlen:∀ x,(f x).length=P.cellsOf e) (hpos:0<P.cellsOf e)
  (he:∀ (cs:List Value) (y:DataW H×List MemPlace),DataW.trod enc P w 0 sp held fuel e cs=some y→∃ x,RdCs w cs (f x))
  {cs:List Value} {y:DataW H×List MemPlace} (h:DataW.trod enc P w 0 sp held (fuel+1) t cs=some y):∃ xs:List α,RdCs w cs [.sl (xs.map f)]:=by
 rcases cs with _ | ⟨c,_ | ⟨c2,cs⟩⟩
 ·simp[DataW.trod,ht] at h
 ·cases c with
  | slice a len cap =>
   cases a with
   | none =>
    have:len=0∧cap=0:=by
     simp only[DataW.trod,ht] at h
     split at h<;>simp_all
    obtain⟨rfl,rfl⟩:=this
    exact⟨[],⟨by simp only[RdD]; exact⟨none,0,rfl,by simp,by simp[maxLen],⟨0,by simp⟩,.inl rfl⟩,trivial⟩⟩
   | some a =>
    simp only[DataW.trod,ht] at h
    split at h
    ·rename_i hb
     obtain⟨_,hlc,hcm⟩:=hb
     obtain⟨es,hes,_⟩:=Option.bind_eq_some_iff.1 h
     have hel:∀ i,i<len→∃ x:α,∃ vs:List Value,w.cells? 0 (a.add (i*P.cellsOf e)) (P.cellsOf e)=some vs∧RdCs w vs (f x):=by
      intro i hi
      obtain⟨z,hz⟩:=mapM_each hes i i (by simp[hi])
      obtain⟨vs,hvs,hz⟩:=Option.bind_eq_some_iff.1 hz
      obtain⟨x,hx⟩:=he vs z hz
      exact⟨x,vs,hvs,hx⟩
     by_cases hz:len=0
     ·subst hz
      exact⟨[],⟨by simp only[RdD]; exact⟨some a,cap,rfl,by simp,hcm,⟨0,by simp⟩,.inl rfl⟩,trivial⟩⟩
     ·have hcell:∀ i,i<len→∀ k,k<P.cellsOf e→∃ u,w.cell? ((a.add (i*P.cellsOf e)).add k)=some u:=by
       intro i hi k hk
       obtain⟨x,vs,hvs,hx⟩:=hel i hi
       simp only[World.cells?,ax,bD] at hvs
       obtain⟨u,hu⟩:=mapM_each hvs k k (by simp[hk])
       exact⟨u,hu⟩
      have hspot:a.spot=none:=by
       obtain⟨u,hu⟩:=hcell 0 (by omega) 0 hpos
       simp only[Nat.zero_mul,Addr.add,bD] at hu
       unfold World.cell? at hu
       split at hu
       ·split at hu
        ·cases hu
        ·rename_i hs; simpa using hs
       ·cases hu
      obtain⟨b,off,spot⟩:=a
      simp only at hspot
      subst hspot
      have hadd:∀ i,(⟨b,off,none⟩:Addr).add i=⟨b,off+i,none⟩:=by
       intro i; unfold Addr.add; split
       ·rename_i h0; subst h0; rfl
       ·rfl
      simp only[hadd] at hel
      have hch:∃ g:Nat→α,∀ i,i<len→∃ vs:List Value,w.cells? 0 ⟨b,off+i*P.cellsOf e,none⟩ (P.cellsOf e)=some vs∧RdCs w vs (f (g i)):=by
       obtain⟨x0,_⟩:=hel 0 (by omega)
       refine⟨fun i=>if h:i<len then(hel i h).choose else x0,fun i hi=>?_⟩
       simp only[hi,dif_pos]
       exact(hel i hi).choose_spec
      obtain⟨g,hg⟩:=hch
      refine⟨(List.range len).map g,⟨?_,trivial⟩⟩
      simp only[RdD]
      refine⟨some ⟨b,off,none⟩,cap,by simp,by simpa using hlc,hcm,⟨P.cellsOf e, ?_⟩,.inr ⟨b,off,rfl, ?_⟩⟩
      ·intro x hx
       simp only[WY] at hx
       obtain⟨y,_,rfl⟩:=hx
       exact hlen y
      ·refine RdE.mk (P.cellsOf e) ?_ fun i x hi=>?_
       ·intro x hx
        simp only[WY] at hx
        obtain⟨y,_,rfl⟩:=hx
        exact hlen y
       ·have hil:i<len:=by
         rcases bI i len with h' | h'
         ·exact h'
         ·rw[nR (by simpa using h')] at hi; cases hi
        have hx:x=f (g i):=by simpa [hil] using hi.symm
        subst hx
        obtain⟨vs,hvs,hrd⟩:=hg i hil
        refine RdL.mk fun j c hj=>?_
        obtain⟨u,hu,hc⟩:=hrd.at j c hj
        simp only[World.cells?,ax,bD] at hvs
        have hjl:j<P.cellsOf e:=by
         rw[← hlen (g i)]
         rcases bI j (f (g i)).length with h' | h'
         ·exact h'
         ·rw[nR h'] at hj; cases hj
        obtain⟨u2,hu2,hcl⟩:=mapM_at hvs j j (by simp[hjl])
        rw[hu2] at hu
        simp only[ah] at hu
        subst hu
        have hadd2:(⟨b,off+i*P.cellsOf e,none⟩:Addr).add j=⟨b,off+i*P.cellsOf e+j,none⟩:=by
         unfold Addr.add; split
         ·rename_i h0; subst h0; rfl
         ·rfl
        rw[hadd2] at hcl
        exact⟨by simp[Old,hcl],u2,hcl,hc⟩
    ·cases h
  | _=>simp[DataW.trod,ht] at h
 ·simp[DataW.trod,ht] at h
theorem Fg {α:Type} {f:α→List Cl} {t e:TypeId} {n:Nat} (ht:P.underlying t=some (.slice e)) (hn:P.cellsOf e=n) (hlen:∀ x,(f x).length=n) (hpos:0<n) {fuel:Nat}
  (he:∀ fuel',fuel'<fuel→∀ (cs:List Value) (y:DataW H×List MemPlace),DataW.trod enc P w 0 sp held fuel' e cs=some y→∃ x,RdCs w cs (f x))
  {cs:List Value} {y:DataW H×List MemPlace} (h:DataW.trod enc P w 0 sp held fuel t cs=some y):∃ xs:List α,RdCs w cs [.sl (xs.map f)]:=by
 subst hn
 cases fuel with
 | zero=>simp[DataW.trod] at h
 | succ fuel=>exact AAO ht hlen hpos (he fuel (by omega)) h
theorem DK {t:TypeId} {fs:Array Field} {n:Nat} (ht:P.underlying t=some (.struct fs)) (hn:P.cellsOf t=n) {fuel:Nat} {cs:List Value} {y:DataW H×List MemPlace} (h:DataW.trod enc P w 0 sp held fuel t cs=some y) :
  ∃ fuel',fuel'<fuel∧cs.length=n∧∀ (j:Nat) (f:Field),fs.toList[j]?=some f→∃ y,DataW.trod enc P w 0 sp held fuel' f.type ((cs.drop f.offset).take (P.cellsOf f.type))=some y:=by
 subst hn
 cases fuel with
 | zero=>simp[DataW.trod] at h
 | succ fuel=>exact⟨fuel,by omega,xh ht h⟩
theorem Old.lt {w:World} {b o:Nat} (h:Old w b o):b<w.heap.size:=by
 unfold Old World.cell? at h
 rcases bI b w.heap.size with h' | h'
 ·exact h'
 ·simp[Array.getElem?_eq_none h'] at h
end Go.Vm
namespace Go.Vm
variable {P:Program} {w0:Bs} {St0 St:Nat→Nat→Prop} {β:Nat→Option Nat} {s t r:MS} {a:Act} {w:World}
theorem Core.reTell (h:Core w0 St0 St β s a w) (env':List (Nat×AV)) (st':List Ob)
  (hr:∀ l u,A_ w s.st β l u→A_ w st' β l u) (hp:∀ l i off u,AVR w St s.st β (.lp l i off) u→AVR w St st' β (.lp l i off) u)
  (henv:∀ i u,AVR w St st' β (BZ s.env i) u→AVR w St st' β (BZ env' i) u)
  (hst:∀ (l:Nat) (o':Ob),st'[l]?=some o'→o'.live=true→∃ o:Ob,s.st[l]?=some o∧o.live=true∧o'.ty=o.ty∧o'.sz=o.sz∧o'.wr=o.wr∧o'.xs.length=o.xs.length∧((∀ x∈o.xs,x.length=o.sz)→∀ x∈o'.xs,x.length=o.sz) ∧
   ∀ (k:Nat) (c':Cl),o'.xs.flatten[k]?=some c'→∃ c,o.xs.flatten[k]?=some c∧(∀ u,RdB w St st' β c u→RdB w St st' β c' u)∧(E8 c'=true→c=c')) :
  Core w0 St0 St β ⟨s.n,env',st'⟩ a w:=by
 have hA:∀ x u,AVR w St s.st β x u→AVR w St st' β x u:=fun x u hx=>AVR.mono (fun _ _ h=>h) (fun _ _ _=>rfl) hr hp x u hx
 have hB:∀ c u,RdB w St s.st β c u→RdB w St st' β c u:=fun c u hc=>RdB.mono (fun _ _ h=>h) (fun _ _ _=>rfl) hr c u hc
 exact {
  defers:=h.defers
  size:=h.size
  lim:=h.lim
  env:=fun i=>henv i _ (hA _ _ (h.env i))
  below:=h.below
  st0:=h.st0
  stOld:=h.stOld
  stIn:=h.stIn
  obs:=fun l o' b hl hlv hb=>by
   obtain⟨o,q1,q2,q3,q4,q5,q6,q7,q8⟩:=hst l o' hl hlv
   obtain⟨p1,p2,cs,p3,p4,p5⟩:=h.obs l o b q1 q2 hb
   refine⟨p1,p2,cs,by rw[q3]; exact p3,by rw[q4]; exact q7 p4,fun k c' hk=>?_⟩
   obtain⟨c,r1,r2,r3⟩:=q8 k c' hk
   obtain⟨u,u1,u2⟩:=p5 k c r1
   exact⟨u,u1,r2 u (hB c u u2)⟩
  nil:=fun l o' hl hlv hb=>by
   obtain⟨o,q1,q2,q3,q4,q5,q6,q7,q8⟩:=hst l o' hl hlv
   have:=h.nil l o q1 q2 hb
   rw[this] at q6
   exact zu q6
  inj:=fun l l' o1 o2 b h1 h2 g1 g2 hb hb'=>by
   obtain⟨p1,q1,q2,_⟩:=hst l o1 h1 g1
   obtain⟨p2,q3,q4,_⟩:=hst l' o2 h2 g2
   exact h.inj l l' p1 p2 b q1 q3 q2 q4 hb hb'
  sep:=fun l o' b o hl hlv hb hs=>by
   obtain⟨p,q1,q2,q3,q4,q5,q6,q7,q8⟩:=hst l o' hl hlv
   rw[q4,q5,q6]
   exact h.sep l p b o q1 q2 hb hs
  own:=h.own.move id (fun x hx=>⟨⟨hx.1,fun h=>h,hx.2.2.1,hx.2.2.2.1,fun l o' hl hlv=>by
    obtain⟨o,q1,q2,_⟩:=hst l o' hl hlv
    exact hx.2.2.2.2 l o q1 q2⟩,rfl⟩) (fun _ _ h=>h) (fun _ _ _=>rfl)
   (fun l o' b k c hl hlv hb hk hc=>by
    obtain⟨o,q1,q2,q3,q4,q5,q6,q7,q8⟩:=hst l o' hl hlv
    obtain⟨c0,r1,r2,r3⟩:=q8 k c hk
    have:=r3 hc
    subst this
    exact⟨o,b,q1,q2,hb,r1,rfl⟩) (fun _ _ _ _ _ _ _ _ e=>e) }
def AHt:Cl:=.v (.slice none 0 0)
theorem Core.nilOb (h:Core w0 St0 St β s a w) (e n:Nat):∃ β',Core w0 St0 St β' ⟨s.n,s.env,s.st ++ [⟨e,n,[],true,true⟩]⟩ a w∧∀ u,RdC w St (s.st ++ [⟨e,n,[],true,true⟩]) β' AHt u→RdC w St (s.st ++ [⟨e,n,[],true,true⟩]) β' (.ref s.st.length) u:=by
 obtain⟨a1,a2,a3⟩:=h.addOb ⟨e,n,[],true,true⟩ none (fun _=>rfl) (by simp) h.own (by simp)
 refine⟨_,a1,fun u hu=>?_⟩
 have hu':u = .slice none 0 0:=by
  exact(Nb (St:=St) (w:=w) (v:=(.slice none 0 0:Value)) (u:=u) (by simp only[AVR]; exact hu)).1
 subst hu'
 have:=LZ (w:=w) (St:=St) (β:=fun l=>if l=s.st.length then none else β l) (st:=s.st) (ob:=⟨e,n,[],true,true⟩) (b:=none) (u:=.slice none 0 0) rfl (by simp) fun _=>⟨rfl,rfl⟩
 simpa only[AVR] using this
theorem Head.trans (h1:Head s t) (h2:Head t r):Head s r:=⟨h2.1.trans h1.1,fun w0 St0 St β a w h=>by
 obtain⟨St',β',h'⟩:=h1.2 w0 St0 St β a w h
 exact h2.2 w0 St0 St' β' a w h'⟩
theorem Head.rel (sel:List (Nat×Bool)) (keys:List Nat) (h:RF sel keys s) (e:Go.Vm.rel sel keys s=t):Head s t:=⟨by rw[← e]; rfl,fun w0 St0 St β a w hc=>⟨St,Tq sel β,by rw[← e]; exact hc.rel h⟩⟩
theorem Head.abs (N l0:Nat) (keys:List Nat) (h:zG N l0 keys s t):Head s t:=by
 obtain⟨i,R,row,row',ob,⟨g1,g2,g3,g4,g5⟩,g6,⟨g7,g8⟩,g9⟩:=h
 exact⟨by rw[← g9],fun w0 St0 St β a w hc=>⟨St,β,by rw[← g9]; exact hc.absTrim g1 g2 g3 g4 g5 g6 g7 g8⟩⟩
theorem Head.nilR (l j e n:Nat) (ob:Ob) (row:List Cl) (hob:s.st[l]?=some ob) (hrow:ob.xs = [row]) (h:row[j]?=some (.v (.slice none 0 0))):Head s ⟨s.n,s.env,s.st.set l ⟨ob.ty,ob.sz,[row.set j (.ref s.st.length)],ob.wr,ob.live⟩ ++ [⟨e,n,[],true,true⟩]⟩:=⟨rfl,fun w0 St0 St β a w hc=>by
 obtain⟨β',h1,h2⟩:=hc.nilOb e n
 have hl:l<s.st.length:=(az.1 hob).1
 have hg:∀ (l2:Nat) (o2:Ob),(s.st.set l ⟨ob.ty,ob.sz,[row.set j (.ref s.st.length)],ob.wr,ob.live⟩ ++ [⟨e,n,[],true,true⟩])[l2]?=some o2→(l2=l∧o2=⟨ob.ty,ob.sz,[row.set j (.ref s.st.length)],ob.wr,ob.live⟩)∨(l2≠l∧(s.st ++ [(⟨e,n,[],true,true⟩:Ob)])[l2]?=some o2):=by
  intro l2 o2 h2
  by_cases e1:l2=l
  ·subst e1
   rw[aZ (by simpa using hl),bZ] at h2
   simp[hl] at h2
   exact .inl ⟨rfl,h2.symm⟩
  ·refine .inr ⟨e1, ?_⟩
   rw[abq] at h2 ⊢
   simp only[bu] at h2
   split at h2
   ·rename_i hlt
    rw[bZ,aV (fun e2=>e1 e2.symm)] at h2
    rw[bz hlt]; exact h2
   ·rename_i hlt
    rw[aV hlt]; exact h2
 have hg2:∀ (l2:Nat) (o2:Ob),(s.st ++ [(⟨e,n,[],true,true⟩:Ob)])[l2]?=some o2→∃ o3,(s.st.set l ⟨ob.ty,ob.sz,[row.set j (.ref s.st.length)],ob.wr,ob.live⟩ ++ [⟨e,n,[],true,true⟩])[l2]?=some o3∧o3.live=o2.live∧o3.sz=o2.sz∧o3.ty=o2.ty∧o3.xs.length=o2.xs.length:=by
  intro l2 o2 h2
  by_cases e1:l2=l
  ·subst e1
   rw[aZ hl,hob] at h2
   cases h2
   exact⟨⟨ob.ty,ob.sz,[row.set j (.ref s.st.length)],ob.wr,ob.live⟩,by rw[aZ (by simpa using hl),bZ]; simp only[bD,hl],rfl,rfl,rfl,by simp[hrow]⟩
  ·refine⟨o2, ?_,rfl,rfl,rfl,rfl⟩
   rw[abq] at h2 ⊢
   simp only[bu]
   split at h2
   ·rename_i hlt
    rw[bz hlt,bZ,aV (fun e2=>e1 e2.symm)]; exact h2
   ·rename_i hlt
    rw[aV hlt]; exact h2
 have hr:∀ (l2:Nat) (u:Value),A_ w (s.st ++ [⟨e,n,[],true,true⟩]) β' l2 u→A_ w (s.st.set l ⟨ob.ty,ob.sz,[row.set j (.ref s.st.length)],ob.wr,ob.live⟩ ++ [⟨e,n,[],true,true⟩]) β' l2 u:=by
  intro l2 u hu
  unfold A_ at hu ⊢
  cases hq:(s.st ++ [(⟨e,n,[],true,true⟩:Ob)])[l2]? with
  | none=>simp[hq] at hu
  | some o2 =>
   obtain⟨o3,p1,p2,p3,p4,p5⟩:=hg2 l2 o2 hq
   simp only[hq] at hu
   simp only[p1]
   refine⟨hu.1,fun hlv=>?_⟩
   have h3:=hu.2 (by rw[← p2]; exact hlv)
   cases hβ:β' l2 with
   | none=>simp only[hβ] at h3 ⊢; exact⟨h3.1,zu (by rw[p5,h3.2]; rfl)⟩
   | some b=>simp only[hβ] at h3 ⊢; simpa only[p3,p4,p5] using h3
 refine⟨St,β',h1.reTell _ _ hr (fun l2 i off u hu=>?_) (fun i u hu=>hu) (fun l2 o' hl2 hlv=>?_)⟩
 ·simp only[AVR] at hu ⊢
  cases hq:(s.st ++ [(⟨e,n,[],true,true⟩:Ob)])[l2]? with
  | none=>simp[hq] at hu
  | some o2 =>
   obtain⟨o3,p1,p2,p3,_⟩:=hg2 l2 o2 hq
   simp only[hq] at hu
   simp only[p1,p2,p3]
   exact hu
 ·rcases hg l2 o' hl2 with ⟨rfl,rfl⟩ | ⟨_,h3⟩
  ·refine⟨ob,by rw[aZ hl]; exact hob,hlv,rfl,rfl,rfl,by simp[hrow],fun hx x hx2=>?_,fun k c' hk=>?_⟩
   ·simp only[aaT] at hx2
    subst hx2
    rw[bu]
    exact hx row (by simp[hrow])
   ·simp only[bT,Zh,bF] at hk
    rw[hrow]
    simp only[bT,Zh,bF]
    rw[bZ] at hk
    by_cases e1:j=k
    ·subst e1
     have hj:j<row.length:=(az.1 h).1
     simp only[bD,hj,ah] at hk
     subst hk
     exact⟨_,h,fun u hu=>hr _ u (h2 u hu),fun hc=>by simp[E8] at hc⟩
    ·rw[aV e1] at hk
     exact⟨c',hk,fun _ h=>h,fun _=>rfl⟩
  ·exact⟨o',h3,hlv,rfl,rfl,rfl,rfl,fun h=>h,fun k c hk=>⟨c,hk,fun _ h=>h,fun _=>rfl⟩⟩⟩
theorem LoopG.mk {s:MS} {body:MS→(MS→Prop)→Prop} {A:Type} (f:A→MS) (p:A→Prop) (μ:A→Nat) (x0:A) (h0:Head s (f x0)) (hp:p x0)
  (h:∀ x,p x→body (f x) fun s'=>∃ y,True∧Head s' (f y)∧p y∧μ y<μ x):LoopK s body:=
 ⟨fun _=>True,fun s t=>Head s t,A,f,p,μ,fun s t _ h=>h,⟨x0,trivial,h0,hp⟩,h⟩
def hasK (k:Nat):List Nat→Bool
 | []=>false
 | x::xs=>if x=k then true else hasK k xs
def AFz:Bool→Nat→List Nat→List Nat
 | true,_,l=>l
 | false,k,l=>k::l
def keysOf:List Nat→List (Nat×AV)→List Nat
 | _,[]=>[]
 | seen,(k,_)::r=>AFz (hasK k seen) k (keysOf (k::seen) r)
def AEJ:List Nat→List (Nat×AV)→List (Nat×AV)
 | [],_=>[]
 | k::ks,e=>(k,BZ e k)::AEJ ks e
def Sl (dr:List Nat) (up:List (Nat×AV)) (s:MS) (st:List Ob):MS:=⟨s.n,AEJ (keysOf dr s.env) (up++s.env),st⟩
attribute [go_sem] hasK AFz keysOf AEJ Sl
theorem LoopU.mk {s:MS} {body:MS→(MS→Prop)→Prop} (N:Nat) {A:Type} (up:A→List (Nat×AV)) (stf:A→List Ob) (p:A→Prop) (μ:A→Nat) (x0:A)
  (h0:OU N (keysOf [] s.env) s∧trim N (keysOf [] s.env) s=Sl [] (up x0) s (stf x0)∧p x0)
  (h:∀ x,p x→body (Sl [] (up x) s (stf x)) fun s'=>∃ y,OU N (keysOf [] s.env) s'∧trim N (keysOf [] s.env) s'=Sl [] (up y) s (stf y)∧p y∧μ y<μ x):LoopK s body:=
 LoopK.mk N (keysOf [] s.env) (fun x=>Sl [] (up x) s (stf x)) p μ x0 h0 h
theorem LoopH.mk {s:MS} {body:MS→(MS→Prop)→Prop} (dr:List Nat) {A:Type} (up:A→List (Nat×AV)) (stf:A→List Ob) (p:A→Prop) (μ:A→Nat) (x0:A)
  (h0:Head s (Sl dr (up x0) s (stf x0))) (hp:p x0)
  (h:∀ x,p x→body (Sl dr (up x) s (stf x)) fun s'=>∃ y,True∧Head s' (Sl dr (up y) s (stf y))∧p y∧μ y<μ x):LoopK s body:=
 LoopG.mk (fun x=>Sl dr (up x) s (stf x)) p μ x0 h0 hp h
theorem Head.sel (sel:List (Nat×Bool)) {n:Nat} {env:List (Nat×AV)} {st:List Ob} (h:RF sel (env.map Prod.fst) s) (e:Go.Vm.rel sel (env.map Prod.fst) s=⟨n,env,st⟩):Head s ⟨n,env,st⟩:=Head.rel sel _ h e
theorem Head.selAbs (sel:List (Nat×Bool)) (N l0:Nat) {n:Nat} {env:List (Nat×AV)} {st:List Ob} (h:RF sel (env.map Prod.fst) s) (h2:zG N l0 (env.map Prod.fst) (Go.Vm.rel sel (env.map Prod.fst) s) ⟨n,env,st⟩):Head s ⟨n,env,st⟩:=Head.trans (Head.rel sel _ h rfl) (Head.abs N l0 _ h2)
theorem DF {sel:List (Nat×Bool)} {xs:List (List Cl)} (h:Df xs=true):xs.map (fun x=>x.map (Qy sel))=xs:=by
 conv=>rhs; rw[← List.map_id xs]
 exact aaM fun x hx=>ADz (aF.1 h x hx)
theorem AP {N ty sz:Nat} {R:List (List Cl)} {wr live:Bool} (h:Df R=true):Az N ⟨ty,sz,R,wr,live⟩=true:=by
 simp only[Az,sV]
 refine .inr (aF.2 fun x hx=>aF.2 fun c hc=>?_)
 have:=aF.1 (aF.1 h x hx) c hc
 cases c<;>simp_all [Nh,FT]
theorem all2 {N:Nat} {a b:Ob} (ha:Az N a=true) (hb:Az N b=true) : [a,b].all (Az N)=true:=by simp[ha,hb]
theorem Dq {sel:List (Nat×Bool)} {xs:List (List Cl)} (h:Df xs=true):(xs.all fun x=>x.all (wP sel))=true:=aF.2 fun x hx=>AD0 (aF.1 h x hx)
theorem MG (a:Value) (l:Nat):Df [[.v a,.ref l]]=false:=rfl
end Go.Vm
open Go.Proofs.Tryz
namespace Go.Proofs.YtnfbaclikokapaaGreat
open Go.Vm
def EN (a b:DVal):Bool:=if(a.ty != b.ty)=true then decide (a.ty<b.ty) else if(a.n != b.n)=true then decide (a.n<b.n) else Op.bytesLess a.s.toList b.s.toList
def LC (a b:DVal):Bool:=(a.ty==b.ty)&&((a.n==b.n)&&(a.s.toList==b.s.toList))
theorem Za (a b:DVal):Ctr prog 330 [.agg a.c,.agg b.c] [.val (.c (.v (.bool (EN a b))))]:=by
 refine CM call330 func330 ntmps330 results330 fun hw=>?_
 rcases h1:a.ty != b.ty with _ | _<;>rcases h2:a.n != b.n with _ | _<;>simp only[go_sem,h1,h2,EN]
def LU:List DVal→List DVal→Bool
 | [],[]=>true
 | a::l,b::m=>LC a b&&LU l m
 | _,_=>false
theorem Ur:∀ (a b:List DVal),a.length≠b.length→LU a b=false
 | [],[],h=>by simp at h
 | [],_::_,_=>rfl
 | _::_,[],_=>rfl
 | a::l,b::m,h=>by simp only[LU]; rw[Ur l m (by simpa using h)]; simp
theorem Xa (a b:List DVal) {k:Nat} (h1:k<a.length) (h2:k<b.length):LU (a.drop k) (b.drop k)=(LC a[k] b[k]&&LU (a.drop (k+1)) (b.drop (k+1))):=by
 rw[aG h1,aG h2]; rfl
theorem PL (a b:List DVal) (ha:a.length≤1048576) (hb:b.length≤1048576):Ctr prog 218 [.c (.sl (a.map DVal.c)),.c (.sl (b.map DVal.c))] [.val (.c (.v (.bool (LU a b))))]:=by
 refine CM call218 func218 ntmps218 results218 fun hw=>?_
 simp only[go_sem,ae]
 refine cndC.mk (fun h=>?_) (fun h=>?_)
 ·simp only[go_sem]
  grind [Ur]
 ·have he:a.length=b.length:=by simp at h; omega
  simp only[go_sem,ae]
  refine LoopU.mk 0 (A:=Nat) (fun k=>[(5,.c (.v (.int .i64 (k))))]) (fun _=>[]) (fun k=>k≤a.length∧LU (a.drop k) (b.drop k)=LU a b) (fun k=>a.length-k) 0 ⟨⟨rfl,rfl⟩,rfl,ax _,rfl⟩ ?_
  rintro k ⟨hk,hf⟩
  simp only[go_sem,ae]
  refine cndC.mk (fun h=>?_) (fun h=>?_)
  ·have hk':k<a.length:=by simpa using h
   have hk2:k<b.length:=by omega
   rw[Xa a b hk' hk2] at hf
   simp only[go_sem,ae,AA _ hk',AA _ hk2,hk',hk2]
   try refine DrawK.mk ?_
   try simp only[go_sem,ae,AA _ hk',AA _ hk2,hk',hk2]
   have e1:(a[k].ty==b[k].ty&&(a[k].n==b[k].n&&a[k].s.toList==b[k].s.toList))=LC a[k] b[k]:=rfl
   try simp only[Dc,Gs,e1,aS]
   rcases hv:LC a[k] b[k] with _ | _
   ·simp only[go_sem,hv,e1,aO,aS]
    grind
   ·simp only[go_sem,hv,e1,aQ,wrap_i64 (n:=(k:Int)+1) (by omega) (by omega)]
    rw[hv,ai] at hf
    exact⟨k+1,⟨rfl,rfl⟩,rfl,⟨by omega,hf⟩,by omega⟩
  ·have hk':k=a.length:=by simp at h; omega
   subst hk'
   simp only[go_sem]
   rw[← hf,aU,he,aU]; rfl
theorem lL (a b:List DVal) (ha:a.length≤1048576) (hb:b.length≤1048576):Ctr prog 255 [.c (.sl (a.map DVal.c)),.c (.sl (b.map DVal.c))] [.val (.c (.v (.bool (LU a b))))]:=by
 refine CM call255 func255 ntmps255 results255 fun hw=>?_
 simp only[go_sem,ae]
 refine cndC.mk (fun h=>?_) (fun h=>?_)
 ·simp only[go_sem]
  grind [Ur]
 ·have he:a.length=b.length:=by simp at h; omega
  simp only[go_sem,ae]
  refine LoopU.mk 0 (A:=Nat) (fun k=>[(13,.c (.v (.int .i64 (k))))]) (fun _=>[]) (fun k=>k≤a.length∧LU (a.drop k) (b.drop k)=LU a b) (fun k=>a.length-k) 0 ⟨⟨rfl,rfl⟩,rfl,ax _,rfl⟩ ?_
  rintro k ⟨hk,hf⟩
  simp only[go_sem,ae]
  refine cndC.mk (fun h=>?_) (fun h=>?_)
  ·have hk':k<a.length:=by simpa using h
   have hk2:k<b.length:=by omega
   rw[Xa a b hk' hk2] at hf
   simp only[go_sem,ae,AA _ hk',AA _ hk2,hk',hk2]
   try refine DrawK.mk ?_
   try simp only[go_sem,ae,AA _ hk',AA _ hk2,hk',hk2]
   have e1:(a[k].ty==b[k].ty&&(a[k].n==b[k].n&&a[k].s.toList==b[k].s.toList))=LC a[k] b[k]:=rfl
   try simp only[Dc,Gs,e1,aS]
   rcases hv:LC a[k] b[k] with _ | _
   ·simp only[go_sem,hv,e1,aO,aS]
    grind
   ·simp only[go_sem,hv,e1,aQ,wrap_i64 (n:=(k:Int)+1) (by omega) (by omega)]
    rw[hv,ai] at hf
    exact⟨k+1,⟨rfl,rfl⟩,rfl,⟨by omega,hf⟩,by omega⟩
  ·have hk':k=a.length:=by simp at h; omega
   subst hk'
   simp only[go_sem]
   rw[← hf,aU,he,aU]; rfl
theorem PM (a b:List DVal) (ha:a.length≤1048576) (hb:b.length≤1048576):Ctr prog 228 [.c (.sl (a.map DVal.c)),.c (.sl (b.map DVal.c))] [.val (.c (.v (.bool (LU a b))))]:=by
 refine CM call228 func228 ntmps228 results228 fun hw=>?_
 simp only[go_sem,ae]
 refine CallK.mk _ (lL a b ha hb) fun _=>?_
 simp only[go_sem]
def AF0 {α:Type} (f:α→Prop) (l:List α):Prop:=l.length≤1099511627776∧∀ x∈l,f x
theorem fitS.big {α:Type} {f:α→Prop} {l:List α} (h:fitS f l):AF0 f l:=⟨Nat.le_trans h.1 (by decide),h.2⟩
theorem MH {α:Type} {f:α→List Cl} {n:Nat} (h:∀ x,Go.Vm.rowOk n (f x)=true) (l:List α):Jj n (l.map f)=true:=aF.2 fun r hr=>by
 grind
theorem G7 (l:List DVal):Jj 3 (l.map DVal.c)=true:=MH (fun _=>rfl) l
theorem Fh (l:List DVal) (h:l.length≤1048576):Ctr prog 141 [.c (.sl (l.map DVal.c))] [.own 68 3 (l.map DVal.c) true]:=by
 refine CM call141 func141 ntmps141 results141 fun hw=>?_
 have hl:l.length≤2147483648:=by omega
 simp only[go_sem,G7,ae,hl,aJ,CV]
 try simp
theorem Zb (r:DRow) (h:r.l.length≤1048576):Ctr prog 232 [.agg r.c] [.agg r.o]:=by
 refine CM call232 func232 ntmps232 results232 fun hw=>?_
 simp only[go_sem]
 refine DrawK.mkE ?_
 simp only[go_sem]
 refine CallE.mk _ (Fh r.l h) ?_
 simp only[go_sem,CV]
 try simp[AU,AO]
theorem lM (r:DRow) (h:r.l.length≤1048576):Ctr prog 212 [.agg r.c] [.agg r.o]:=by
 refine CM call212 func212 ntmps212 results212 fun hw=>?_
 have hl:r.l.length≤2147483648:=by omega
 simp only[go_sem]
 refine DrawK.mkE ?_
 simp only[go_sem,G7,ae,hl,aJ,CV]
 try simp[AU,AO]
theorem lN (out:List DVal) (v:DVal):(out ++ [v]).map DVal.c=out.map DVal.c ++ [[.v (.int .i64 v.ty),.v (.int .i64 v.n),.v (.string v.s)]]:=by simp[DVal.c_eq]
def KC (l:List DRow) (k:Int):List DVal:=l.filterMap fun r=>if 0≤k then r.l[k.toNat]? else none
theorem xk {l:List DRow} {n:Int} {k:Nat} (h:k<l.length):KC (l.drop k) n=(if h2:0≤n∧n.toNat<l[k].l.length then [l[k].l[n.toNat]'h2.2] else [])++KC (l.drop (k+1)) n:=by
 unfold KC
 grind [aG]
theorem gW (l:List DRow) (n:Int) (ha:AF0 IR l):Ctr prog 279 [.c (.sl (l.map DRow.c)),.c (.v (.int .i64 (n)))] [.own 68 3 ((KC l n).map DVal.c) true]:=by
 refine CM call279 func279 ntmps279 results279 fun hw=>?_
 have hlen:=ha.1
 simp only[go_sem,ae]
 refine LoopH.mk [8] (A:=Nat×List DVal) (fun x=>[(11,.c (.v (.int .i64 (x.1)))),(5,.c (.ref 0))]) (fun x=>[⟨68,3,x.2.map DVal.c,true,true⟩]) (fun x=>x.1≤l.length∧x.2++KC (l.drop x.1) n=KC l n) (fun x=>l.length-x.1) (0,[]) (Head.sel [(0,false)] ⟨rfl,rfl,rfl,trivial⟩ rfl) ⟨ax _,rfl⟩ ?_
 rintro⟨k,out⟩ ⟨hk,hb⟩
 dsimp only at hk hb
 have hol:out.length≤l.length:=by
  have h1:(KC l n).length≤l.length:=List.length_filterMap_le _ _
  rw[← hb] at h1
  simp at h1; omega
 simp only[go_sem,ae]
 refine cndC.mk (fun h=>?_) (fun h=>?_)
 ·have hk':k<l.length:=by simpa using h
  have hr:=ha.2 _ (aj hk')
  rw[NP] at hr
  have hrl:=hr.1
  rw[xk hk'] at hb
  simp only[go_sem,ae,AA _ hk',hk',aJ]
  try refine DrawK.mk ?_
  try simp only[go_sem,ae,AA _ hk',hk',aJ]
  by_cases hn:0≤n∧n.toNat<l[k].l.length
  ·rw[dif_pos hn] at hb
   obtain⟨m,rfl⟩:=aP hn.1
   have hm:m<l[k].l.length:=by have:=hn.2; simpa using this
   have e1:decide ((m:Int)≥0)=true:=by simp
   have e2:decide ((m:Int)<(l[k].l.length:Int))=true:=by simp; omega
   have hol2:out.length+1≤1099511627776:=by
    have h1:(KC l (m:Int)).length≤l.length:=List.length_filterMap_le _ _
    have h2:=congrArg List.length hb
    simp at h2; omega
   simp only[go_sem,ae,AA _ hk',AA _ hm,hk',hm,e1,e2,hol2,aJ]
   try refine DrawK.mkE ?_
   simp only[go_sem,bK,dm,ae,AA _ hk',AA _ hm,hk',hm,e1,e2,hol2,aJ,wrap_i64 (n:=(k:Int)+1) (by omega) (by omega)]
   exact⟨(k+1,out ++ [l[k].l[m]]),Head.sel [(3,false)] ⟨rfl,rfl,by grind [lN,AQ,DVal.pure],trivial⟩ (by rw[← lN]; rfl),⟨hk',by rw[← hb,bM]; rfl⟩,by simp only; omega⟩
  ·rw[dif_neg hn,aI] at hb
   have hfin:∀ P:Prop,P→P:=fun _ h=>h
   rcases h1:decide (n≥0) with _ | _
   ·simp only[go_sem,ae,AA _ hk',hk',h1,wrap_i64 (n:=(k:Int)+1) (by omega) (by omega)]
    exact⟨(k+1,out),Head.sel [(0,false)] ⟨rfl,rfl,AQ DVal.pure,trivial⟩ rfl,⟨hk',hb⟩,by omega⟩
   ·have h2:decide (n<(l[k].l.length:Int))=false:=by simp at h1 ⊢; have:¬ n.toNat<l[k].l.length:=fun hh=>hn ⟨h1,hh⟩; omega
    simp only[go_sem,ae,AA _ hk',hk',h1,h2,wrap_i64 (n:=(k:Int)+1) (by omega) (by omega)]
    exact⟨(k+1,out),Head.sel [(0,false)] ⟨rfl,rfl,AQ DVal.pure,trivial⟩ rfl,⟨hk',hb⟩,by omega⟩
 ·have hk':k=l.length:=by simp at h; omega
  subst hk'
  rw[aU] at hb
  have:out=KC l n:=by simpa [KC] using hb
  subst this
  simp only[go_sem,CV]
  try simp
def EZ (d:DDeed):Bool:=
 if(!(Ac d.op 1 4&&(Ac d.task 0 4&&Ac d.code 0 5)))=true then false else
 if(decide (d.stamp<0)||(decide (d.inv<0)||(decide (d.id < -1)||((d.lin != -1)&&decide (d.lin<d.inv)))))=true then false else
 (d.ret == -1)||((d.lin != -1)&&decide (d.ret≥d.lin))
theorem Sm (d:DDeed):Ctr prog 158 [.agg d.c] [.val (.c (.v (.bool (EZ d))))]:=by
 refine CM call158 func158 ntmps158 results158 fun hw=>?_
 simp only[go_sem]
 refine CallK.mk _ (AL d.op 1 4) fun _=>?_
 rcases h1:Ac d.op 1 4 with _ | _
 ·simp only[go_sem,EZ,h1,ag,aO]
 simp only[go_sem,h1]
 refine CallK.mk _ (AL d.task 0 4) fun _=>?_
 rcases h2:Ac d.task 0 4 with _ | _
 ·simp only[go_sem,EZ,h1,h2,ag,aH,aO]
 simp only[go_sem,h1,h2]
 refine CallK.mk _ (AL d.code 0 5) fun _=>?_
 rcases h3:Ac d.code 0 5 with _ | _
 ·simp only[go_sem,EZ,h1,h2,h3,aH,aO]
 rcases h4:decide (d.stamp<0) with _ | _
 rotate_left
 ·simp only[go_sem,EZ,h1,h2,h3,h4,aS,aQ,cO]
 rcases h5:decide (d.inv<0) with _ | _
 rotate_left
 ·simp only[go_sem,EZ,h1,h2,h3,h4,h5,aS,aQ,cO,bQ]
 rcases h6:decide (d.id < -1) with _ | _
 rotate_left
 ·simp only[go_sem,EZ,h1,h2,h3,h4,h5,h6,aS,aQ,cO,bQ]
 rcases h7:d.lin == -1 with _ | _
 ·have h7':(d.lin != -1)=true:=by simp[bne,h7]
  rcases h8:decide (d.lin<d.inv) with _ | _
  rotate_left
  ·simp only[go_sem,EZ,h1,h2,h3,h4,h5,h6,h7,h7',h8,aS,aQ,aO,cO,bQ]
  rcases h9:d.ret == -1 with _ | _
  all_goals simp only[go_sem,EZ,h1,h2,h3,h4,h5,h6,h7,h7',h8,h9,aS,aH,ai,aQ,aO,cO,bQ,abr]
 ·have h7':(d.lin != -1)=false:=by simp[bne,h7]
  rcases h9:d.ret == -1 with _ | _
  all_goals simp only[go_sem,EZ,h1,h2,h3,h4,h5,h6,h7,h7',h9,aS,aH,ag,aQ,aO,cO,bQ,abr]
theorem Sr (d:DDeed):Ctr prog 114 [.agg d.c] [.val (.c (.v (.bool (EZ d))))]:=by
 refine CM call114 func114 ntmps114 results114 fun hw=>?_
 simp only[go_sem]
 refine CallK.mk _ (AC d.op 1 4) fun _=>?_
 rcases h1:Ac d.op 1 4 with _ | _
 ·simp only[go_sem,EZ,h1,ag,aO]
 simp only[go_sem,h1]
 refine CallK.mk _ (AC d.task 0 4) fun _=>?_
 rcases h2:Ac d.task 0 4 with _ | _
 ·simp only[go_sem,EZ,h1,h2,ag,aH,aO]
 simp only[go_sem,h1,h2]
 refine CallK.mk _ (AC d.code 0 5) fun _=>?_
 rcases h3:Ac d.code 0 5 with _ | _
 ·simp only[go_sem,EZ,h1,h2,h3,aH,aO]
 rcases h4:decide (d.stamp<0) with _ | _
 rotate_left
 ·simp only[go_sem,EZ,h1,h2,h3,h4,aS,aQ,cO]
 rcases h5:decide (d.inv<0) with _ | _
 rotate_left
 ·simp only[go_sem,EZ,h1,h2,h3,h4,h5,aS,aQ,cO,bQ]
 rcases h6:decide (d.id < -1) with _ | _
 rotate_left
 ·simp only[go_sem,EZ,h1,h2,h3,h4,h5,h6,aS,aQ,cO,bQ]
 rcases h7:d.lin == -1 with _ | _
 ·have h7':(d.lin != -1)=true:=by simp[bne,h7]
  rcases h8:decide (d.lin<d.inv) with _ | _
  rotate_left
  ·simp only[go_sem,EZ,h1,h2,h3,h4,h5,h6,h7,h7',h8,aS,aQ,aO,cO,bQ]
  rcases h9:d.ret == -1 with _ | _
  all_goals simp only[go_sem,EZ,h1,h2,h3,h4,h5,h6,h7,h7',h8,h9,aS,aH,ai,aQ,aO,cO,bQ,abr]
 ·have h7':(d.lin != -1)=false:=by simp[bne,h7]
  rcases h9:d.ret == -1 with _ | _
  all_goals simp only[go_sem,EZ,h1,h2,h3,h4,h5,h6,h7,h7',h9,aS,aH,ag,aQ,aO,cO,bQ,abr]
end Go.Proofs.YtnfbaclikokapaaGreat
