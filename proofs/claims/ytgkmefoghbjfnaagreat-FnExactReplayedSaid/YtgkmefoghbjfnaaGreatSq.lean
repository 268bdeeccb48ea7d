/- A part. -/
import Derived.Test.YtgkmefoghbjfnaaGreatVmW
import Derived.ProofKit
import Derived.Test.YtgkmefoghbjfnaaGreatSo
import Derived.Test.YtgkmefoghbjfnaaGreatTy
set_option linter.unusedSimpArgs false
set_option linter.unusedVariables false
set_option maxHeartbeats 2000000
set_option maxRecDepth 10000
namespace Go.Vm
open Go.RowKit Go.WideShapes
def Old (w:World) (b o:Nat):Prop:=(w.cell? ⟨b,o,none⟩).isSome=true
def RdCs (w:World):List Value→List Cl→Prop
 | [],[]=>True
 | u::us,c::cs=>RdD w (Old w) c u∧RdCs w us cs
 | _,_=>False
theorem RdCs.append {w:World}:∀ {us:List Value} {cs:List Cl} {us':List Value} {cs':List Cl},RdCs w us cs→RdCs w us' cs'→RdCs w (us++us') (cs++cs')
 | [],[],_,_,_,h=>h
 | _::_,_::_,_,_,h,h'=>⟨h.1,RdCs.append h.2 h'⟩
 | [],_::_,_,_,h,_=>h.elim
 | _::_,[],_,_,h,_=>h.elim
theorem RdCs.len {w:World}:∀ {us:List Value} {cs:List Cl},RdCs w us cs→us.length=cs.length
 | [],[],_=>rfl
 | _::_,_::_,h=>by simp[RdCs.len h.2]
 | [],_::_,h=>h.elim
 | _::_,[],h=>h.elim
theorem RdCs.at {w:World}:∀ {us:List Value} {cs:List Cl},RdCs w us cs→∀ (k:Nat) (c:Cl),cs[k]?=some c→∃ y,us[k]?=some y∧RdD w (Old w) c y
 | [],[],_,k,c,hk=>by simp at hk
 | u::us,c0::cs,h,k,c,hk=>by
  cases k with
  | zero=>simp at hk; subst hk; exact⟨u,rfl,h.1⟩
  | succ k=>simpa using RdCs.at h.2 k c (by simpa using hk)
 | [],_::_,h,_,_,_=>h.elim
 | _::_,[],h,_,_,_=>h.elim
theorem RdCs.glue {w:World} {us:List Value} {o n m:Nat} {A B:List Cl} (hA:RdCs w ((us.drop o).take n) A) (hm:o+n=m) (hB:RdCs w (us.drop m) B):RdCs w (us.drop o) (A++B):=by
 subst hm
 have:=hA.append hB
 rwa [← jX,bW] at this
theorem RdCs.last {w:World} {us:List Value} {o n:Nat} {A:List Cl} (hA:RdCs w ((us.drop o).take n) A) (hm:us.length=o+n):RdCs w (us.drop o) A:=by
 rwa [vG (by simp; omega)] at hA
theorem RdCs.agg {w:World} {us:Array Value} {cs:List Cl} (h:RdCs w us.toList cs):RdA w (Old w) (.agg cs) (.agg us):=
 ⟨us.toList,by simp,h.len,fun k c hk=>h.at k c hk⟩
theorem RdCs.one {w:World} {v:Value} {c:Cl} (h:RdCs w [v] [c]):RdD w (Old w) c v:=h.1
variable {H:Type} {enc:TypeId×Value→H} {P:Program} {w:World} {sp:Nat→Bool} {held:Bool}
theorem mapM_each {α β:Type} {f:α→Option β}:∀ {l:List α} {ys:List β},l.mapM f=some ys→∀ (j:Nat) (x:α),l[j]?=some x→∃ y,f x=some y
 | [],_,_,j,x,hj=>by simp at hj
 | a::l,ys,h,j,x,hj=>by
  rw[List.mapM_cons] at h
  cases ha:f a with
  | none=>simp[ha] at h
  | some b =>
   cases hl:l.mapM f with
   | none=>simp[ha,hl] at h
   | some bs =>
    cases j with
    | zero=>simp at hj; subst hj; exact⟨b,ha⟩
    | succ j=>exact mapM_each hl j x (by simpa using hj)
theorem mapM_at {α β:Type} {f:α→Option β}:∀ {l:List α} {ys:List β},l.mapM f=some ys→∀ (j:Nat) (x:α),l[j]?=some x→∃ y,ys[j]?=some y∧f x=some y
 | [],_,_,j,x,hj=>by simp at hj
 | a::l,ys,h,j,x,hj=>by
  rw[List.mapM_cons] at h
  cases ha:f a with
  | none=>simp[ha] at h
  | some b =>
   cases hl:l.mapM f with
   | none=>simp[ha,hl] at h
   | some bs =>
    simp[ha,hl] at h
    subst h
    cases j with
    | zero=>simp at hj; subst hj; exact⟨b,rfl,ha⟩
    | succ j=>simpa using mapM_at hl j x (by simpa using hj)
theorem jM {k:IntKind} {t:TypeId} (ht:P.underlying t=some (.int k)) {fuel:Nat} {cs:List Value} {y:DataW H×List MemPlace} (h:DataW.trod enc P w 0 sp held fuel t cs=some y) :
  ∃ n:Int,RdCs w cs [.v (.int k n)]:=by
 cases fuel with
 | zero=>simp[DataW.trod] at h
 | succ fuel =>
  unfold DataW.trod at h
  rw[ht] at h
  simp only at h
  split at h<;>simp_all
  rename_i k' n heq
  obtain⟨⟨rfl,hw⟩,_⟩:=h
  exact⟨n,⟨rfl,by simpa [Kz] using hw⟩,trivial⟩
theorem mF {t:TypeId} (ht:P.underlying t=some .bool) {fuel:Nat} {cs:List Value} {y:DataW H×List MemPlace} (h:DataW.trod enc P w 0 sp held fuel t cs=some y) :
  ∃ n:Bool,RdCs w cs [.v (.bool n)]:=by
 cases fuel with
 | zero=>simp[DataW.trod] at h
 | succ fuel =>
  rcases cs with _ | ⟨c,_ | ⟨c2,cs⟩⟩
  ·simp[DataW.trod,ht] at h
  ·cases c with
   | bool b=>exact⟨b,⟨rfl,rfl⟩,trivial⟩
   | _=>simp[DataW.trod,ht] at h
  ·simp[DataW.trod,ht] at h
theorem eG {t:TypeId} (ht:P.underlying t=some .string) {fuel:Nat} {cs:List Value} {y:DataW H×List MemPlace} (h:DataW.trod enc P w 0 sp held fuel t cs=some y) :
  ∃ n:ByteArray,RdCs w cs [.v (.string n)]:=by
 cases fuel with
 | zero=>simp[DataW.trod] at h
 | succ fuel =>
  rcases cs with _ | ⟨c,_ | ⟨c2,cs⟩⟩
  ·simp[DataW.trod,ht] at h
  ·cases c with
   | string b =>
    simp only[DataW.trod,ht] at h
    split at h
    ·rename_i hb
     exact⟨b,⟨rfl,by simpa [Kz] using hb⟩,trivial⟩
    ·cases h
   | _=>simp[DataW.trod,ht] at h
  ·simp[DataW.trod,ht] at h
theorem eH {t:TypeId} {fs:Array Field} (ht:P.underlying t=some (.struct fs)) {fuel:Nat} {cs:List Value} {y:DataW H×List MemPlace} (h:DataW.trod enc P w 0 sp held (fuel+1) t cs=some y) :
  cs.length=P.cellsOf t∧∀ (j:Nat) (f:Field),fs.toList[j]?=some f→∃ y,DataW.trod enc P w 0 sp held fuel f.type ((cs.drop f.offset).take (P.cellsOf f.type))=some y:=by
 simp only[DataW.trod,ht] at h
 split at h
 ·rename_i hl
  obtain⟨xs,hx,_⟩:=cu.1 h
  exact⟨hl,fun j f hj=>mapM_each hx j f hj⟩
 ·cases h
theorem jO {α:Type} {f:α→List Cl} {t e:TypeId} (ht:P.underlying t=some (.slice e)) {fuel:Nat} (hlen:∀ x,(f x).length=P.cellsOf e) (hpos:0<P.cellsOf e)
  (he:∀ (cs:List Value) (y:DataW H×List MemPlace),DataW.trod enc P w 0 sp held fuel e cs=some y→∃ x,RdCs w cs (f x))
  {cs:List Value} {y:DataW H×List MemPlace} (h:DataW.trod enc P w 0 sp held (fuel+1) t cs=some y):∃ xs:List α,RdCs w cs [.sl (xs.map f)]:=by
 rcases cs with _ | ⟨c,_ | ⟨c2,cs⟩⟩
 ·simp[DataW.trod,ht] at h
 ·cases c with
  | slice a len cap =>
   cases a with
   | none =>
    have:len=0∧cap=0:=by
     simp only[DataW.trod,ht] at h
     split at h<;>simp_all
    obtain⟨rfl,rfl⟩:=this
    exact⟨[],⟨by simp only[RdD]; exact⟨none,0,rfl,by simp,by simp[maxLen],⟨0,by simp⟩,.inl rfl⟩,trivial⟩⟩
   | some a =>
    simp only[DataW.trod,ht] at h
    split at h
    ·rename_i hb
     obtain⟨_,hlc,hcm⟩:=hb
     obtain⟨es,hes,_⟩:=Option.bind_eq_some_iff.1 h
     have hel:∀ i,i<len→∃ x:α,∃ vs:List Value,w.cells? 0 (a.add (i*P.cellsOf e)) (P.cellsOf e)=some vs∧RdCs w vs (f x):=by
      intro i hi
      obtain⟨z,hz⟩:=mapM_each hes i i (by simp[hi])
      obtain⟨vs,hvs,hz⟩:=Option.bind_eq_some_iff.1 hz
      obtain⟨x,hx⟩:=he vs z hz
      exact⟨x,vs,hvs,hx⟩
     by_cases hz:len=0
     ·subst hz
      exact⟨[],⟨by simp only[RdD]; exact⟨some a,cap,rfl,by simp,hcm,⟨0,by simp⟩,.inl rfl⟩,trivial⟩⟩
     ·have hcell:∀ i,i<len→∀ k,k<P.cellsOf e→∃ u,w.cell? ((a.add (i*P.cellsOf e)).add k)=some u:=by
       intro i hi k hk
       obtain⟨x,vs,hvs,hx⟩:=hel i hi
       simp only[World.cells?,aJ,bC] at hvs
       obtain⟨u,hu⟩:=mapM_each hvs k k (by simp[hk])
       exact⟨u,hu⟩
      have hspot:a.spot=none:=by
       obtain⟨u,hu⟩:=hcell 0 (by omega) 0 hpos
       simp only[Nat.zero_mul,Addr.add,bC] at hu
       unfold World.cell? at hu
       split at hu
       ·split at hu
        ·cases hu
        ·rename_i hs; simpa using hs
       ·cases hu
      obtain⟨b,off,spot⟩:=a
      simp only at hspot
      subst hspot
      have hadd:∀ i,(⟨b,off,none⟩:Addr).add i=⟨b,off+i,none⟩:=by
       intro i; unfold Addr.add; split
       ·rename_i h0; subst h0; rfl
       ·rfl
      simp only[hadd] at hel
      have hch:∃ g:Nat→α,∀ i,i<len→∃ vs:List Value,w.cells? 0 ⟨b,off+i*P.cellsOf e,none⟩ (P.cellsOf e)=some vs∧RdCs w vs (f (g i)):=by
       obtain⟨x0,_⟩:=hel 0 (by omega)
       refine⟨fun i=>if h:i<len then(hel i h).choose else x0,fun i hi=>?_⟩
       simp only[hi,dif_pos]
       exact(hel i hi).choose_spec
      obtain⟨g,hg⟩:=hch
      refine⟨(List.range len).map g,⟨?_,trivial⟩⟩
      simp only[RdD]
      refine⟨some ⟨b,off,none⟩,cap,by simp,by simpa using hlc,hcm,⟨P.cellsOf e, ?_⟩,.inr ⟨b,off,rfl, ?_⟩⟩
      ·intro x hx
       simp only[cO] at hx
       obtain⟨y,_,rfl⟩:=hx
       exact hlen y
      ·refine RdE.mk (P.cellsOf e) ?_ fun i x hi=>?_
       ·intro x hx
        simp only[cO] at hx
        obtain⟨y,_,rfl⟩:=hx
        exact hlen y
       ·have hil:i<len:=by
         rcases aX i len with h' | h'
         ·exact h'
         ·rw[df (by simpa using h')] at hi; cases hi
        have hx:x=f (g i):=by simpa [hil] using hi.symm
        subst hx
        obtain⟨vs,hvs,hrd⟩:=hg i hil
        refine RdL.mk fun j c hj=>?_
        obtain⟨u,hu,hc⟩:=hrd.at j c hj
        simp only[World.cells?,aJ,bC] at hvs
        have hjl:j<P.cellsOf e:=by
         rw[← hlen (g i)]
         rcases aX j (f (g i)).length with h' | h'
         ·exact h'
         ·rw[df h'] at hj; cases hj
        obtain⟨u2,hu2,hcl⟩:=mapM_at hvs j j (by simp[hjl])
        rw[hu2] at hu
        simp only[ag] at hu
        subst hu
        have hadd2:(⟨b,off+i*P.cellsOf e,none⟩:Addr).add j=⟨b,off+i*P.cellsOf e+j,none⟩:=by
         unfold Addr.add; split
         ·rename_i h0; subst h0; rfl
         ·rfl
        rw[hadd2] at hcl
        exact⟨by simp[Old,hcl],u2,hcl,hc⟩
    ·cases h
  | _=>simp[DataW.trod,ht] at h
 ·simp[DataW.trod,ht] at h
theorem Dq {α:Type} {f:α→List Cl} {t e:TypeId} {n:Nat} (ht:P.underlying t=some (.slice e)) (hn:P.cellsOf e=n) (hlen:∀ x,(f x).length=n) (hpos:0<n) {fuel:Nat}
  (he:∀ fuel',fuel'<fuel→∀ (cs:List Value) (y:DataW H×List MemPlace),DataW.trod enc P w 0 sp held fuel' e cs=some y→∃ x,RdCs w cs (f x))
  {cs:List Value} {y:DataW H×List MemPlace} (h:DataW.trod enc P w 0 sp held fuel t cs=some y):∃ xs:List α,RdCs w cs [.sl (xs.map f)]:=by
 subst hn
 cases fuel with
 | zero=>simp[DataW.trod] at h
 | succ fuel=>exact jO ht hlen hpos (he fuel (by omega)) h
theorem Bj {t:TypeId} {fs:Array Field} {n:Nat} (ht:P.underlying t=some (.struct fs)) (hn:P.cellsOf t=n) {fuel:Nat} {cs:List Value} {y:DataW H×List MemPlace} (h:DataW.trod enc P w 0 sp held fuel t cs=some y) :
  ∃ fuel',fuel'<fuel∧cs.length=n∧∀ (j:Nat) (f:Field),fs.toList[j]?=some f→∃ y,DataW.trod enc P w 0 sp held fuel' f.type ((cs.drop f.offset).take (P.cellsOf f.type))=some y:=by
 subst hn
 cases fuel with
 | zero=>simp[DataW.trod] at h
 | succ fuel=>exact⟨fuel,by omega,eH ht h⟩
theorem Old.lt {w:World} {b o:Nat} (h:Old w b o):b<w.heap.size:=by
 unfold Old World.cell? at h
 rcases aX b w.heap.size with h' | h'
 ·exact h'
 ·simp[Array.getElem?_eq_none h'] at h
end Go.Vm
namespace Go.Vm
variable {P:Program} {w0:Bs} {St0 St:Nat→Nat→Prop} {β:Nat→Option Nat} {s t r:MS} {a:Act} {w:World}
theorem Core.reTell (h:Core w0 St0 St β s a w) (env':List (Nat×AV)) (st':List Ob)
  (hr:∀ l u,Aq w s.st β l u→Aq w st' β l u) (hp:∀ l i off u,AVR w St s.st β (.lp l i off) u→AVR w St st' β (.lp l i off) u)
  (henv:∀ i u,AVR w St st' β (BK s.env i) u→AVR w St st' β (BK env' i) u)
  (hst:∀ (l:Nat) (o':Ob),st'[l]?=some o'→o'.live=true→∃ o:Ob,s.st[l]?=some o∧o.live=true∧o'.ty=o.ty∧o'.sz=o.sz∧o'.wr=o.wr∧o'.xs.length=o.xs.length∧((∀ x∈o.xs,x.length=o.sz)→∀ x∈o'.xs,x.length=o.sz) ∧
   ∀ (k:Nat) (c':Cl),o'.xs.flatten[k]?=some c'→∃ c,o.xs.flatten[k]?=some c∧(∀ u,RdB w St st' β c u→RdB w St st' β c' u)∧(Dj c'=true→c=c')) :
  Core w0 St0 St β ⟨s.n,env',st'⟩ a w:=by
 have hA:∀ x u,AVR w St s.st β x u→AVR w St st' β x u:=fun x u hx=>AVR.mono (fun _ _ h=>h) (fun _ _ _=>rfl) hr hp x u hx
 have hB:∀ c u,RdB w St s.st β c u→RdB w St st' β c u:=fun c u hc=>RdB.mono (fun _ _ h=>h) (fun _ _ _=>rfl) hr c u hc
 exact {
  defers:=h.defers
  size:=h.size
  env:=fun i=>henv i _ (hA _ _ (h.env i))
  below:=h.below
  st0:=h.st0
  stOld:=h.stOld
  stIn:=h.stIn
  obs:=fun l o' b hl hlv hb=>by
   obtain⟨o,q1,q2,q3,q4,q5,q6,q7,q8⟩:=hst l o' hl hlv
   obtain⟨p1,p2,cs,p3,p4,p5⟩:=h.obs l o b q1 q2 hb
   refine⟨p1,p2,cs,by rw[q3]; exact p3,by rw[q4]; exact q7 p4,fun k c' hk=>?_⟩
   obtain⟨c,r1,r2,r3⟩:=q8 k c' hk
   obtain⟨u,u1,u2⟩:=p5 k c r1
   exact⟨u,u1,r2 u (hB c u u2)⟩
  nil:=fun l o' hl hlv hb=>by
   obtain⟨o,q1,q2,q3,q4,q5,q6,q7,q8⟩:=hst l o' hl hlv
   have:=h.nil l o q1 q2 hb
   rw[this] at q6
   exact bz q6
  inj:=fun l l' o1 o2 b h1 h2 g1 g2 hb hb'=>by
   obtain⟨p1,q1,q2,_⟩:=hst l o1 h1 g1
   obtain⟨p2,q3,q4,_⟩:=hst l' o2 h2 g2
   exact h.inj l l' p1 p2 b q1 q3 q2 q4 hb hb'
  sep:=fun l o' b o hl hlv hb hs=>by
   obtain⟨p,q1,q2,q3,q4,q5,q6,q7,q8⟩:=hst l o' hl hlv
   rw[q4,q5,q6]
   exact h.sep l p b o q1 q2 hb hs
  own:=h.own.move id (fun x hx=>⟨⟨hx.1,fun h=>h,hx.2.2.1,hx.2.2.2.1,fun l o' hl hlv=>by
    obtain⟨o,q1,q2,_⟩:=hst l o' hl hlv
    exact hx.2.2.2.2 l o q1 q2⟩,rfl⟩) (fun _ _ h=>h) (fun _ _ _=>rfl)
   (fun l o' b k c hl hlv hb hk hc=>by
    obtain⟨o,q1,q2,q3,q4,q5,q6,q7,q8⟩:=hst l o' hl hlv
    obtain⟨c0,r1,r2,r3⟩:=q8 k c hk
    have:=r3 hc
    subst this
    exact⟨o,b,q1,q2,hb,r1,rfl⟩) (fun _ _ _ _ _ _ _ _ e=>e) }
def yC:Cl:=.v (.slice none 0 0)
theorem Core.nilOb (h:Core w0 St0 St β s a w) (e n:Nat):∃ β',Core w0 St0 St β' ⟨s.n,s.env,s.st ++ [⟨e,n,[],true,true⟩]⟩ a w∧∀ u,RdC w St (s.st ++ [⟨e,n,[],true,true⟩]) β' yC u→RdC w St (s.st ++ [⟨e,n,[],true,true⟩]) β' (.ref s.st.length) u:=by
 obtain⟨a1,a2,a3⟩:=h.addOb ⟨e,n,[],true,true⟩ none (fun _=>rfl) (by simp) h.own (by simp)
 refine⟨_,a1,fun u hu=>?_⟩
 have hu':u = .slice none 0 0:=by
  exact(I8 (St:=St) (w:=w) (v:=(.slice none 0 0:Value)) (u:=u) (by simp only[AVR]; exact hu)).1
 subst hu'
 have:=IA (w:=w) (St:=St) (β:=fun l=>if l=s.st.length then none else β l) (st:=s.st) (ob:=⟨e,n,[],true,true⟩) (b:=none) (u:=.slice none 0 0) rfl (by simp) fun _=>⟨rfl,rfl⟩
 simpa only[AVR] using this
theorem Head.trans (h1:Head s t) (h2:Head t r):Head s r:=⟨h2.1.trans h1.1,fun w0 St0 St β a w h=>by
 obtain⟨St',β',h'⟩:=h1.2 w0 St0 St β a w h
 exact h2.2 w0 St0 St' β' a w h'⟩
theorem Head.rel (sel:List (Nat×Bool)) (keys:List Nat) (h:Lm sel keys s) (e:Go.Vm.rel sel keys s=t):Head s t:=⟨by rw[← e]; rfl,fun w0 St0 St β a w hc=>⟨St,OQ sel β,by rw[← e]; exact hc.rel h⟩⟩
theorem Head.abs (N l0:Nat) (keys:List Nat) (h:gU N l0 keys s t):Head s t:=by
 obtain⟨i,R,row,row',ob,⟨g1,g2,g3,g4,g5⟩,g6,⟨g7,g8⟩,g9⟩:=h
 exact⟨by rw[← g9],fun w0 St0 St β a w hc=>⟨St,β,by rw[← g9]; exact hc.absTrim g1 g2 g3 g4 g5 g6 g7 g8⟩⟩
theorem Head.nilR (l j e n:Nat) (ob:Ob) (row:List Cl) (hob:s.st[l]?=some ob) (hrow:ob.xs = [row]) (h:row[j]?=some (.v (.slice none 0 0))):Head s ⟨s.n,s.env,s.st.set l ⟨ob.ty,ob.sz,[row.set j (.ref s.st.length)],ob.wr,ob.live⟩ ++ [⟨e,n,[],true,true⟩]⟩:=⟨rfl,fun w0 St0 St β a w hc=>by
 obtain⟨β',h1,h2⟩:=hc.nilOb e n
 have hl:l<s.st.length:=(az.1 hob).1
 have hg:∀ (l2:Nat) (o2:Ob),(s.st.set l ⟨ob.ty,ob.sz,[row.set j (.ref s.st.length)],ob.wr,ob.live⟩ ++ [⟨e,n,[],true,true⟩])[l2]?=some o2→(l2=l∧o2=⟨ob.ty,ob.sz,[row.set j (.ref s.st.length)],ob.wr,ob.live⟩)∨(l2≠l∧(s.st ++ [(⟨e,n,[],true,true⟩:Ob)])[l2]?=some o2):=by
  intro l2 o2 h2
  by_cases e1:l2=l
  ·subst e1
   rw[ah (by simpa using hl),bK] at h2
   simp[hl] at h2
   exact .inl ⟨rfl,h2.symm⟩
  ·refine .inr ⟨e1, ?_⟩
   rw[List.getElem?_append] at h2 ⊢
   simp only[bu] at h2
   split at h2
   ·rename_i hlt
    rw[bK,Eh (fun e2=>e1 e2.symm)] at h2
    rw[ED hlt]; exact h2
   ·rename_i hlt
    rw[Eh hlt]; exact h2
 have hg2:∀ (l2:Nat) (o2:Ob),(s.st ++ [(⟨e,n,[],true,true⟩:Ob)])[l2]?=some o2→∃ o3,(s.st.set l ⟨ob.ty,ob.sz,[row.set j (.ref s.st.length)],ob.wr,ob.live⟩ ++ [⟨e,n,[],true,true⟩])[l2]?=some o3∧o3.live=o2.live∧o3.sz=o2.sz∧o3.ty=o2.ty∧o3.xs.length=o2.xs.length:=by
  intro l2 o2 h2
  by_cases e1:l2=l
  ·subst e1
   rw[ah hl,hob] at h2
   cases h2
   exact⟨⟨ob.ty,ob.sz,[row.set j (.ref s.st.length)],ob.wr,ob.live⟩,by rw[ah (by simpa using hl),bK]; simp only[bC,hl],rfl,rfl,rfl,by simp[hrow]⟩
  ·refine⟨o2, ?_,rfl,rfl,rfl,rfl⟩
   rw[List.getElem?_append] at h2 ⊢
   simp only[bu]
   split at h2
   ·rename_i hlt
    rw[ED hlt,bK,Eh (fun e2=>e1 e2.symm)]; exact h2
   ·rename_i hlt
    rw[Eh hlt]; exact h2
 have hr:∀ (l2:Nat) (u:Value),Aq w (s.st ++ [⟨e,n,[],true,true⟩]) β' l2 u→Aq w (s.st.set l ⟨ob.ty,ob.sz,[row.set j (.ref s.st.length)],ob.wr,ob.live⟩ ++ [⟨e,n,[],true,true⟩]) β' l2 u:=by
  intro l2 u hu
  unfold Aq at hu ⊢
  cases hq:(s.st ++ [(⟨e,n,[],true,true⟩:Ob)])[l2]? with
  | none=>simp[hq] at hu
  | some o2 =>
   obtain⟨o3,p1,p2,p3,p4,p5⟩:=hg2 l2 o2 hq
   simp only[hq] at hu
   simp only[p1]
   refine⟨hu.1,fun hlv=>?_⟩
   have h3:=hu.2 (by rw[← p2]; exact hlv)
   cases hβ:β' l2 with
   | none=>simp only[hβ] at h3 ⊢; exact⟨h3.1,bz (by rw[p5,h3.2]; rfl)⟩
   | some b=>simp only[hβ] at h3 ⊢; simpa only[p3,p4,p5] using h3
 refine⟨St,β',h1.reTell _ _ hr (fun l2 i off u hu=>?_) (fun i u hu=>hu) (fun l2 o' hl2 hlv=>?_)⟩
 ·simp only[AVR] at hu ⊢
  cases hq:(s.st ++ [(⟨e,n,[],true,true⟩:Ob)])[l2]? with
  | none=>simp[hq] at hu
  | some o2 =>
   obtain⟨o3,p1,p2,p3,_⟩:=hg2 l2 o2 hq
   simp only[hq] at hu
   simp only[p1,p2,p3]
   exact hu
 ·rcases hg l2 o' hl2 with ⟨rfl,rfl⟩ | ⟨_,h3⟩
  ·refine⟨ob,by rw[ah hl]; exact hob,hlv,rfl,rfl,rfl,by simp[hrow],fun hx x hx2=>?_,fun k c' hk=>?_⟩
   ·simp only[oq] at hx2
    subst hx2
    rw[bu]
    exact hx row (by simp[hrow])
   ·simp only[bM,fB,bU] at hk
    rw[hrow]
    simp only[bM,fB,bU]
    rw[bK] at hk
    by_cases e1:j=k
    ·subst e1
     have hj:j<row.length:=(az.1 h).1
     simp only[bC,hj,ag] at hk
     subst hk
     exact⟨_,h,fun u hu=>hr _ u (h2 u hu),fun hc=>by simp[Dj] at hc⟩
    ·rw[Eh e1] at hk
     exact⟨c',hk,fun _ h=>h,fun _=>rfl⟩
  ·exact⟨o',h3,hlv,rfl,rfl,rfl,rfl,fun h=>h,fun k c hk=>⟨c,hk,fun _ h=>h,fun _=>rfl⟩⟩⟩
theorem LoopG.mk {s:MS} {body:MS→(MS→Prop)→Prop} {A:Type} (f:A→MS) (p:A→Prop) (μ:A→Nat) (x0:A) (h0:Head s (f x0)) (hp:p x0)
  (h:∀ x,p x→body (f x) fun s'=>∃ y,True∧Head s' (f y)∧p y∧μ y<μ x):LoopK s body:=
 ⟨fun _=>True,fun s t=>Head s t,A,f,p,μ,fun s t _ h=>h,⟨x0,trivial,h0,hp⟩,h⟩
def hasK (k:Nat):List Nat→Bool
 | []=>false
 | x::xs=>if x=k then true else hasK k xs
def uO:Bool→Nat→List Nat→List Nat
 | true,_,l=>l
 | false,k,l=>k::l
def keysOf:List Nat→List (Nat×AV)→List Nat
 | _,[]=>[]
 | seen,(k,_)::r=>uO (hasK k seen) k (keysOf (k::seen) r)
def qU:List Nat→List (Nat×AV)→List (Nat×AV)
 | [],_=>[]
 | k::ks,e=>(k,BK e k)::qU ks e
def Ns (dr:List Nat) (up:List (Nat×AV)) (s:MS) (st:List Ob):MS:=⟨s.n,qU (keysOf dr s.env) (up++s.env),st⟩
attribute [go_sem] hasK uO keysOf qU Ns
theorem LoopU.mk {s:MS} {body:MS→(MS→Prop)→Prop} (N:Nat) {A:Type} (up:A→List (Nat×AV)) (stf:A→List Ob) (p:A→Prop) (μ:A→Nat) (x0:A)
  (h0:Ja N (keysOf [] s.env) s∧trim N (keysOf [] s.env) s=Ns [] (up x0) s (stf x0)∧p x0)
  (h:∀ x,p x→body (Ns [] (up x) s (stf x)) fun s'=>∃ y,Ja N (keysOf [] s.env) s'∧trim N (keysOf [] s.env) s'=Ns [] (up y) s (stf y)∧p y∧μ y<μ x):LoopK s body:=
 LoopK.mk N (keysOf [] s.env) (fun x=>Ns [] (up x) s (stf x)) p μ x0 h0 h
theorem LoopH.mk {s:MS} {body:MS→(MS→Prop)→Prop} (dr:List Nat) {A:Type} (up:A→List (Nat×AV)) (stf:A→List Ob) (p:A→Prop) (μ:A→Nat) (x0:A)
  (h0:Head s (Ns dr (up x0) s (stf x0))) (hp:p x0)
  (h:∀ x,p x→body (Ns dr (up x) s (stf x)) fun s'=>∃ y,True∧Head s' (Ns dr (up y) s (stf y))∧p y∧μ y<μ x):LoopK s body:=
 LoopG.mk (fun x=>Ns dr (up x) s (stf x)) p μ x0 h0 hp h
theorem Head.sel (sel:List (Nat×Bool)) {n:Nat} {env:List (Nat×AV)} {st:List Ob} (h:Lm sel (env.map Prod.fst) s) (e:Go.Vm.rel sel (env.map Prod.fst) s=⟨n,env,st⟩):Head s ⟨n,env,st⟩:=Head.rel sel _ h e
theorem Head.selAbs (sel:List (Nat×Bool)) (N l0:Nat) {n:Nat} {env:List (Nat×AV)} {st:List Ob} (h:Lm sel (env.map Prod.fst) s) (h2:gU N l0 (env.map Prod.fst) (Go.Vm.rel sel (env.map Prod.fst) s) ⟨n,env,st⟩):Head s ⟨n,env,st⟩:=Head.trans (Head.rel sel _ h rfl) (Head.abs N l0 _ h2)
theorem Fa {sel:List (Nat×Bool)} {xs:List (List Cl)} (h:IK xs=true):xs.map (fun x=>x.map (P9 sel))=xs:=by
 conv=>rhs; rw[← List.map_id xs]
 exact qj fun x hx=>pX (aA.1 h x hx)
theorem CB {N ty sz:Nat} {R:List (List Cl)} {wr live:Bool} (h:IK R=true):BQ N ⟨ty,sz,R,wr,live⟩=true:=by
 simp only[BQ,jW]
 refine .inr (aA.2 fun x hx=>aA.2 fun c hc=>?_)
 have:=aA.1 (aA.1 h x hx) c hc
 cases c<;>simp_all [IJ,Dk]
theorem all2 {N:Nat} {a b:Ob} (ha:BQ N a=true) (hb:BQ N b=true) : [a,b].all (BQ N)=true:=by simp[ha,hb]
theorem Fb {sel:List (Nat×Bool)} {xs:List (List Cl)} (h:IK xs=true):(xs.all fun x=>x.all (Zk sel))=true:=aA.2 fun x hx=>pY (aA.1 h x hx)
theorem Em (a:Value) (l:Nat):IK [[.v a,.ref l]]=false:=rfl
end Go.Vm
namespace Go.Vm
open Go.RowKit
variable {P:Program} {w0:Bs} {St0 St:Nat→Nat→Prop} {β:Nat→Option Nat} {s:MS} {a:Act} {w:World}
end Go.Vm
open Go.Proofs.Tryz
namespace Go.Proofs.YtgkmefoghbjfnaaGreat
open Go.Vm
@[go_sem] theorem uP {n:Nat} {d:Departure}:Region.binds .any ⟨n,.textOnly d⟩=false:=rfl
@[go_sem] theorem uQ {n:Nat} {d:Departure}:Region.binds .any ⟨n,.gcOnly d⟩=false:=rfl
theorem Ai (N ty:Nat) (d:List Int):BQ N ⟨ty,1,d.map intC,true,true⟩=true:=by
 simp only[BQ,AP intC.pure,TZ]
theorem EZ {d:List Int} {i:Nat} (h:i<d.length):(d.map intC)[i]?=some [.v (.int .i64 (at0 d i))]:=by
 rw[cZ,IY h]; rfl
theorem QM (d:List Int) (i:Nat) (n:Int):(d.map intC).set i [Cl.v (.int .i64 n)]=(d.set i n).map intC:=by rw[List.map_set]; rfl
theorem C9 (l:List Int):IK (l.map intC)=true:=CO (AP intC.pure)
theorem H8 (d:List Int) (a b n:Nat) (h1:a+n≤b) (h2:b+n≤d.length) (hl:d.length≤1048576) (g:FuncId) (xs:List (List Cl)) :
  MCtr prog 183 false [.ow 3 1 (d.map intC)] [.c (.v (.int .i64 ((a:Int)))),.c (.v (.int .i64 ((b:Int)))),.c (.v (.int .i64 ((n:Int)))),.clo g xs] (fun cl' rs=>cl' = [.ow 3 1 ((JR d a b n).map intC)]∧rs = []):=by
 refine MCtr.mk (fn:=f183) call183 func183 rfl mixed ntmps183 results183 (by kernel_rfl) rfl (.inr rfl) fun us hw0 hw=>?_
 simp only[go_sem]
 refine LoopK.mk 1 [0,1,2,3,10] (A:=Nat) (fun i=>⟨38,[(0,.pin (.c (.ref 0)) (mkV false us)),(1,.c (.v (.int .i64 ((a:Int))))),(2,.c (.v (.int .i64 ((b:Int))))),(3,.c (.v (.int .i64 ((n:Int))))),(10,.c (.v (.int .i64 ((i:Int)))))],[⟨3,1,(JR d a b i).map intC,true,true⟩]⟩)
  (fun i=>i≤n) (fun i=>n-i) 0 ⟨⟨rfl,by simp only[bf,bG,aS,aZ,aH,Ai]⟩,by rw[d_ (by omega) (by omega)]; rfl,aJ _⟩ ?_
 intro i hi
 simp only[go_sem]
 refine cndC.mk (fun h=>?_) (fun h=>?_)
 ·have hin:i<n:=by simpa using h
  have hyl:=Nr (d:=d) (a:=a) (b:=b) (n:=i) (by omega) (by omega)
  have hst:=eF (d:=d) (a:=a) (b:=b) (n:=i) (by omega) (by omega)
  generalize JR d a b i=ys at hyl hst
  have ea:IntKind.i64.wrap ((a:Int)+(i:Int))=((a+i:Nat):Int):=by rw[wrap_i64 (by omega) (by omega)]; omega
  have eb:IntKind.i64.wrap ((b:Int)+(i:Int))=((b+i:Nat):Int):=by rw[wrap_i64 (by omega) (by omega)]; omega
  have la:a+i<ys.length:=by omega
  have lb:b+i<ys.length:=by omega
  have e1:=EZ la
  have e2:=EZ lb
  simp only[go_sem,ea,eb,e1,e2,la,lb,ae]
  refine DrawK.mkE ?_
  have e3:((ys.set (a+i) (at0 ys (b+i))).map intC)[b+i]?=some [.v (.int .i64 (at0 ys (b+i)))]:=by
   rw[cZ,bK,Eh (by omega),IY lb]; rfl
  simp only[go_sem,ea,eb,e1,e2,e3,la,lb,ae,QM,bu,wrap_i64 (n:=(i:Int)+1) (by omega) (by omega)]
  refine⟨i+1,⟨rfl,by simp only[bf,bG,aS,aZ,aH,Ai]⟩, ?_,by omega,by omega⟩
  rw[← hst]
  rfl
 ·have hin:i=n:=by simp at h; omega
  subst hin
  simp only[go_sem]
  exact⟨[.ref 0],[.ow 3 1 _],[],rfl,.inr rfl,⟨rfl,rfl,rfl,rfl,C9 _,by simp,trivial⟩,by simp only[CQ,D5,aH]; exact EN fun x hx=>by obtain⟨y,_,rfl⟩:=cO.1 hx; rfl,rfl,rfl,rfl,rfl⟩
theorem LM {x y:Nat} (h:y≤x) (hx:x≤1048576000):IntKind.i64.wrap ((x:Int)-(y:Int))=((x-y:Nat):Int):=by rw[wrap_i64 (by omega) (by omega)]; omega
theorem addN {x y:Nat} (hx:x≤1048576000) (hy:y≤1048576000):IntKind.i64.wrap ((x:Int)+(y:Int))=((x+y:Nat):Int):=by rw[wrap_i64 (by omega) (by omega)]; omega
theorem XK (d:List Int) (a m b:Nat) (h1:a<m) (h2:m<b) (h3:b≤d.length) (hl:d.length≤1048576) (g:FuncId) (xs:List (List Cl)) :
  MCtr prog 168 false [.ow 3 1 (d.map intC)] [.c (.v (.int .i64 ((a:Int)))),.c (.v (.int .i64 ((m:Int)))),.c (.v (.int .i64 ((b:Int)))),.clo g xs] (fun cl' rs=>cl' = [.ow 3 1 ((Dn d a m b).map intC)]∧rs = []):=by
 refine MCtr.mk (fn:=f168) call168 func168 rfl mixed ntmps168 results168 (by kernel_rfl) rfl (.inr rfl) fun us hw0 hw=>?_
 have e1:=LM (x:=m) (y:=a) (by omega) (by omega)
 have e2:=LM (x:=b) (y:=m) (by omega) (by omega)
 have q1:0<m-a:=by omega
 have q2:0<b-m:=by omega
 have q3:m-a≤m:=by omega
 have q4:m+(b-m)≤d.length:=by omega
 simp only[go_sem,e1,e2]
 refine LoopK.mk 1 [0,2,4,10,11] (A:=Nat×Nat×List Int) (fun x=>⟨58,[(0,.pin (.c (.ref 0)) (mkV false us)),(2,.c (.v (.int .i64 ((m:Int))))),(4,.clo g xs),(10,.c (.v (.int .i64 ((x.1:Int))))),(11,.c (.v (.int .i64 ((x.2.1:Int)))))],[⟨3,1,x.2.2.map intC,true,true⟩]⟩)
  (fun x=>0<x.1∧0<x.2.1∧x.1≤m∧m+x.2.1≤d.length∧x.2.2.length=d.length∧Dn x.2.2 (m-x.1) m (m+x.2.1)=Dn d a m b) (fun x=>x.1+x.2.1) (m-a,b-m,d) ⟨⟨rfl,by simp only[bf,bG,aS,aZ,aH,Ai]⟩,rfl,q1,q2,q3,q4,rfl,by simp only; rw[show m-(m-a)=a by omega,show m+(b-m)=b by omega]⟩ ?_
 rintro⟨i,j,dc⟩ ⟨p1,p2,p3,p4,p5,p6⟩
 dsimp only at p1 p2 p3 p4 p5 p6
 have e3:=LM (x:=m) (y:=i) (by omega) (by omega)
 simp only[go_sem]
 refine cndC.mk (fun h=>?_) (fun h=>?_)
 ·have hne:i≠j:=by simp at h; omega
  simp only[go_sem]
  refine cndC.mk (fun h=>?_) (fun h=>?_)
  ·have hlt:j<i:=by simpa using h
   have e4:=LM (x:=i) (y:=j) (by omega) (by omega)
   simp only[go_sem,e3]
   refine MutK.mk false (zs:=[.ref 0]) (H8 dc (m-i) m j (by omega) (by omega) (by omega) g xs) rfl ⟨rfl,rfl,rfl,rfl,C9 _,by simp,trivial⟩ rfl (.inr rfl) fun cl' rs hM=>?_
   obtain⟨rfl,rfl⟩:=hM
   refine⟨⟨rfl,⟨rfl,rfl⟩,trivial⟩, ?_⟩
   simp only[go_sem,e4]
   refine⟨(i-j,j,JR dc (m-i) m j),⟨rfl,by simp only[bf,bG,aS,aZ,aH,Ai]⟩,rfl,⟨by simp only; omega,p2,by simp only; omega,p4,by simp only; rw[Nr (by omega) (by omega)]; exact p5, ?_⟩,by simp only; omega⟩
   simp only
   rw[jH p3 hlt (by omega)]
   exact p6
  ·have hlt:i<j:=by simp at h; omega
   have e4:=LM (x:=j) (y:=i) (by omega) (by omega)
   have e5:=addN (x:=m) (y:=j) (by omega) (by omega)
   have e6:=LM (x:=m+j) (y:=i) (by omega) (by omega)
   simp only[go_sem,e3,e5,e6]
   refine MutK.mk false (zs:=[.ref 0]) (H8 dc (m-i) (m+j-i) i (by omega) (by omega) (by omega) g xs) rfl ⟨rfl,rfl,rfl,rfl,C9 _,by simp,trivial⟩ rfl (.inr rfl) fun cl' rs hM=>?_
   obtain⟨rfl,rfl⟩:=hM
   refine⟨⟨rfl,⟨rfl,rfl⟩,trivial⟩, ?_⟩
   simp only[go_sem,e4]
   refine⟨(i,j-i,JR dc (m-i) (m+j-i) i),⟨rfl,by simp only[bf,bG,aS,aZ,aH,Ai]⟩,rfl,⟨p1,by simp only; omega,p3,by simp only; omega,by simp only; rw[Nr (by omega) (by omega)]; exact p5, ?_⟩,by simp only; omega⟩
   simp only
   rw[dZ p3 hlt (by omega)]
   exact p6
 ·have hij:i=j:=by simp at h; omega
  subst hij
  simp only[go_sem,e3]
  refine MutK.mk false (zs:=[.ref 0]) (H8 dc (m-i) m i (by omega) (by omega) (by omega) g xs) rfl ⟨rfl,rfl,rfl,rfl,C9 _,by simp,trivial⟩ rfl (.inr rfl) fun cl' rs hM=>?_
  obtain⟨rfl,rfl⟩:=hM
  refine⟨⟨rfl,⟨rfl,rfl⟩,trivial⟩, ?_⟩
  simp only[go_sem]
  rw[jI p3 (by omega),p6]
  exact⟨[.ref 0],[.ow 3 1 _],[],rfl,.inr rfl,⟨rfl,rfl,rfl,rfl,C9 _,by simp,trivial⟩,by simp only[CQ,D5,aH]; exact EN fun x hx=>by obtain⟨y,_,rfl⟩:=cO.1 hx; rfl,rfl,rfl,rfl,rfl⟩
def eP (x y:Int):Int:=if decide (x<y)=true then -1 else if decide (x>y)=true then 1 else 0
theorem Nu {x y:Int}:decide (eP x y<0)=decide (x<y):=by
 unfold eP
 by_cases h:x<y
 ·simp[h]
 ·by_cases h2:x>y
  ·simp[h,h2]
  ·simp[h,h2]
theorem Rj (x:Int):Ctr prog 102 [.c (.v (.int .i64 (x)))] [.val (.c (.v (.bool (false))))]:=by
 refine CM call102 func102 ntmps102 results102 fun hw=>?_
 simp only[go_sem,ax]
theorem U1 (x y:Int):Ctr prog 64 [.c (.v (.int .i64 (x))),.c (.v (.int .i64 (y)))] [.val (.c (.v (.int .i64 (eP x y))))]:=by
 refine CM call64 func64 ntmps64 results64 fun hw=>?_
 simp only[go_sem]
 refine CallK.mk _ (Rj x) fun _=>?_
 simp only[go_sem]
 refine CallK.mk _ (Rj y) fun _=>?_
 unfold eP
 rcases h1:decide (x<y) with _ | _
 ·rcases h2:decide (x>y) with _ | _<;>simp only[go_sem,h1,h2]
 ·simp only[go_sem,h1]
theorem XL (l:List DDeed) (i k:Nat) (hi:i<l.length) (hk:k<l.length):Ctr prog 63 [.c (.v (.int .i64 ((i:Int)))),.c (.v (.int .i64 ((k:Int)))),.ip [.sl (l.map DDeed.c)]] [.val (.c (.v (.int .i64 (eP l[i].lin l[k].lin))))]:=by
 refine CM call63 func63 ntmps63 results63 fun hw=>?_
 simp only[go_sem]
 refine DrawK.mk ?_
 simp only[go_sem,AA _ hi,AA _ hk,hi,hk]
 refine CallF.mk _ (U1 _ _) ?_
 simp only[go_sem]
def CmpOk (P:Program) (g:FuncId) (xs:List (List Cl)) (key:Int→Int) (d:List Int):Prop:=∀ x∈d,∀ y∈d,Ctr P g ([.c (.v (.int .i64 (x))),.c (.v (.int .i64 (y)))]++xs.map AV.ip) [.val (.c (.v (.int .i64 (eP (key x) (key y)))))]
theorem CmpOk.perm {P:Program} {g:FuncId} {xs:List (List Cl)} {key:Int→Int} {d d':List Int} (h:CmpOk P g xs key d) (hp:d'.Perm d):CmpOk P g xs key d':=fun x hx y hy=>h x (hp.mem_iff.1 hx) y (hp.mem_iff.1 hy)
theorem Mrg.perm {key:Int→Int} {a b:Nat} {d d':List Int} (h:Mrg key a b d d'):d'.Perm d:=by
 obtain⟨P,M,M',S,rfl,rfl,_,_,hp,_⟩:=h
 exact List.Perm.append_left P (qh S hp)
theorem Ins.perm {key:Int→Int} {a i j:Nat} {d0 d:List Int} (h:Ins key a i j d0 d):d.Perm d0:=by
 obtain⟨P,L1,x,L2,S,M,rfl,rfl,_,_,_,hp,_⟩:=h
 refine List.Perm.append_left P ?_
 have h1:(L1++x::(L2++S)).Perm (x::(L1++(L2++S))):=List.perm_middle
 have h2:(M++x::S).Perm (x::(M++S)):=List.perm_middle
 refine h1.trans (List.Perm.trans ?_ h2.symm)
 rw[← aY]
 exact List.Perm.cons x (qh S hp)
theorem Mrg.one {key:Int→Int} {a:Nat} {d:List Int} (h:a<d.length):Mrg key a (a+1) d d:=by
 refine⟨d.take a,[d[a]],[d[a]],d.drop (a+1), ?_, ?_,by simp; omega,by simp,qo _,by simp⟩ <;>
  rw[List.singleton_append,List.getElem_cons_drop,bW]
theorem H9 (key:Int→Int) (d:List Int) (a b:Nat) (h1:a≤b) (h2:b≤d.length) (hl:d.length≤1048576) (hs:(d.drop a).Pairwise (· < ·)) (g:FuncId) (xs:List (List Cl)) (hg:CmpOk prog g xs key d) :
  MCtr prog 140 false [.ow 3 1 (d.map intC)] [.c (.v (.int .i64 ((a:Int)))),.c (.v (.int .i64 ((b:Int)))),.clo g xs] (fun cl' rs=>∃ d',cl' = [.ow 3 1 (d'.map intC)]∧rs = []∧Mrg key a b d d'):=by
 refine MCtr.mk (fn:=f140) call140 func140 rfl mixed ntmps140 results140 (by kernel_rfl) rfl (.inr rfl) fun us hw0 hw=>?_
 have e1:=addN (x:=a) (y:=1) (by omega) (by omega)
 simp only[mf] at e1
 simp only[go_sem,e1]
 have hst:Mrg key a (min (a+1) b) d d:=by
  by_cases e:a=b
  ·subst e
   rw[show min (a+1) a=a by omega]
   exact Mrg.nil h2
  ·rw[show min (a+1) b=a+1 by omega]
   exact Mrg.one (by omega)
 refine LoopK.mk 1 [0,1,2,3,8] (A:=Nat×List Int) (fun x=>⟨53,[(0,.pin (.c (.ref 0)) (mkV false us)),(1,.c (.v (.int .i64 ((a:Int))))),(2,.c (.v (.int .i64 ((b:Int))))),(3,.clo g xs),(8,.c (.v (.int .i64 ((x.1:Int)))))],[⟨3,1,x.2.map intC,true,true⟩]⟩)
  (fun x=>a+1≤x.1∧x.1≤b+1∧Mrg key a (min x.1 b) d x.2) (fun x=>b+1-x.1) (a+1,d) ⟨⟨rfl,by simp only[bf,bG,aS,aZ,aH,Ai]⟩,rfl,aQ _,by simp only; omega,hst⟩ ?_
 rintro⟨i,dc⟩ ⟨p1,p2,p3⟩
 dsimp only at p1 p2 p3
 simp only[go_sem]
 refine cndC.mk (fun h=>?_) (fun h=>?_)
 ·have hib:i<b:=by simp at h; omega
  rw[show min i b=i by omega] at p3
  have hI:=Ins.start p3 (by omega) hs
  simp only[go_sem]
  refine LoopK.mk 1 [0,1,2,3,8,9] (A:=Nat×List Int) (fun x=>⟨53,[(0,.pin (.c (.ref 0)) (mkV false us)),(1,.c (.v (.int .i64 ((a:Int))))),(2,.c (.v (.int .i64 ((b:Int))))),(3,.clo g xs),(8,.c (.v (.int .i64 ((i:Int))))),(9,.c (.v (.int .i64 ((x.1:Int)))))],[⟨3,1,x.2.map intC,true,true⟩]⟩)
   (fun x=>a≤x.1∧x.1≤i∧Ins key a i x.1 d x.2) (fun x=>x.1) (i,dc) ⟨⟨rfl,by simp only[bf,bG,aS,aZ,aH,Ai]⟩,rfl,by simp only; omega,aQ _,hI⟩ ?_
  rintro⟨j,dj⟩ ⟨q1,q2,q3⟩
  dsimp only at q1 q2 q3
  have hlj:dj.length=d.length:=q3.perm.length_eq
  have hgj:=hg.perm q3.perm
  have hout:(j=a∨¬ key (at0 dj j)<key (at0 dj (j-1)))→a+1≤i+1∧i+1≤b+1∧Mrg key a (min (i+1) b) d dj:=fun h=>⟨by omega,by omega,by rw[show min (i+1) b=i+1 by omega]; exact q3.fin h⟩
  rcases hc:decide ((j:Int)>(a:Int)) with _ | _
  ·have hja:j=a:=by simp at hc; omega
   simp only[go_sem,hc]
   refine DrawK.mk ?_
   simp only[go_sem,hc,wrap_i64 (n:=(i:Int)+1) (by omega) (by omega)]
   exact⟨(i+1,dj),⟨rfl,by simp only[bf,bG,aS,aZ,aH,Ai]⟩,rfl,hout (.inl hja),by simp only; omega⟩
  ·have hja:a<j:=by simp at hc; omega
   have lj:j<dj.length:=by omega
   have lj1:j-1<dj.length:=by omega
   have ej:=LM (x:=j) (y:=1) (by omega) (by omega)
   simp only[mf] at ej
   have t1:=EZ lj
   have t2:=EZ lj1
   simp only[go_sem,hc]
   refine DrawK.mk ?_
   simp only[go_sem,hc,ej,t1,t2,lj,lj1,ae]
   refine CY (hgj (at0 dj j) (at_mem lj) (at0 dj (j-1)) (at_mem lj1)) ?_
   simp only[go_sem,Nu]
   refine cndC.mk (fun h=>?_) (fun h=>?_)
   ·have hk:key (at0 dj j)<key (at0 dj (j-1)):=by simpa using h
    simp only[go_sem,ej,t1,t2,lj,lj1,ae]
    refine DrawK.mkE ?_
    have t3:((dj.set j (at0 dj (j-1))).map intC)[j-1]?=some [.v (.int .i64 (at0 dj (j-1)))]:=by
     rw[cZ,bK,Eh (by omega),IY lj1]; rfl
    simp only[go_sem,ej,t1,t2,t3,lj,lj1,ae,QM,bu]
    exact⟨(j-1,Sm dj j (j-1)),⟨rfl,by simp only[bf,bG,aS,aZ,aH,Ai]⟩,rfl,⟨by simp only; omega,by simp only; omega,q3.down hja hk⟩,by simp only; omega⟩
   ·have hk:¬ key (at0 dj j)<key (at0 dj (j-1)):=by simpa using h
    simp only[go_sem,wrap_i64 (n:=(i:Int)+1) (by omega) (by omega)]
    exact⟨(i+1,dj),⟨rfl,by simp only[bf,bG,aS,aZ,aH,Ai]⟩,rfl,hout (.inr hk),by simp only; omega⟩
 ·have hib:¬ i<b:=by simp at h; omega
  rw[show min i b=b by omega] at p3
  simp only[go_sem]
  exact⟨[.ref 0],[.ow 3 1 _],[],rfl,.inr rfl,⟨rfl,rfl,rfl,rfl,C9 _,by simp,trivial⟩,by simp only[CQ,D5,aH]; exact EN fun x hx=>by obtain⟨y,_,rfl⟩:=cO.1 hx; rfl,rfl,rfl,dc,rfl,rfl,p3⟩
end Go.Proofs.YtgkmefoghbjfnaaGreat
