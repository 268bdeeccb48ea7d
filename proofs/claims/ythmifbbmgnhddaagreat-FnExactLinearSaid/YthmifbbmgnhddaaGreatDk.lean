/- A part. -/
import Derived.Test.YthmifbbmgnhddaaGreatVmW
import Derived.ProofKit
import Derived.Test.YthmifbbmgnhddaaGreatIa
import Derived.Test.YthmifbbmgnhddaaGreatOa
set_option linter.unusedSimpArgs false
set_option linter.unusedVariables false
set_option maxHeartbeats 2000000
set_option maxRecDepth 10000
namespace Go.Vm
open Go.RowKit Go.WideShapes
def Old (w:World) (b o:Nat):Prop:=(w.cell? ⟨b,o,none⟩).isSome=true
def RdCs (w:World):List Value→List Cl→Prop
 | [],[]=>True
 | u::us,c::cs=>RdD w (Old w) c u∧RdCs w us cs
 | _,_=>False
theorem RdCs.append {w:World}:∀ {us:List Value} {cs:List Cl} {us':List Value} {cs':List Cl},RdCs w us cs→RdCs w us' cs'→RdCs w (us++us') (cs++cs')
 | [],[],_,_,_,h=>h
 | _::_,_::_,_,_,h,h'=>⟨h.1,RdCs.append h.2 h'⟩
 | [],_::_,_,_,h,_=>h.elim
 | _::_,[],_,_,h,_=>h.elim
theorem RdCs.len {w:World}:∀ {us:List Value} {cs:List Cl},RdCs w us cs→us.length=cs.length
 | [],[],_=>rfl
 | _::_,_::_,h=>by simp[RdCs.len h.2]
 | [],_::_,h=>h.elim
 | _::_,[],h=>h.elim
theorem RdCs.at {w:World}:∀ {us:List Value} {cs:List Cl},RdCs w us cs→∀ (k:Nat) (c:Cl),cs[k]?=some c→∃ y,us[k]?=some y∧RdD w (Old w) c y
 | [],[],_,k,c,hk=>ARi
 | u::us,c0::cs,h,k,c,hk=>by
  cases k with
  | zero=>simp at hk; subst hk; exact⟨u,rfl,h.1⟩
  | succ k=>simpa using RdCs.at h.2 k c AQ6
 | [],_::_,h,_,_,_=>h.elim
 | _::_,[],h,_,_,_=>h.elim
theorem RdCs.glue {w:World} {us:List Value} {o n m:Nat} {A B:List Cl} (hA:RdCs w ((us.drop o).take n) A) (hm:o+n=m) (hB:RdCs w (us.drop m) B):RdCs w (us.drop o) (A++B):=by
 subst hm
 have:=hA.append hB
 grind [abg,aas]
theorem RdCs.last {w:World} {us:List Value} {o n:Nat} {A:List Cl} (hA:RdCs w ((us.drop o).take n) A) (hm:us.length=o+n):RdCs w (us.drop o) A:=by
 grind [aat]
theorem RdCs.agg {w:World} {us:Array Value} {cs:List Cl} (h:RdCs w us.toList cs):RdA w (Old w) (.agg cs) (.agg us):=
 ⟨us.toList,AQ3,h.len,fun k c hk=>h.at k c hk⟩
theorem RdCs.one {w:World} {v:Value} {c:Cl} (h:RdCs w [v] [c]):RdD w (Old w) c v:=h.1
variable {H:Type} {enc:TypeId×Value→H} {P:Program} {w:World} {sp:Nat→Bool} {held:Bool}
theorem mapM_each {α β:Type} {f:α→Option β}:∀ {l:List α} {ys:List β},l.mapM f=some ys→∀ (j:Nat) (x:α),l[j]?=some x→∃ y,f x=some y
 | [],_,_,j,x,hj=>by simp at hj
 | a::l,ys,h,j,x,hj=>by
  rw[List.mapM_cons] at h
  cases ha:f a with
  | none=>grind
  | some b =>
   cases hl:l.mapM f with
   | none=>grind
   | some bs =>
    cases j with
    | zero=>grind
    | succ j=>exact mapM_each hl j x AQ6
theorem mapM_at {α β:Type} {f:α→Option β}:∀ {l:List α} {ys:List β},l.mapM f=some ys→∀ (j:Nat) (x:α),l[j]?=some x→∃ y,ys[j]?=some y∧f x=some y
 | [],_,_,j,x,hj=>by simp at hj
 | a::l,ys,h,j,x,hj=>by
  rw[List.mapM_cons] at h
  cases ha:f a with
  | none=>grind
  | some b =>
   cases hl:l.mapM f with
   | none=>grind
   | some bs =>
    simp[ha,hl] at h
    subst h
    cases j with
    | zero=>grind
    | succ j=>simpa using mapM_at hl j x AQ6
theorem AFJ {k:IntKind} {t:TypeId} (ht:P.underlying t=some (.int k)) {fuel:Nat} {cs:List Value} {y:DataW H×List MemPlace} (h:DataW.trod enc P w 0 sp held fuel t cs=some y) :
  ∃ n:Int,RdCs w cs [.v (.int k n)]:=by
 cases fuel with
 | zero=>simp[DataW.trod] at h
 | succ fuel =>
  unfold DataW.trod at h
  rw[ht] at h
  simp only at h
  split at h<;>simp_all
  rename_i k' n heq
  obtain⟨⟨rfl,hw⟩,_⟩:=h
  exact⟨n,⟨rfl,by simpa [Rz] using hw⟩,trivial⟩
theorem AHP {t:TypeId} (ht:P.underlying t=some .bool) {fuel:Nat} {cs:List Value} {y:DataW H×List MemPlace} (h:DataW.trod enc P w 0 sp held fuel t cs=some y) :
  ∃ n:Bool,RdCs w cs [.v (.bool n)]:=by
 cases fuel with
 | zero=>simp[DataW.trod] at h
 | succ fuel =>
  rcases cs with _ | ⟨c,_ | ⟨c2,cs⟩⟩
  ·exact AQF
  ·cases c with
   | bool b=>exact⟨b,⟨rfl,rfl⟩,trivial⟩
   | _=>simp[DataW.trod,ht] at h
  ·exact AQF
theorem ADf {t:TypeId} (ht:P.underlying t=some .string) {fuel:Nat} {cs:List Value} {y:DataW H×List MemPlace} (h:DataW.trod enc P w 0 sp held fuel t cs=some y) :
  ∃ n:ByteArray,RdCs w cs [.v (.string n)]:=by
 cases fuel with
 | zero=>simp[DataW.trod] at h
 | succ fuel =>
  rcases cs with _ | ⟨c,_ | ⟨c2,cs⟩⟩
  ·exact AQF
  ·cases c with
   | string b =>
    simp only[DataW.trod,ht] at h
    split at h
    ·rename_i hb
     exact⟨b,⟨rfl,by simpa [Rz] using hb⟩,trivial⟩
    ·cases h
   | _=>simp[DataW.trod,ht] at h
  ·exact AQF
theorem ADg {t:TypeId} {fs:Array Field} (ht:P.underlying t=some (.struct fs)) {fuel:Nat} {cs:List Value} {y:DataW H×List MemPlace} (h:DataW.trod enc P w 0 sp held (fuel+1) t cs=some y) :
  cs.length=P.cellsOf t∧∀ (j:Nat) (f:Field),fs.toList[j]?=some f→∃ y,DataW.trod enc P w 0 sp held fuel f.type ((cs.drop f.offset).take (P.cellsOf f.type))=some y:=by
 simp only[DataW.trod,ht] at h
 grind [aax,mapM_each]
theorem AFK {α:Type} {f:α→List Cl} {t e:TypeId} (ht:P.underlying t=some (.slice e)) {fuel:Nat} (hlen:∀ x,(f x).length=P.cellsOf e) (hpos:0<P.cellsOf e)
  (he:∀ (cs:List Value) (y:DataW H×List MemPlace),DataW.trod enc P w 0 sp held fuel e cs=some y→∃ x,RdCs w cs (f x))
  {cs:List Value} {y:DataW H×List MemPlace} (h:DataW.trod enc P w 0 sp held (fuel+1) t cs=some y):∃ xs:List α,RdCs w cs [.sl (xs.map f)]:=by
 rcases cs with _ | ⟨c,_ | ⟨c2,cs⟩⟩
 ·exact AQF
 ·cases c with
  | slice a len cap =>
   cases a with
   | none =>
    have:len=0∧cap=0:=by
     simp only[DataW.trod,ht] at h
     split at h<;>simp_all
    obtain⟨rfl,rfl⟩:=this
    exact⟨[],⟨by simp only[RdD]; exact⟨none,0,rfl,AQ3,by simp[maxLen],⟨0,AQ3⟩,.inl rfl⟩,trivial⟩⟩
   | some a =>
    simp only[DataW.trod,ht] at h
    split at h
    ·rename_i hb
     obtain⟨_,hlc,hcm⟩:=hb
     obtain⟨es,hes,_⟩:=Option.bind_eq_some_iff.1 h
     have hel:∀ i,i<len→∃ x:α,∃ vs:List Value,w.cells? 0 (a.add (i*P.cellsOf e)) (P.cellsOf e)=some vs∧RdCs w vs (f x):=by
      intro i hi
      obtain⟨z,hz⟩:=mapM_each hes i i ASb
      obtain⟨vs,hvs,hz⟩:=Option.bind_eq_some_iff.1 hz
      obtain⟨x,hx⟩:=he vs z hz
      exact⟨x,vs,hvs,hx⟩
     by_cases hz:len=0
     ·subst hz
      exact⟨[],⟨by simp only[RdD]; exact⟨some a,cap,rfl,AQ3,hcm,⟨0,AQ3⟩,.inl rfl⟩,trivial⟩⟩
     ·have hcell:∀ i,i<len→∀ k,k<P.cellsOf e→∃ u,w.cell? ((a.add (i*P.cellsOf e)).add k)=some u:=by
       intro i hi k hk
       obtain⟨x,vs,hvs,hx⟩:=hel i hi
       simp only[World.cells?,au,bH] at hvs
       obtain⟨u,hu⟩:=mapM_each hvs k k (by simp[hk])
       exact⟨u,hu⟩
      have hspot:a.spot=none:=by
       obtain⟨u,hu⟩:=hcell 0 AQ2 0 hpos
       simp only[Nat.zero_mul,Addr.add,bH] at hu
       unfold World.cell? at hu
       split at hu
       ·simp_all
       ·cases hu
      obtain⟨b,off,spot⟩:=a
      simp only at hspot
      subst hspot
      have hadd:∀ i,(⟨b,off,none⟩:Addr).add i=⟨b,off+i,none⟩:=by
       intro i; unfold Addr.add; split
       ·grind
       ·rfl
      simp only[hadd] at hel
      have hch:∃ g:Nat→α,∀ i,i<len→∃ vs:List Value,w.cells? 0 ⟨b,off+i*P.cellsOf e,none⟩ (P.cellsOf e)=some vs∧RdCs w vs (f (g i)):=by
       obtain⟨x0,_⟩:=hel 0 AQ2
       refine⟨fun i=>if h:i<len then(hel i h).choose else x0,fun i hi=>?_⟩
       simp only[hi,dif_pos]
       exact(hel i hi).choose_spec
      obtain⟨g,hg⟩:=hch
      refine⟨(List.range len).map g,⟨?_,trivial⟩⟩
      simp only[RdD]
      refine⟨some ⟨b,off,none⟩,cap,AQ3,AQ6,hcm,⟨P.cellsOf e, ?_⟩,.inr ⟨b,off,rfl, ?_⟩⟩
      ·grind
      ·refine AEV (P.cellsOf e) ?_ fun i x hi=>?_
       ·grind
       ·have hil:i<len:=by
         rcases bZ i len with h' | h'
         ·exact h'
         ·grind
        have hx:x=f (g i):=by simpa [hil] using hi.symm
        subst hx
        obtain⟨vs,hvs,hrd⟩:=hg i hil
        refine AEI fun j c hj=>?_
        obtain⟨u,hu,hc⟩:=hrd.at j c hj
        simp only[World.cells?,au,bH] at hvs
        have hjl:j<P.cellsOf e:=by
         rw[← hlen (g i)]
         rcases bZ j (f (g i)).length with h' | h'
         ·exact h'
         ·grind
        obtain⟨u2,hu2,hcl⟩:=mapM_at hvs j j (by simp[hjl])
        rw[hu2] at hu
        simp only[ai] at hu
        subst hu
        have hadd2:(⟨b,off+i*P.cellsOf e,none⟩:Addr).add j=⟨b,off+i*P.cellsOf e+j,none⟩:=by
         unfold Addr.add; split
         ·grind
         ·rfl
        rw[hadd2] at hcl
        exact⟨by simp[Old,hcl],u2,hcl,hc⟩
    ·cases h
  | _=>simp[DataW.trod,ht] at h
 ·exact AQF
theorem Hm {α:Type} {f:α→List Cl} {t e:TypeId} {n:Nat} (ht:P.underlying t=some (.slice e)) (hn:P.cellsOf e=n) (hlen:∀ x,(f x).length=n) (hpos:0<n) {fuel:Nat}
  (he:∀ fuel',fuel'<fuel→∀ (cs:List Value) (y:DataW H×List MemPlace),DataW.trod enc P w 0 sp held fuel' e cs=some y→∃ x,RdCs w cs (f x))
  {cs:List Value} {y:DataW H×List MemPlace} (h:DataW.trod enc P w 0 sp held fuel t cs=some y):∃ xs:List α,RdCs w cs [.sl (xs.map f)]:=by
 subst hn
 cases fuel with
 | zero=>simp[DataW.trod] at h
 | succ fuel=>exact AFK ht hlen hpos (he fuel AQ2) h
theorem EE {t:TypeId} {fs:Array Field} {n:Nat} (ht:P.underlying t=some (.struct fs)) (hn:P.cellsOf t=n) {fuel:Nat} {cs:List Value} {y:DataW H×List MemPlace} (h:DataW.trod enc P w 0 sp held fuel t cs=some y) :
  ∃ fuel',fuel'<fuel∧cs.length=n∧∀ (j:Nat) (f:Field),fs.toList[j]?=some f→∃ y,DataW.trod enc P w 0 sp held fuel' f.type ((cs.drop f.offset).take (P.cellsOf f.type))=some y:=by
 subst hn
 cases fuel with
 | zero=>simp[DataW.trod] at h
 | succ fuel=>exact⟨fuel,AQ2,ADg ht h⟩
theorem Old.lt {w:World} {b o:Nat} (h:Old w b o):b<w.heap.size:=by
 unfold Old World.cell? at h
 grind
end Go.Vm
namespace Go.Vm
variable {P:Program} {w0:Bs} {St0 St:Nat→Nat→Prop} {β:Nat→Option Nat} {s t r:MS} {a:Act} {w:World}
theorem Core.reTell (h:Core w0 St0 St β s a w) (env':List (Nat×AV)) (st':List Ob)
  (hr:∀ l u,BZ w s.st β l u→BZ w st' β l u) (hp:∀ l i off u,AVR w St s.st β (.lp l i off) u→AVR w St st' β (.lp l i off) u)
  (henv:∀ i u,AVR w St st' β (CV s.env i) u→AVR w St st' β (CV env' i) u)
  (hst:∀ (l:Nat) (o':Ob),st'[l]?=some o'→o'.live=true→∃ o:Ob,s.st[l]?=some o∧o.live=true∧o'.ty=o.ty∧o'.sz=o.sz∧o'.wr=o.wr∧o'.xs.length=o.xs.length∧((∀ x∈o.xs,x.length=o.sz)→∀ x∈o'.xs,x.length=o.sz) ∧
   ∀ (k:Nat) (c':Cl),o'.xs.flatten[k]?=some c'→∃ c,o.xs.flatten[k]?=some c∧(∀ u,RdB w St st' β c u→RdB w St st' β c' u)∧(G7 c'=true→c=c')) :
  Core w0 St0 St β ⟨s.n,env',st'⟩ a w:=by
 have hA:∀ x u,AVR w St s.st β x u→AVR w St st' β x u:=fun x u hx=>AVR.mono (fun _ _ h=>h) (fun _ _ _=>rfl) hr hp x u hx
 have hB:∀ c u,RdB w St s.st β c u→RdB w St st' β c u:=fun c u hc=>RdB.mono (fun _ _ h=>h) (fun _ _ _=>rfl) hr c u hc
 exact {
  defers:=h.defers
  size:=h.size
  lim:=h.lim
  env:=fun i=>henv i _ (hA _ _ (h.env i))
  below:=h.below
  st0:=h.st0
  stOld:=h.stOld
  stIn:=h.stIn
  obs:=fun l o' b hl hlv hb=>by
   obtain⟨o,q1,q2,q3,q4,q5,q6,q7,q8⟩:=hst l o' hl hlv
   obtain⟨p1,p2,cs,p3,p4,p5⟩:=h.obs l o b q1 q2 hb
   refine⟨p1,p2,cs,AQ6,AQ6,fun k c' hk=>?_⟩
   grind
  nil:=fun l o' hl hlv hb=>by
   obtain⟨o,q1,q2,q3,q4,q5,q6,q7,q8⟩:=hst l o' hl hlv
   have:=h.nil l o q1 q2 hb
   grind
  inj:=fun l l' o1 o2 b h1 h2 g1 g2 hb hb'=>by
   obtain⟨p1,q1,q2,_⟩:=hst l o1 h1 g1
   obtain⟨p2,q3,q4,_⟩:=hst l' o2 h2 g2
   exact h.inj l l' p1 p2 b q1 q3 q2 q4 hb hb'
  sep:=fun l o' b o hl hlv hb hs=>by
   obtain⟨p,q1,q2,q3,q4,q5,q6,q7,q8⟩:=hst l o' hl hlv
   rw[q4,q5,q6]
   exact h.sep l p b o q1 q2 hb hs
  own:=h.own.move id (fun x hx=>⟨⟨hx.1,fun h=>h,hx.2.2.1,hx.2.2.2.1,fun l o' hl hlv=>by
    obtain⟨o,q1,q2,_⟩:=hst l o' hl hlv
    exact hx.2.2.2.2 l o q1 q2⟩,rfl⟩) (fun _ _ h=>h) (fun _ _ _=>rfl)
   (fun l o' b k c hl hlv hb hk hc=>by
    grind) (fun _ _ _ _ _ _ _ _ e=>e) }
def ANb:Cl:=.v (.slice none 0 0)
theorem Core.nilOb (h:Core w0 St0 St β s a w) (e n:Nat):∃ β',Core w0 St0 St β' ⟨s.n,s.env,s.st ++ [⟨e,n,[],true,true⟩]⟩ a w∧∀ u,RdC w St (s.st ++ [⟨e,n,[],true,true⟩]) β' ANb u→RdC w St (s.st ++ [⟨e,n,[],true,true⟩]) β' (.ref s.st.length) u:=by
 obtain⟨a1,a2,a3⟩:=h.addOb ⟨e,n,[],true,true⟩ none (fun _=>rfl) AQ3 h.own AQ3
 refine⟨_,a1,fun u hu=>?_⟩
 have hu':u = .slice none 0 0:=by
  exact(QF (St:=St) (w:=w) (v:=(.slice none 0 0:Value)) (u:=u) (by simp only[AVR]; exact hu)).1
 subst hu'
 have:=Oh (w:=w) (St:=St) (β:=fun l=>if l=s.st.length then none else β l) (st:=s.st) (ob:=⟨e,n,[],true,true⟩) (b:=none) (u:=.slice none 0 0) rfl AQ3 fun _=>⟨rfl,rfl⟩
 simpa only[AVR] using this
theorem Head.trans (h1:Head s t) (h2:Head t r):Head s r:=⟨h2.1.trans h1.1,fun w0 St0 St β a w h=>by
 obtain⟨St',β',h'⟩:=h1.2 w0 St0 St β a w h
 exact h2.2 w0 St0 St' β' a w h'⟩
theorem Head.rel (sel:List (Nat×Bool)) (keys:List Nat) (h:U9 sel keys s) (e:Go.Vm.rel sel keys s=t):Head s t:=⟨by rw[← e]; rfl,fun w0 St0 St β a w hc=>⟨St,XW sel β,by rw[← e]; exact hc.rel h⟩⟩
theorem Head.abs (N l0:Nat) (keys:List Nat) (h:AEe N l0 keys s t):Head s t:=by
 obtain⟨i,R,row,row',ob,⟨g1,g2,g3,g4,g5⟩,g6,⟨g7,g8⟩,g9⟩:=h
 exact⟨by rw[← g9],fun w0 St0 St β a w hc=>⟨St,β,by rw[← g9]; exact hc.absTrim g1 g2 g3 g4 g5 g6 g7 g8⟩⟩
theorem Head.nilR (l j e n:Nat) (ob:Ob) (row:List Cl) (hob:s.st[l]?=some ob) (hrow:ob.xs = [row]) (h:row[j]?=some (.v (.slice none 0 0))):Head s ⟨s.n,s.env,s.st.set l ⟨ob.ty,ob.sz,[row.set j (.ref s.st.length)],ob.wr,ob.live⟩ ++ [⟨e,n,[],true,true⟩]⟩:=⟨rfl,fun w0 St0 St β a w hc=>by
 obtain⟨β',h1,h2⟩:=hc.nilOb e n
 have hl:l<s.st.length:=(aP.1 hob).1
 have hg:∀ (l2:Nat) (o2:Ob),(s.st.set l ⟨ob.ty,ob.sz,[row.set j (.ref s.st.length)],ob.wr,ob.live⟩ ++ [⟨e,n,[],true,true⟩])[l2]?=some o2→(l2=l∧o2=⟨ob.ty,ob.sz,[row.set j (.ref s.st.length)],ob.wr,ob.live⟩)∨(l2≠l∧(s.st ++ [(⟨e,n,[],true,true⟩:Ob)])[l2]?=some o2):=by
  intro l2 o2 h2
  by_cases e1:l2=l
  ·grind
  ·grind
 have hg2:∀ (l2:Nat) (o2:Ob),(s.st ++ [(⟨e,n,[],true,true⟩:Ob)])[l2]?=some o2→∃ o3,(s.st.set l ⟨ob.ty,ob.sz,[row.set j (.ref s.st.length)],ob.wr,ob.live⟩ ++ [⟨e,n,[],true,true⟩])[l2]?=some o3∧o3.live=o2.live∧o3.sz=o2.sz∧o3.ty=o2.ty∧o3.xs.length=o2.xs.length:=by
  intro l2 o2 h2
  by_cases e1:l2=l
  ·grind
  ·grind
 have hr:∀ (l2:Nat) (u:Value),BZ w (s.st ++ [⟨e,n,[],true,true⟩]) β' l2 u→BZ w (s.st.set l ⟨ob.ty,ob.sz,[row.set j (.ref s.st.length)],ob.wr,ob.live⟩ ++ [⟨e,n,[],true,true⟩]) β' l2 u:=by
  intro l2 u hu
  unfold BZ at hu ⊢
  cases hq:(s.st ++ [(⟨e,n,[],true,true⟩:Ob)])[l2]? with
  | none=>grind
  | some o2 =>
   grind
 refine⟨St,β',h1.reTell _ _ hr (fun l2 i off u hu=>?_) (fun i u hu=>hu) (fun l2 o' hl2 hlv=>?_)⟩
 ·simp only[AVR] at hu ⊢
  grind
 ·rcases hg l2 o' hl2 with ⟨rfl,rfl⟩ | ⟨_,h3⟩
  ·refine⟨ob,AQ6,hlv,rfl,rfl,rfl,by simp[hrow],fun hx x hx2=>?_,fun k c' hk=>?_⟩
   ·grind
   ·simp only[lL,aaU,bK] at hk
    rw[hrow]
    simp only[lL,aaU,bK]
    rw[vG] at hk
    by_cases e1:j=k
    ·subst e1
     have hj:j<row.length:=(aP.1 h).1
     exact APl
    grind
  grind⟩
theorem LoopG.mk {s:MS} {body:MS→(MS→Prop)→Prop} {A:Type} (f:A→MS) (p:A→Prop) (μ:A→Nat) (x0:A) (h0:Head s (f x0)) (hp:p x0)
  (h:∀ x,p x→body (f x) fun s'=>∃ y,True∧Head s' (f y)∧p y∧μ y<μ x):LoopK s body:=
 ⟨fun _=>True,fun s t=>Head s t,A,f,p,μ,fun s t _ h=>h,⟨x0,trivial,h0,hp⟩,h⟩
def hasK (k:Nat):List Nat→Bool
 | []=>false
 | x::xs=>if x=k then true else hasK k xs
def ALh:Bool→Nat→List Nat→List Nat
 | true,_,l=>l
 | false,k,l=>k::l
def keysOf:List Nat→List (Nat×AV)→List Nat
 | _,[]=>[]
 | seen,(k,_)::r=>ALh (hasK k seen) k (keysOf (k::seen) r)
def AJk:List Nat→List (Nat×AV)→List (Nat×AV)
 | [],_=>[]
 | k::ks,e=>(k,CV e k)::AJk ks e
def WH (dr:List Nat) (up:List (Nat×AV)) (s:MS) (st:List Ob):MS:=⟨s.n,AJk (keysOf dr s.env) (up++s.env),st⟩
attribute [go_sem] hasK ALh keysOf AJk WH
theorem AAT {s:MS} {body:MS→(MS→Prop)→Prop} (N:Nat) {A:Type} (up:A→List (Nat×AV)) (stf:A→List Ob) (p:A→Prop) (μ:A→Nat) (x0:A)
  (h0:Qy N (keysOf [] s.env) s∧trim N (keysOf [] s.env) s=WH [] (up x0) s (stf x0)∧p x0)
  (h:∀ x,p x→body (WH [] (up x) s (stf x)) fun s'=>∃ y,Qy N (keysOf [] s.env) s'∧trim N (keysOf [] s.env) s'=WH [] (up y) s (stf y)∧p y∧μ y<μ x):LoopK s body:=
 AAa N (keysOf [] s.env) (fun x=>WH [] (up x) s (stf x)) p μ x0 h0 h
theorem AAU {s:MS} {body:MS→(MS→Prop)→Prop} (dr:List Nat) {A:Type} (up:A→List (Nat×AV)) (stf:A→List Ob) (p:A→Prop) (μ:A→Nat) (x0:A)
  (h0:Head s (WH dr (up x0) s (stf x0))) (hp:p x0)
  (h:∀ x,p x→body (WH dr (up x) s (stf x)) fun s'=>∃ y,True∧Head s' (WH dr (up y) s (stf y))∧p y∧μ y<μ x):LoopK s body:=
 LoopG.mk (fun x=>WH dr (up x) s (stf x)) p μ x0 h0 hp h
theorem AAQ (sel:List (Nat×Bool)) {n:Nat} {env:List (Nat×AV)} {st:List Ob} (h:U9 sel (env.map Prod.fst) s) (e:Go.Vm.rel sel (env.map Prod.fst) s=⟨n,env,st⟩):Head s ⟨n,env,st⟩:=Head.rel sel _ h e
theorem ABP (sel:List (Nat×Bool)) (N l0:Nat) {n:Nat} {env:List (Nat×AV)} {st:List Ob} (h:U9 sel (env.map Prod.fst) s) (h2:AEe N l0 (env.map Prod.fst) (Go.Vm.rel sel (env.map Prod.fst) s) ⟨n,env,st⟩):Head s ⟨n,env,st⟩:=Head.trans (Head.rel sel _ h rfl) (Head.abs N l0 _ h2)
theorem BM {sel:List (Nat×Bool)} {xs:List (List Cl)} (h:D7 xs=true):xs.map (fun x=>x.map (NM sel))=xs:=by
 conv=>rhs; rw[← List.map_id xs]
 exact aaW fun x hx=>AJI (aS.1 h x hx)
theorem AU {N ty sz:Nat} {R:List (List Cl)} {wr live:Bool} (h:D7 R=true):Aq N ⟨ty,sz,R,wr,live⟩=true:=by
 simp only[Aq,aaY]
 refine .inr (aS.2 fun x hx=>aS.2 fun c hc=>?_)
 have:=aS.1 (aS.1 h x hx) c hc
 cases c<;>simp_all [O6,KY]
theorem all2 {N:Nat} {a b:Ob} (ha:Aq N a=true) (hb:Aq N b=true) : [a,b].all (Aq N)=true:=by simp[ha,hb]
theorem Bc {sel:List (Nat×Bool)} {xs:List (List Cl)} (h:D7 xs=true):(xs.all fun x=>x.all (inC sel))=true:=aS.2 fun x hx=>AJJ (aS.1 h x hx)
theorem GM (a:Value) (l:Nat):D7 [[.v a,.ref l]]=false:=rfl
end Go.Vm
open Go.Proofs.Tryz
namespace Go.Proofs.YthmifbbmgnhddaaGreat
open Go.Vm
def Dj (a b:DVal):Bool:=if(a.ty != b.ty)=true then decide (a.ty<b.ty) else if(a.n != b.n)=true then decide (a.n<b.n) else Op.bytesLess a.s.toList b.s.toList
def LG (a b:DVal):Bool:=(a.ty==b.ty)&&((a.n==b.n)&&(a.s.toList==b.s.toList))
theorem Gz (a b:DVal):Ctr prog 427 [.agg a.c,.agg b.c] [.val (.c (.v (.bool (Dj a b))))]:=by
 refine CM call427 func427 ntmps427 results427 fun hw=>?_
 exact APm
theorem Ie (a b:DVal):Ctr prog 399 [.agg a.c,.agg b.c] [.val (.c (.v (.bool (Dj a b))))]:=by
 refine CM call399 func399 ntmps399 results399 fun hw=>?_
 exact APm
def holds1 (op:Int) (a b:DVal):Bool:=
 if(op==1)=true then Dj a b else if(op==2)=true then !Dj b a else if(op==3)=true then LG a b else if(op==4)=true then !LG a b else if(op==5)=true then !Dj a b else if(op==6)=true then Dj b a else false
theorem qN (op:Int) (a b:DVal):Ctr prog 452 [.c (.v (.int .i64 (op))),.agg a.c,.agg b.c] [.val (.c (.v (.bool (holds1 op a b))))]:=by
 refine CM call452 func452 ntmps452 results452 fun hw=>?_
 rcases h1:op==1 with _ | _
 rotate_left
 ·simp only[go_sem,h1]
  refine CW (Gz a b) fun _=>?_
  simp only[go_sem,holds1,h1]
 rcases h2:op==2 with _ | _
 rotate_left
 ·simp only[go_sem,h1,h2]
  refine CW (Gz b a) fun _=>?_
  simp only[go_sem,holds1,h1,h2]
 rcases h3:op==3 with _ | _
 rotate_left
 ·exact AQj
 rcases h4:op==4 with _ | _
 rotate_left
 ·exact AQW
 rcases h5:op==5 with _ | _
 rotate_left
 ·simp only[go_sem,h1,h2,h3,h4,h5]
  refine CW (Gz a b) fun _=>?_
  simp only[go_sem,holds1,h1,h2,h3,h4,h5]
 rcases h6:op==6 with _ | _
 rotate_left
 ·simp only[go_sem,h1,h2,h3,h4,h5,h6]
  refine CW (Gz b a) fun _=>?_
  exact APZ
 exact APZ
theorem qO (op:Int) (a b:DVal):Ctr prog 428 [.c (.v (.int .i64 (op))),.agg a.c,.agg b.c] [.val (.c (.v (.bool (holds1 op a b))))]:=by
 refine CM call428 func428 ntmps428 results428 fun hw=>?_
 rcases h1:op==1 with _ | _
 rotate_left
 ·simp only[go_sem,h1]
  refine CW (Ie a b) fun _=>?_
  simp only[go_sem,holds1,h1]
 rcases h2:op==2 with _ | _
 rotate_left
 ·simp only[go_sem,h1,h2]
  refine CW (Ie b a) fun _=>?_
  simp only[go_sem,holds1,h1,h2]
 rcases h3:op==3 with _ | _
 rotate_left
 ·exact AQj
 rcases h4:op==4 with _ | _
 rotate_left
 ·exact AQW
 rcases h5:op==5 with _ | _
 rotate_left
 ·simp only[go_sem,h1,h2,h3,h4,h5]
  refine CW (Ie a b) fun _=>?_
  simp only[go_sem,holds1,h1,h2,h3,h4,h5]
 rcases h6:op==6 with _ | _
 rotate_left
 ·simp only[go_sem,h1,h2,h3,h4,h5,h6]
  refine CW (Ie b a) fun _=>?_
  exact APZ
 exact APZ
def NU:List DVal→List DVal→Bool
 | [],[]=>true
 | a::l,b::m=>LG a b&&NU l m
 | _,_=>false
theorem YC:∀ (a b:List DVal),a.length≠b.length→NU a b=false
 | [],[],h=>ARa
 | [],_::_,_=>rfl
 | _::_,[],_=>rfl
 | a::l,b::m,h=>by simp only[NU]; rw[YC l m ARY]; simp
theorem fU (a b:List DVal) {k:Nat} (h1:k<a.length) (h2:k<b.length):NU (a.drop k) (b.drop k)=(LG a[k] b[k]&&NU (a.drop (k+1)) (b.drop (k+1))):=by
 rw[aA h1,aA h2]; rfl
theorem OO (a b:List DVal) (ha:a.length≤1048576) (hb:b.length≤1048576):Ctr prog 270 [.c (.sl (a.map DVal.c)),.c (.sl (b.map DVal.c))] [.val (.c (.v (.bool (NU a b))))]:=by
 refine CM call270 func270 ntmps270 results270 fun hw=>?_
 refine AQy (fun h=>?_) fun h=>?_
 ·simp only[go_sem]
  grind [YC]
 ·have he:a.length=b.length:=by simp at h; omega
  simp only[go_sem,ae]
  refine AAT 0 (A:=Nat) (fun k=>[(5,.c (.v (.int .i64 (k))))]) (fun _=>[]) (fun k=>k≤a.length∧NU (a.drop k) (b.drop k)=NU a b) (fun k=>a.length-k) 0 ⟨⟨rfl,rfl⟩,rfl,au _,rfl⟩ ?_
  exact AIs
theorem wE (a b:List DVal) (ha:a.length≤1048576) (hb:b.length≤1048576):Ctr prog 343 [.c (.sl (a.map DVal.c)),.c (.sl (b.map DVal.c))] [.val (.c (.v (.bool (NU a b))))]:=by
 refine CM call343 func343 ntmps343 results343 fun hw=>?_
 refine AQy (fun h=>?_) fun h=>?_
 ·simp only[go_sem]
  grind [YC]
 ·have he:a.length=b.length:=by simp at h; omega
  simp only[go_sem,ae]
  refine AAT 0 (A:=Nat) (fun k=>[(13,.c (.v (.int .i64 (k))))]) (fun _=>[]) (fun k=>k≤a.length∧NU (a.drop k) (b.drop k)=NU a b) (fun k=>a.length-k) 0 ⟨⟨rfl,rfl⟩,rfl,au _,rfl⟩ ?_
  exact AIs
theorem OQ (a b:List DVal) (ha:a.length≤1048576) (hb:b.length≤1048576):Ctr prog 279 [.c (.sl (a.map DVal.c)),.c (.sl (b.map DVal.c))] [.val (.c (.v (.bool (NU a b))))]:=by
 refine CM call279 func279 ntmps279 results279 fun hw=>?_
 simp only[go_sem,ae]
 refine AAN _ (wE a b ha hb) fun _=>?_
 exact AIu
def sameRow (a b:DRow):Bool:=(a.id==b.id)&&NU a.l b.l
theorem Us (a b:DRow) (ha:a.l.length≤1048576) (hb:b.l.length≤1048576):Ctr prog 169 [.agg a.c,.agg b.c] [.val (.c (.v (.bool (sameRow a b))))]:=by
 refine CM call169 func169 ntmps169 results169 fun hw=>?_
 rcases h1:a.id==b.id with _ | _
 ·simp only[go_sem,h1]
  simp only[sameRow,h1,ag]
 ·simp only[go_sem,h1]
  refine AAN _ (OO a.l b.l ha hb) fun _=>?_
  simp only[go_sem,h1]
  simp only[sameRow,h1,ah]
theorem Ut (a b:DRow) (ha:a.l.length≤1048576) (hb:b.l.length≤1048576):Ctr prog 177 [.agg a.c,.agg b.c] [.val (.c (.v (.bool (sameRow a b))))]:=by
 refine CM call177 func177 ntmps177 results177 fun hw=>?_
 rcases h1:a.id==b.id with _ | _
 ·simp only[go_sem,h1]
  simp only[sameRow,h1,ag]
 ·simp only[go_sem,h1]
  refine AAN _ (OQ a.l b.l ha hb) fun _=>?_
  simp only[go_sem,h1]
  simp only[sameRow,h1,ah]
def F_:List DRow→List DRow→Bool
 | [],[]=>true
 | a::l,b::m=>sameRow a b&&F_ l m
 | _,_=>false
theorem Qa:∀ (a b:List DRow),a.length≠b.length→F_ a b=false
 | [],[],h=>ARa
 | [],_::_,_=>rfl
 | _::_,[],_=>rfl
 | a::l,b::m,h=>by simp only[F_]; rw[Qa l m ARY]; simp
theorem Uu (a b:List DRow) {k:Nat} (h1:k<a.length) (h2:k<b.length):F_ (a.drop k) (b.drop k)=(sameRow a[k] b[k]&&F_ (a.drop (k+1)) (b.drop (k+1))):=by
 rw[aA h1,aA h2]; rfl
def Pg {α:Type} (f:α→Prop) (l:List α):Prop:=l.length≤1099511627776∧∀ x∈l,f x
theorem fitS.big {α:Type} {f:α→Prop} {l:List α} (h:fitS f l):Pg f l:=⟨aba h.1 ARJ,h.2⟩
theorem OT (a b:List DRow) (ha:Pg Aw a) (hb:Pg Aw b):Ctr prog 87 [.c (.sl (a.map DRow.c)),.c (.sl (b.map DRow.c))] [.val (.c (.v (.bool (F_ a b))))]:=by
 refine CM call87 func87 ntmps87 results87 fun hw=>?_
 have ha1:=ha.1
 have hb1:=hb.1
 refine AQy (fun h=>?_) fun h=>?_
 ·simp only[go_sem]
  grind [Qa]
 ·have he:a.length=b.length:=by simp at h; omega
  simp only[go_sem,ae]
  refine AAT 0 (A:=Nat) (fun k=>[(5,.c (.v (.int .i64 (k))))]) (fun _=>[]) (fun k=>k≤a.length∧F_ (a.drop k) (b.drop k)=F_ a b) (fun k=>a.length-k) 0 ⟨⟨rfl,rfl⟩,rfl,au _,rfl⟩ ?_
  rintro k ⟨hk,hf⟩
  refine AQy (fun h=>?_) fun h=>?_
  ·have hk':k<a.length:=by simpa using h
   have hk2:k<b.length:=AQ2
   rw[Uu a b hk' hk2] at hf
   have hra:=ha.2 _ (aj hk')
   have hrb:=hb.2 _ (aj hk2)
   rw[DN] at hra hrb
   simp only[go_sem,ae,AA _ hk',AA _ hk2,hk',hk2]
   try refine AAO ?_
   try simp only[go_sem,ae,AA _ hk',AA _ hk2,hk',hk2]
   first | refine CY (Us a[k] b[k] hra.1 hrb.1) ?_ | refine CW (Us a[k] b[k] hra.1 hrb.1) fun _=>?_
   rcases hv:sameRow a[k] b[k] with _ | _
   ·simp only[go_sem,hv,aH,aF]
    grind
   ·simp only[go_sem,hv,aO,wrap_i64 (n:=(k:Int)+1) AQ2 AQ2]
    rw[hv,ah] at hf
    exact AKB
  ·exact AK9
theorem OU (a b:List DRow) (ha:Pg Aw a) (hb:Pg Aw b):Ctr prog 92 [.c (.sl (a.map DRow.c)),.c (.sl (b.map DRow.c))] [.val (.c (.v (.bool (F_ a b))))]:=by
 refine CM call92 func92 ntmps92 results92 fun hw=>?_
 have ha1:=ha.1
 have hb1:=hb.1
 refine AQy (fun h=>?_) fun h=>?_
 ·simp only[go_sem]
  grind [Qa]
 ·have he:a.length=b.length:=by simp at h; omega
  simp only[go_sem,ae]
  refine AAT 0 (A:=Nat) (fun k=>[(13,.c (.v (.int .i64 (k))))]) (fun _=>[]) (fun k=>k≤a.length∧F_ (a.drop k) (b.drop k)=F_ a b) (fun k=>a.length-k) 0 ⟨⟨rfl,rfl⟩,rfl,au _,rfl⟩ ?_
  rintro k ⟨hk,hf⟩
  refine AQy (fun h=>?_) fun h=>?_
  ·have hk':k<a.length:=by simpa using h
   have hk2:k<b.length:=AQ2
   rw[Uu a b hk' hk2] at hf
   have hra:=ha.2 _ (aj hk')
   have hrb:=hb.2 _ (aj hk2)
   rw[DN] at hra hrb
   simp only[go_sem,ae,AA _ hk',AA _ hk2,hk',hk2]
   try refine AAO ?_
   try simp only[go_sem,ae,AA _ hk',AA _ hk2,hk',hk2]
   first | refine CY (Ut a[k] b[k] hra.1 hrb.1) ?_ | refine CW (Ut a[k] b[k] hra.1 hrb.1) fun _=>?_
   rcases hv:sameRow a[k] b[k] with _ | _
   ·simp only[go_sem,hv,aH,aF]
    grind
   ·simp only[go_sem,hv,aO,wrap_i64 (n:=(k:Int)+1) AQ2 AQ2]
    rw[hv,ah] at hf
    exact AKB
  ·exact AK9
def GN (a b:DResult):Bool:=F_ a.rows b.rows&&((a.n==b.n)&&((a.has==b.has)&&LG a.v b.v))
theorem lS (a b:DResult) (ha:fitS Aw a.rows) (hb:fitS Aw b.rows):Ctr prog 367 [.agg a.c,.agg b.c] [.val (.c (.v (.bool (GN a b))))]:=by
 refine CM call367 func367 ntmps367 results367 fun hw=>?_
 simp only[go_sem]
 refine AAN _ (OT _ _ ha.big hb.big) fun _=>?_
 exact ANZ
theorem Uw (a b:DResult) (ha:fitS Aw a.rows) (hb:fitS Aw b.rows):Ctr prog 339 [.agg a.c,.agg b.c] [.val (.c (.v (.bool (GN a b))))]:=by
 refine CM call339 func339 ntmps339 results339 fun hw=>?_
 simp only[go_sem]
 refine AAN _ (OU _ _ ha.big hb.big) fun _=>?_
 exact ANZ
def O4:List Int→Int→Bool
 | [],_=>false
 | a::l,n=>(a==n)||O4 l n
theorem ADh (l:List Int) (n:Int) (ha:l.length≤1048576):Ctr prog 370 [.c (.sl (l.map intC)),.c (.v (.int .i64 (n)))] [.val (.c (.v (.bool (O4 l n))))]:=by
 refine CM call370 func370 ntmps370 results370 fun hw=>?_
 simp only[go_sem,ae]
 refine AAT 0 (A:=Nat) (fun k=>[(9,.c (.v (.int .i64 (k))))]) (fun _=>[]) (fun k=>k≤l.length∧O4 (l.drop k) n=O4 l n) (fun k=>l.length-k) 0 ⟨⟨rfl,rfl⟩,rfl,au _,rfl⟩ ?_
 exact AJ_
theorem ADi (l:List Int) (n:Int) (ha:l.length≤1048576):Ctr prog 393 [.c (.sl (l.map intC)),.c (.v (.int .i64 (n)))] [.val (.c (.v (.bool (O4 l n))))]:=by
 refine CM call393 func393 ntmps393 results393 fun hw=>?_
 simp only[go_sem,ae]
 refine AAT 0 (A:=Nat) (fun k=>[(5,.c (.v (.int .i64 (k))))]) (fun _=>[]) (fun k=>k≤l.length∧O4 (l.drop k) n=O4 l n) (fun k=>l.length-k) 0 ⟨⟨rfl,rfl⟩,rfl,au _,rfl⟩ ?_
 exact AJ_
theorem MK {α:Type} {f:α→List Cl} {n:Nat} (h:∀ x,Go.Vm.rowOk n (f x)=true) (l:List α):Jq n (l.map f)=true:=aS.2 fun r hr=>by
 grind
theorem IY (l:List DVal):Jq 3 (l.map DVal.c)=true:=MK (fun _=>rfl) l
theorem DZ (l:List DVal) (h:l.length≤1048576):Ctr prog 143 [.c (.sl (l.map DVal.c))] [.own 66 3 (l.map DVal.c) true]:=by
 refine CM call143 func143 ntmps143 results143 fun hw=>?_
 have hl:l.length≤2147483648:=AQ2
 simp only[go_sem,IY,ae,hl,ak,BH]
 try simp
theorem Fq (r:DRow) (h:r.l.length≤1048576):Ctr prog 283 [.agg r.c] [.agg r.o]:=by
 refine CM call283 func283 ntmps283 results283 fun hw=>?_
 simp only[go_sem]
 refine AAR ?_
 simp only[go_sem]
 refine ABO _ (DZ r.l h) ?_
 simp only[go_sem,BH]
 try exact AHA
theorem Hz (r:DRow) (h:r.l.length≤1048576):Ctr prog 274 [.agg r.c] [.agg r.o]:=by
 refine CM call274 func274 ntmps274 results274 fun hw=>?_
 have hl:r.l.length≤2147483648:=AQ2
 simp only[go_sem]
 refine AAR ?_
 simp only[go_sem,IY,ae,hl,ak,BH]
 try exact AHA
def SI:List Cl:=[.v (.int .i64 0),.v (.slice none 0 0)]
def SK:Option DRow→Res
 | none=>.val (.agg [.v (.int .i64 0),.sl []])
 | some r=>.agg r.o
def GX (l:List DRow) (n:Int):Option DRow:=l.find? fun r=>r.id==n
theorem AAr (l:List DRow) (n:Int) (ha:Pg Aw l):Ctr prog 291 [.c (.sl (l.map DRow.c)),.c (.v (.int .i64 (n)))] [SK (GX l n),.val (.c (.v (.bool ((GX l n).isSome))))]:=by
 refine CM call291 func291 ntmps291 results291 fun hw=>?_
 have hlen:=ha.1
 simp only[go_sem,ae]
 refine AAT 1 (A:=Nat) (fun k=>[(10,.c (.v (.int .i64 (k))))]) (fun _=>[⟨201,2,[SI],true,true⟩]) (fun k=>k≤l.length∧GX (l.drop k) n=GX l n) (fun k=>l.length-k) 0 ⟨⟨rfl,rfl⟩,rfl,au _,rfl⟩ ?_
 rintro k ⟨hk,hf⟩
 simp only[go_sem,ae,SI]
 refine AAP (fun h=>?_) (fun h=>?_)
 ·have hk':k<l.length:=by simpa using h
  have hr:=ha.2 _ (aj hk')
  rw[DN] at hr
  rw[aA hk',GX,List.find?_cons] at hf
  simp only[go_sem,ae,AA _ hk',hk',ak]
  try refine AAO ?_
  try simp only[go_sem,ae,AA _ hk',hk',ak]
  rcases hv:l[k].id==n with _ | _
  ·simp only[go_sem,hv,wrap_i64 (n:=(k:Int)+1) AQ2 AQ2]
   rw[hv] at hf
   exact AKB
  ·simp only[go_sem,hv,AA _ hk',hk',ak]
   rw[hv] at hf
   rw[← hf]
   first | refine CW (Fq l[k] hr.1) fun _=>?_ | (refine AAR ?_; simp only[go_sem,ae,AA _ hk',hk',ak]; refine CZ (Fq l[k] hr.1) ?_)
   simp only[go_sem,SK,BH]
   try exact AHA
 ·exact AOs
theorem AAs (l:List DRow) (n:Int) (ha:Pg Aw l):Ctr prog 285 [.c (.sl (l.map DRow.c)),.c (.v (.int .i64 (n)))] [SK (GX l n),.val (.c (.v (.bool ((GX l n).isSome))))]:=by
 refine CM call285 func285 ntmps285 results285 fun hw=>?_
 have hlen:=ha.1
 simp only[go_sem,ae]
 refine AAT 1 (A:=Nat) (fun k=>[(6,.c (.v (.int .i64 (k))))]) (fun _=>[⟨201,2,[SI],true,true⟩]) (fun k=>k≤l.length∧GX (l.drop k) n=GX l n) (fun k=>l.length-k) 0 ⟨⟨rfl,rfl⟩,rfl,au _,rfl⟩ ?_
 rintro k ⟨hk,hf⟩
 simp only[go_sem,ae,SI]
 refine AAP (fun h=>?_) (fun h=>?_)
 ·have hk':k<l.length:=by simpa using h
  have hr:=ha.2 _ (aj hk')
  rw[DN] at hr
  rw[aA hk',GX,List.find?_cons] at hf
  simp only[go_sem,ae,AA _ hk',hk',ak]
  try refine AAO ?_
  try simp only[go_sem,ae,AA _ hk',hk',ak]
  rcases hv:l[k].id==n with _ | _
  ·simp only[go_sem,hv,wrap_i64 (n:=(k:Int)+1) AQ2 AQ2]
   rw[hv] at hf
   exact AKB
  ·simp only[go_sem,hv,AA _ hk',hk',ak]
   rw[hv] at hf
   rw[← hf]
   first | refine CW (Hz l[k] hr.1) fun _=>?_ | (refine AAR ?_; simp only[go_sem,ae,AA _ hk',hk',ak]; refine CZ (Hz l[k] hr.1) ?_)
   simp only[go_sem,SK,BH]
   try exact AHA
 ·exact AOs
theorem ML (out:List DVal) (v:DVal):(out ++ [v]).map DVal.c=out.map DVal.c ++ [[.v (.int .i64 v.ty),.v (.int .i64 v.n),.v (.string v.s)]]:=by simp[DVal.c_eq]
def Dp (l:List DRow) (k:Int):List DVal:=l.filterMap fun r=>if 0≤k then r.l[k.toNat]? else none
theorem nK {l:List DRow} {n:Int} {k:Nat} (h:k<l.length):Dp (l.drop k) n=(if h2:0≤n∧n.toNat<l[k].l.length then [l[k].l[n.toNat]'h2.2] else [])++Dp (l.drop (k+1)) n:=by
 unfold Dp
 grind [aA]
theorem WI (l:List DRow) (n:Int) (ha:Pg Aw l):Ctr prog 372 [.c (.sl (l.map DRow.c)),.c (.v (.int .i64 (n)))] [.own 66 3 ((Dp l n).map DVal.c) true]:=by
 refine CM call372 func372 ntmps372 results372 fun hw=>?_
 have hlen:=ha.1
 simp only[go_sem,ae]
 refine AAU [8] (A:=Nat×List DVal) (fun x=>[(11,.c (.v (.int .i64 (x.1)))),(5,.c (.ref 0))]) (fun x=>[⟨66,3,x.2.map DVal.c,true,true⟩]) (fun x=>x.1≤l.length∧x.2++Dp (l.drop x.1) n=Dp l n) (fun x=>l.length-x.1) (0,[]) (AAQ [(0,false)] ⟨rfl,rfl,rfl,trivial⟩ rfl) ⟨au _,rfl⟩ ?_
 rintro⟨k,out⟩ ⟨hk,hb⟩
 dsimp only at hk hb
 have hol:out.length≤l.length:=by
  have h1:(Dp l n).length≤l.length:=aaE _ _
  exact APi
 refine AQy (fun h=>?_) fun h=>?_
 ·have hk':k<l.length:=by simpa using h
  have hr:=ha.2 _ (aj hk')
  rw[DN] at hr
  have hrl:=hr.1
  rw[nK hk'] at hb
  simp only[go_sem,ae,AA _ hk',hk',ak]
  try refine AAO ?_
  try simp only[go_sem,ae,AA _ hk',hk',ak]
  by_cases hn:0≤n∧n.toNat<l[k].l.length
  ·rw[dif_pos hn] at hb
   obtain⟨m,rfl⟩:=aU hn.1
   have hm:m<l[k].l.length:=by have:=hn.2; simpa using this
   have e1:decide ((m:Int)≥0)=true:=AQ3
   have e2:decide ((m:Int)<(l[k].l.length:Int))=true:=AQ5
   have hol2:out.length+1≤1099511627776:=by
    have h1:(Dp l (m:Int)).length≤l.length:=aaE _ _
    exact AO8
   simp only[go_sem,ae,AA _ hk',AA _ hm,hk',hm,e1,e2,hol2,ak]
   try refine AAR ?_
   simp only[go_sem,aW,bn,ae,AA _ hk',AA _ hm,hk',hm,e1,e2,hol2,ak,wrap_i64 (n:=(k:Int)+1) AQ2 AQ2]
   exact⟨(k+1,out ++ [l[k].l[m]]),AAQ [(3,false)] ⟨rfl,rfl,by grind [ML,AP,DVal.pure],trivial⟩ (by rw[← ML]; rfl),⟨hk',by rw[← hb,aZ]; rfl⟩,AQ4⟩
  ·rw[dif_neg hn,aG] at hb
   have hfin:∀ P:Prop,P→P:=fun _ h=>h
   rcases h1:decide (n≥0) with _ | _
   ·simp only[go_sem,ae,AA _ hk',hk',h1,wrap_i64 (n:=(k:Int)+1) AQ2 AQ2]
    exact AOd
   ·have h2:decide (n<(l[k].l.length:Int))=false:=by simp at h1 ⊢; have:¬ n.toNat<l[k].l.length:=fun hh=>hn ⟨h1,hh⟩; omega
    simp only[go_sem,ae,AA _ hk',hk',h1,h2,wrap_i64 (n:=(k:Int)+1) AQ2 AQ2]
    exact AOd
 ·exact AOq
theorem qP (l:List DRow) (n:Int) (ha:Pg Aw l):Ctr prog 395 [.c (.sl (l.map DRow.c)),.c (.v (.int .i64 (n)))] [.own 66 3 ((Dp l n).map DVal.c) true]:=by
 refine CM call395 func395 ntmps395 results395 fun hw=>?_
 have hlen:=ha.1
 simp only[go_sem,ae]
 refine AAU [7] (A:=Nat×List DVal) (fun x=>[(6,.c (.v (.int .i64 (x.1)))),(5,.c (.ref 0))]) (fun x=>[⟨66,3,x.2.map DVal.c,true,true⟩]) (fun x=>x.1≤l.length∧x.2++Dp (l.drop x.1) n=Dp l n) (fun x=>l.length-x.1) (0,[]) (AAQ [(0,false)] ⟨rfl,rfl,rfl,trivial⟩ rfl) ⟨au _,rfl⟩ ?_
 rintro⟨k,out⟩ ⟨hk,hb⟩
 dsimp only at hk hb
 have hol:out.length≤l.length:=by
  have h1:(Dp l n).length≤l.length:=aaE _ _
  exact APi
 refine AQy (fun h=>?_) fun h=>?_
 ·have hk':k<l.length:=by simpa using h
  have hr:=ha.2 _ (aj hk')
  rw[DN] at hr
  have hrl:=hr.1
  rw[nK hk'] at hb
  simp only[go_sem,ae,AA _ hk',hk',ak]
  try refine AAO ?_
  try simp only[go_sem,ae,AA _ hk',hk',ak]
  refine AAN _ (AQ n 0 _) fun _=>?_
  rw[wrap_i64 (n:=(l[k].l.length:Int)-1) AQ2 AQ2]
  by_cases hn:0≤n∧n.toNat<l[k].l.length
  ·rw[dif_pos hn] at hb
   obtain⟨m,rfl⟩:=aU hn.1
   have hm:m<l[k].l.length:=by have:=hn.2; simpa using this
   have e1:Ad (m:Int) 0 ((l[k].l.length:Int)-1)=true:=by simp[Ad]; omega
   have hol2:out.length+1≤1099511627776:=by
    have h1:(Dp l (m:Int)).length≤l.length:=aaE _ _
    exact AO8
   simp only[go_sem,ae,AA _ hk',AA _ hm,hk',hm,e1,hol2,ak]
   try refine AAR ?_
   simp only[go_sem,aW,bn,ae,AA _ hk',AA _ hm,hk',hm,e1,hol2,ak,wrap_i64 (n:=(k:Int)+1) AQ2 AQ2]
   exact⟨(k+1,out ++ [l[k].l[m]]),AAQ [(2,false)] ⟨rfl,rfl,by grind [ML,AP,DVal.pure],trivial⟩ (by rw[← ML]; rfl),⟨hk',by rw[← hb,aZ]; rfl⟩,AQ4⟩
  ·rw[dif_neg hn,aG] at hb
   have e1:Ad n 0 ((l[k].l.length:Int)-1)=false:=by simp[Ad]; intro h1; have:¬ n.toNat<l[k].l.length:=fun hh=>hn ⟨h1,hh⟩; omega
   simp only[go_sem,ae,AA _ hk',hk',e1,wrap_i64 (n:=(k:Int)+1) AQ2 AQ2]
   exact AOd
 ·exact AOq
def Ef (d:DDeed):Bool:=
 if(!(Ad d.op 1 4&&(Ad d.task 0 4&&Ad d.code 0 5)))=true then false else
 if(decide (d.stamp<0)||(decide (d.inv<0)||(decide (d.id < -1)||((d.lin != -1)&&decide (d.lin<d.inv)))))=true then false else
 (d.ret == -1)||((d.lin != -1)&&decide (d.ret≥d.lin))
theorem Qb (d:DDeed):Ctr prog 218 [.agg d.c] [.val (.c (.v (.bool (Ef d))))]:=by
 refine CM call218 func218 ntmps218 results218 fun hw=>?_
 simp only[go_sem]
 refine AAN _ (AQ d.op 1 4) fun _=>?_
 rcases h1:Ad d.op 1 4 with _ | _
 ·simp only[go_sem,Ef,h1,ag,aH]
 simp only[go_sem,h1]
 refine AAN _ (AQ d.task 0 4) fun _=>?_
 rcases h2:Ad d.task 0 4 with _ | _
 ·simp only[go_sem,Ef,h1,h2,ag,aK,aH]
 simp only[go_sem,h1,h2]
 refine AAN _ (AQ d.code 0 5) fun _=>?_
 exact AHp
theorem Qc (d:DDeed):Ctr prog 133 [.agg d.c] [.val (.c (.v (.bool (Ef d))))]:=by
 refine CM call133 func133 ntmps133 results133 fun hw=>?_
 simp only[go_sem]
 refine AAN _ (AL d.op 1 4) fun _=>?_
 rcases h1:Ad d.op 1 4 with _ | _
 ·simp only[go_sem,Ef,h1,ag,aH]
 simp only[go_sem,h1]
 refine AAN _ (AL d.task 0 4) fun _=>?_
 rcases h2:Ad d.task 0 4 with _ | _
 ·simp only[go_sem,Ef,h1,h2,ag,aK,aH]
 simp only[go_sem,h1,h2]
 refine AAN _ (AL d.code 0 5) fun _=>?_
 exact AHp
end Go.Proofs.YthmifbbmgnhddaaGreat
