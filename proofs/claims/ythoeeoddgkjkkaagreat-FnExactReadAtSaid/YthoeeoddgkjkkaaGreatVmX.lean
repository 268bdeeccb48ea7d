/- The value machine, part X: what a law's argument reads is what the machine holds. -/
import Derived.Test.YthoeeoddgkjkkaaGreatVmW
import Derived.ProofKit
namespace Go.Vm
set_option linter.unusedSimpArgs false
set_option linter.unusedVariables false
open Go.RowKit Go.WideShapes
def Old (w:World) (b o:Nat):Prop:=(w.cell? ⟨b,o,none⟩).isSome=true
def RdCs (w:World):List Value→List Cl→Prop
 | [],[]=>True
 | u::us,c::cs=>RdD w (Old w) c u∧RdCs w us cs
 | _,_=>False
theorem RdCs.append {w:World}:∀ {us:List Value} {cs:List Cl} {us':List Value} {cs':List Cl},RdCs w us cs→RdCs w us' cs'→RdCs w (us++us') (cs++cs')
 | [],[],_,_,_,h=>h
 | _::_,_::_,_,_,h,h'=>⟨h.1,RdCs.append h.2 h'⟩
 | [],_::_,_,_,h,_=>h.elim
 | _::_,[],_,_,h,_=>h.elim
theorem RdCs.len {w:World}:∀ {us:List Value} {cs:List Cl},RdCs w us cs→us.length=cs.length
 | [],[],_=>rfl
 | _::_,_::_,h=>by simp[RdCs.len h.2]
 | [],_::_,h=>h.elim
 | _::_,[],h=>h.elim
theorem RdCs.at {w:World}:∀ {us:List Value} {cs:List Cl},RdCs w us cs→∀ (k:Nat) (c:Cl),cs[k]?=some c→∃ y,us[k]?=some y∧RdD w (Old w) c y
 | [],[],_,k,c,hk=>by simp at hk
 | u::us,c0::cs,h,k,c,hk=>by
  cases k with
  | zero=>simp at hk; subst hk; exact⟨u,rfl,h.1⟩
  | succ k=>simpa using RdCs.at h.2 k c (by simpa using hk)
 | [],_::_,h,_,_,_=>h.elim
 | _::_,[],h,_,_,_=>h.elim
theorem RdCs.glue {w:World} {us:List Value} {o n m:Nat} {A B:List Cl} (hA:RdCs w ((us.drop o).take n) A) (hm:o+n=m) (hB:RdCs w (us.drop m) B):RdCs w (us.drop o) (A++B):=by
 subst hm
 have:=hA.append hB
 rwa [← List.drop_drop,List.take_append_drop] at this
theorem RdCs.last {w:World} {us:List Value} {o n:Nat} {A:List Cl} (hA:RdCs w ((us.drop o).take n) A) (hm:us.length=o+n):RdCs w (us.drop o) A:=by
 rwa [List.take_of_length_le (by simp; omega)] at hA
theorem RdCs.agg {w:World} {us:Array Value} {cs:List Cl} (h:RdCs w us.toList cs):RdA w (Old w) (.agg cs) (.agg us):=
 ⟨us.toList,by simp,h.len,fun k c hk=>h.at k c hk⟩
theorem RdCs.one {w:World} {v:Value} {c:Cl} (h:RdCs w [v] [c]):RdD w (Old w) c v:=h.1
variable {H:Type} {enc:TypeId×Value→H} {P:Program} {w:World} {sp:Nat→Bool} {held:Bool}
theorem mapM_each {α β:Type} {f:α→Option β}:∀ {l:List α} {ys:List β},l.mapM f=some ys→∀ (j:Nat) (x:α),l[j]?=some x→∃ y,f x=some y
 | [],_,_,j,x,hj=>by simp at hj
 | a::l,ys,h,j,x,hj=>by
  rw[List.mapM_cons] at h
  cases ha:f a with
  | none=>simp[ha] at h
  | some b =>
   cases hl:l.mapM f with
   | none=>simp[ha,hl] at h
   | some bs =>
    cases j with
    | zero=>simp at hj; subst hj; exact⟨b,ha⟩
    | succ j=>exact mapM_each hl j x (by simpa using hj)
theorem mapM_at {α β:Type} {f:α→Option β}:∀ {l:List α} {ys:List β},l.mapM f=some ys→∀ (j:Nat) (x:α),l[j]?=some x→∃ y,ys[j]?=some y∧f x=some y
 | [],_,_,j,x,hj=>by simp at hj
 | a::l,ys,h,j,x,hj=>by
  rw[List.mapM_cons] at h
  cases ha:f a with
  | none=>simp[ha] at h
  | some b =>
   cases hl:l.mapM f with
   | none=>simp[ha,hl] at h
   | some bs =>
    simp[ha,hl] at h
    subst h
    cases j with
    | zero=>simp at hj; subst hj; exact⟨b,rfl,ha⟩
    | succ j=>simpa using mapM_at hl j x (by simpa using hj)
theorem mP {k:IntKind} {t:TypeId} (ht:P.underlying t=some (.int k)) {fuel:Nat} {cs:List Value} {y:DataW H×List MemPlace} (h:DataW.trod enc P w 0 sp held fuel t cs=some y) :
  ∃ n:Int,RdCs w cs [.v (.int k n)]:=by
 cases fuel with
 | zero=>simp[DataW.trod] at h
 | succ fuel =>
  unfold DataW.trod at h
  rw[ht] at h
  simp only at h
  split at h<;>simp_all
  rename_i k' n heq
  obtain⟨⟨rfl,hw⟩,_⟩:=h
  exact⟨n,⟨rfl,by simpa [Kt] using hw⟩,trivial⟩
theorem pY {t:TypeId} (ht:P.underlying t=some .bool) {fuel:Nat} {cs:List Value} {y:DataW H×List MemPlace} (h:DataW.trod enc P w 0 sp held fuel t cs=some y) :
  ∃ n:Bool,RdCs w cs [.v (.bool n)]:=by
 cases fuel with
 | zero=>simp[DataW.trod] at h
 | succ fuel =>
  rcases cs with _ | ⟨c,_ | ⟨c2,cs⟩⟩
  ·simp[DataW.trod,ht] at h
  ·cases c with
   | bool b=>exact⟨b,⟨rfl,rfl⟩,trivial⟩
   | _=>simp[DataW.trod,ht] at h
  ·simp[DataW.trod,ht] at h
theorem jZ {t:TypeId} (ht:P.underlying t=some .string) {fuel:Nat} {cs:List Value} {y:DataW H×List MemPlace} (h:DataW.trod enc P w 0 sp held fuel t cs=some y) :
  ∃ n:ByteArray,RdCs w cs [.v (.string n)]:=by
 cases fuel with
 | zero=>simp[DataW.trod] at h
 | succ fuel =>
  rcases cs with _ | ⟨c,_ | ⟨c2,cs⟩⟩
  ·simp[DataW.trod,ht] at h
  ·cases c with
   | string b =>
    simp only[DataW.trod,ht] at h
    split at h
    ·rename_i hb
     exact⟨b,⟨rfl,by simpa [Kt] using hb⟩,trivial⟩
    ·cases h
   | _=>simp[DataW.trod,ht] at h
  ·simp[DataW.trod,ht] at h
theorem ja {t:TypeId} {fs:Array Field} (ht:P.underlying t=some (.struct fs)) {fuel:Nat} {cs:List Value} {y:DataW H×List MemPlace} (h:DataW.trod enc P w 0 sp held (fuel+1) t cs=some y) :
  cs.length=P.cellsOf t∧∀ (j:Nat) (f:Field),fs.toList[j]?=some f→∃ y,DataW.trod enc P w 0 sp held fuel f.type ((cs.drop f.offset).take (P.cellsOf f.type))=some y:=by
 simp only[DataW.trod,ht] at h
 split at h
 ·rename_i hl
  obtain⟨xs,hx,_⟩:=Option.map_eq_some_iff.1 h
  exact⟨hl,fun j f hj=>mapM_each hx j f hj⟩
 ·cases h
theorem mQ {α:Type} {f:α→List Cl} {t e:TypeId} (ht:P.underlying t=some (.slice e)) {fuel:Nat} (hlen:∀ x,(f x).length=P.cellsOf e) (hpos:0<P.cellsOf e)
  (he:∀ (cs:List Value) (y:DataW H×List MemPlace),DataW.trod enc P w 0 sp held fuel e cs=some y→∃ x,RdCs w cs (f x))
  {cs:List Value} {y:DataW H×List MemPlace} (h:DataW.trod enc P w 0 sp held (fuel+1) t cs=some y):∃ xs:List α,RdCs w cs [.sl (xs.map f)]:=by
 rcases cs with _ | ⟨c,_ | ⟨c2,cs⟩⟩
 ·simp[DataW.trod,ht] at h
 ·cases c with
  | slice a len cap =>
   cases a with
   | none =>
    have:len=0∧cap=0:=by
     simp only[DataW.trod,ht] at h
     split at h<;>simp_all
    obtain⟨rfl,rfl⟩:=this
    exact⟨[],⟨by simp only[RdD]; exact⟨none,0,rfl,by simp,by simp[maxLen],⟨0,by simp⟩,.inl rfl⟩,trivial⟩⟩
   | some a =>
    simp only[DataW.trod,ht] at h
    split at h
    ·rename_i hb
     obtain⟨_,hlc,hcm⟩:=hb
     obtain⟨es,hes,_⟩:=Option.bind_eq_some_iff.1 h
     have hel:∀ i,i<len→∃ x:α,∃ vs:List Value,w.cells? 0 (a.add (i*P.cellsOf e)) (P.cellsOf e)=some vs∧RdCs w vs (f x):=by
      intro i hi
      obtain⟨z,hz⟩:=mapM_each hes i i (by simp[hi])
      obtain⟨vs,hvs,hz⟩:=Option.bind_eq_some_iff.1 hz
      obtain⟨x,hx⟩:=he vs z hz
      exact⟨x,vs,hvs,hx⟩
     by_cases hz:len=0
     ·subst hz
      exact⟨[],⟨by simp only[RdD]; exact⟨some a,cap,rfl,by simp,hcm,⟨0,by simp⟩,.inl rfl⟩,trivial⟩⟩
     ·have hcell:∀ i,i<len→∀ k,k<P.cellsOf e→∃ u,w.cell? ((a.add (i*P.cellsOf e)).add k)=some u:=by
       intro i hi k hk
       obtain⟨x,vs,hvs,hx⟩:=hel i hi
       simp only[World.cells?,Nat.zero_le,if_true] at hvs
       obtain⟨u,hu⟩:=mapM_each hvs k k (by simp[hk])
       exact⟨u,hu⟩
      have hspot:a.spot=none:=by
       obtain⟨u,hu⟩:=hcell 0 (by omega) 0 hpos
       simp only[Nat.zero_mul,Addr.add,if_true] at hu
       unfold World.cell? at hu
       split at hu
       ·split at hu
        ·cases hu
        ·rename_i hs; simpa using hs
       ·cases hu
      obtain⟨b,off,spot⟩:=a
      simp only at hspot
      subst hspot
      have hadd:∀ i,(⟨b,off,none⟩:Addr).add i=⟨b,off+i,none⟩:=by
       intro i; unfold Addr.add; split
       ·rename_i h0; subst h0; rfl
       ·rfl
      simp only[hadd] at hel
      have hch:∃ g:Nat→α,∀ i,i<len→∃ vs:List Value,w.cells? 0 ⟨b,off+i*P.cellsOf e,none⟩ (P.cellsOf e)=some vs∧RdCs w vs (f (g i)):=by
       obtain⟨x0,_⟩:=hel 0 (by omega)
       refine⟨fun i=>if h:i<len then(hel i h).choose else x0,fun i hi=>?_⟩
       simp only[hi,dif_pos]
       exact(hel i hi).choose_spec
      obtain⟨g,hg⟩:=hch
      refine⟨(List.range len).map g,⟨?_,trivial⟩⟩
      simp only[RdD]
      refine⟨some ⟨b,off,none⟩,cap,by simp,by simpa using hlc,hcm,⟨P.cellsOf e, ?_⟩,.inr ⟨b,off,rfl, ?_⟩⟩
      ·intro x hx
       simp only[List.mem_map] at hx
       obtain⟨y,_,rfl⟩:=hx
       exact hlen y
      ·refine RdE.mk (P.cellsOf e) ?_ fun i x hi=>?_
       ·intro x hx
        simp only[List.mem_map] at hx
        obtain⟨y,_,rfl⟩:=hx
        exact hlen y
       ·have hil:i<len:=by
         rcases Nat.lt_or_ge i len with h' | h'
         ·exact h'
         ·rw[List.getElem?_eq_none (by simpa using h')] at hi; cases hi
        have hx:x=f (g i):=by simpa [hil] using hi.symm
        subst hx
        obtain⟨vs,hvs,hrd⟩:=hg i hil
        refine RdL.mk fun j c hj=>?_
        obtain⟨u,hu,hc⟩:=hrd.at j c hj
        simp only[World.cells?,Nat.zero_le,if_true] at hvs
        have hjl:j<P.cellsOf e:=by
         rw[← hlen (g i)]
         rcases Nat.lt_or_ge j (f (g i)).length with h' | h'
         ·exact h'
         ·rw[List.getElem?_eq_none h'] at hj; cases hj
        obtain⟨u2,hu2,hcl⟩:=mapM_at hvs j j (by simp[hjl])
        rw[hu2] at hu
        simp only[Option.some.injEq] at hu
        subst hu
        have hadd2:(⟨b,off+i*P.cellsOf e,none⟩:Addr).add j=⟨b,off+i*P.cellsOf e+j,none⟩:=by
         unfold Addr.add; split
         ·rename_i h0; subst h0; rfl
         ·rfl
        rw[hadd2] at hcl
        exact⟨by simp[Old,hcl],u2,hcl,hc⟩
    ·cases h
  | _=>simp[DataW.trod,ht] at h
 ·simp[DataW.trod,ht] at h
theorem Ed {α:Type} {f:α→List Cl} {t e:TypeId} {n:Nat} (ht:P.underlying t=some (.slice e)) (hn:P.cellsOf e=n) (hlen:∀ x,(f x).length=n) (hpos:0<n) {fuel:Nat}
  (he:∀ fuel',fuel'<fuel→∀ (cs:List Value) (y:DataW H×List MemPlace),DataW.trod enc P w 0 sp held fuel' e cs=some y→∃ x,RdCs w cs (f x))
  {cs:List Value} {y:DataW H×List MemPlace} (h:DataW.trod enc P w 0 sp held fuel t cs=some y):∃ xs:List α,RdCs w cs [.sl (xs.map f)]:=by
 subst hn
 cases fuel with
 | zero=>simp[DataW.trod] at h
 | succ fuel=>exact mQ ht hlen hpos (he fuel (by omega)) h
theorem CW {t:TypeId} {fs:Array Field} {n:Nat} (ht:P.underlying t=some (.struct fs)) (hn:P.cellsOf t=n) {fuel:Nat} {cs:List Value} {y:DataW H×List MemPlace} (h:DataW.trod enc P w 0 sp held fuel t cs=some y) :
  ∃ fuel',fuel'<fuel∧cs.length=n∧∀ (j:Nat) (f:Field),fs.toList[j]?=some f→∃ y,DataW.trod enc P w 0 sp held fuel' f.type ((cs.drop f.offset).take (P.cellsOf f.type))=some y:=by
 subst hn
 cases fuel with
 | zero=>simp[DataW.trod] at h
 | succ fuel=>exact⟨fuel,by omega,ja ht h⟩
theorem Old.lt {w:World} {b o:Nat} (h:Old w b o):b<w.heap.size:=by
 unfold Old World.cell? at h
 rcases Nat.lt_or_ge b w.heap.size with h' | h'
 ·exact h'
 ·simp[Array.getElem?_eq_none h'] at h
end Go.Vm
