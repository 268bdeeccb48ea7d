/- A part. -/
import Derived.Test.YtgkmefoghbjfnaaGreatVmG
import Derived.Laws.MakeOwn
set_option linter.unusedSimpArgs false
set_option linter.unusedVariables false
namespace Go.Vm
open Go.RowKit
variable {P:Program} {w0:Bs} {St0 St:Nat→Nat→Prop} {β:Nat→Option Nat} {s:MS} {a:Act} {w:World}
theorem VE {l:Nat} {u:Value} {st:List Ob} (h:Aq w st β l u):l<st.length:=by
 unfold Aq at h
 rcases aX l st.length with h' | h'
 ·exact h'
 ·simp[df h'] at h
theorem Yp {l i off:Nat} {u:Value} {st:List Ob} (h:AVR w St st β (.lp l i off) u):l<st.length:=by
 simp only[AVR] at h
 rcases aX l st.length with h' | h'
 ·exact h'
 ·simp[df h'] at h
theorem Core.newObB (h:Core w0 St0 St β s a w) {w':World} (hb:Below w.heap.size w w') (ob:Ob) (ob':Option Nat) (hwr:ob.live=true)
  (hnone:ob'=none→ob.xs = []) (hsome:∀ b,ob'=some b→w.heap.size≤b∧b<w'.heap.size∧∃ cs:Array Value,w'.heap[b]?=some (.cells cs ob.ty (0,0))∧(∀ x∈ob.xs,x.length=ob.sz) ∧
   ∀ (k:Nat) (c:Cl),ob.xs.flatten[k]?=some c→∃ u,cs[k]?=some u∧RdB w St s.st β c u)
  (hown:Own w0 (fun _=>False) w' St (s.st ++ [ob]) (fun l=>if l=s.st.length then ob' else β l)) :
  ∃ β',Core w0 St0 St β' ⟨s.n,s.env,s.st ++ [ob]⟩ a w'∧β' s.st.length=ob'∧(∀ x u,AVR w St s.st β x u→AVR w' St (s.st ++ [ob]) β' x u)∧(∀ x u,RdC w St s.st β x u→RdC w' St (s.st ++ [ob]) β' x u):=by
 refine⟨fun l=>if l=s.st.length then ob' else β l, ?_⟩
 have hw0:w0.heap.size≤w.heap.size:=h.below.size
 have hblk:∀ k,k<w.heap.size→w'.heap[k]?=w.heap[k]?:=hb.block
 have hcell:∀ b o,St b o→w'.cell? ⟨b,o,none⟩=w.cell? ⟨b,o,none⟩:=fun b o hbo=>cell_of_block (hblk b (h.stIn b o hbo))
 have hold:∀ l,l<s.st.length→(s.st ++ [ob])[l]?=s.st[l]?:=fun l hl=>by rw[ah hl]
 have hr:∀ l u,Aq w s.st β l u→Aq w' (s.st ++ [ob]) (fun l=>if l=s.st.length then ob' else β l) l u:=by
  intro l u hu
  have hl:=VE hu
  unfold Aq at hu ⊢
  rw[hold l hl]
  have hne:¬ l=s.st.length:=by omega
  simp only[hne,aK]
  cases hq:s.st[l]? with
  | none=>simp[hq] at hu
  | some o2 =>
   simp only[hq] at hu ⊢
   refine⟨hu.1,fun hlive=>?_⟩
   have h2:=hu.2 hlive
   cases hβ:β l with
   | none=>simpa [hβ] using h2
   | some b =>
    simp only[hβ] at h2 ⊢
    obtain⟨cap,cs,h1,h2,h3,h4,h5⟩:=h2
    exact⟨cap,cs,h1,h2,h3,by rw[hblk b (h.obs l o2 b hq hlive hβ).2.1]; exact h4,h5⟩
 have hp:∀ l i off u,AVR w St s.st β (.lp l i off) u→AVR w' St (s.st ++ [ob]) (fun l=>if l=s.st.length then ob' else β l) (.lp l i off) u:=by
  intro l i off u hu
  have hl:=Yp hu
  have hne:¬ l=s.st.length:=by omega
  simp only[AVR,hold l hl,hne,aK] at hu ⊢
  exact hu
 have hA:∀ x u,AVR w St s.st β x u→AVR w' St (s.st ++ [ob]) (fun l=>if l=s.st.length then ob' else β l) x u:=fun x u hx=>AVR.mono (fun _ _ h=>h) hcell hr hp x u hx
 have hC:∀ x u,RdC w St s.st β x u→RdC w' St (s.st ++ [ob]) (fun l=>if l=s.st.length then ob' else β l) x u:=fun x u hx=>RdC.mono (fun _ _ h=>h) hcell hr x u hx
 have hBB:∀ x u,RdB w St s.st β x u→RdB w' St (s.st ++ [ob]) (fun l=>if l=s.st.length then ob' else β l) x u:=fun x u hx=>RdB.mono (fun _ _ h=>h) hcell hr x u hx
 have hsplit:∀ l o2,(s.st ++ [ob])[l]?=some o2→(l<s.st.length∧s.st[l]?=some o2)∨(l=s.st.length∧o2=ob):=by
  intro l o2 hl
  rcases aX l s.st.length with h1 | h1
  ·exact .inl ⟨h1,by rwa [hold l h1] at hl⟩
  ·rw[ak h1] at hl
   rcases aX 0 (l-s.st.length) with h2 | h2
   ·rw[df (by simp; omega)] at hl; cases hl
   ·have:l-s.st.length=0:=by omega
    simp[this] at hl
    exact .inr ⟨by omega,hl.symm⟩
 refine⟨?_,by simp,hA,hC⟩
 exact {
  defers:=h.defers
  size:=h.size
  env:=fun i=>hA _ _ (h.env i)
  below:=h.below.grow hb
  st0:=h.st0
  stOld:=h.stOld
  stIn:=fun b o hbo=>bn (h.stIn b o hbo) hb.size
  obs:=fun l o2 b hl hlive hβ=>by
   rcases hsplit l o2 hl with ⟨h1,h2⟩ | ⟨rfl,rfl⟩
   ·have hne:¬ l=s.st.length:=by omega
    simp only[hne,aK] at hβ
    obtain⟨q1,q2,q3⟩:=h.obs l o2 b h2 hlive hβ
    refine⟨q1,bn q2 hb.size, ?_⟩
    obtain⟨cs,g1,g2,g3⟩:=q3
    refine⟨cs,by rw[hblk b q2]; exact g1,g2,fun k c hk=>?_⟩
    obtain⟨u,hu,hc⟩:=g3 k c hk
    exact⟨u,hu,hBB _ _ hc⟩
   ·simp only[bC] at hβ
    obtain⟨q1,q2,cs,g1,g2,g3⟩:=hsome b hβ
    refine⟨.inl (ZW hw0 q1),q2,cs,g1,g2,fun k c hk=>?_⟩
    obtain⟨u,hu,hc⟩:=g3 k c hk
    exact⟨u,hu,hBB _ _ hc⟩
  nil:=fun l o2 hl hlive hβ=>by
   rcases hsplit l o2 hl with ⟨h1,h2⟩ | ⟨rfl,rfl⟩
   ·have hne:¬ l=s.st.length:=by omega
    simp only[hne,aK] at hβ
    exact h.nil l o2 h2 hlive hβ
   ·simp only[bC] at hβ
    exact hnone hβ
  inj:=fun l1 l2 o1 o2 b h1 h2 h3 h4 h5 h6=>by
   rcases hsplit l1 o1 h1 with ⟨p1,p2⟩ | ⟨rfl,rfl⟩<;>rcases hsplit l2 o2 h2 with ⟨q1,q2⟩ | ⟨rfl,rfl⟩
   ·have e1:¬ l1=s.st.length:=by omega
    have e2:¬ l2=s.st.length:=by omega
    simp only[e1,e2,aK] at h5 h6
    exact h.inj l1 l2 o1 o2 b p2 q2 h3 h4 h5 h6
   ·have e1:¬ l1=s.st.length:=by omega
    simp only[e1,aK,bC] at h5 h6
    have:=(h.obs l1 o1 b p2 h3 h5).2.1
    have:=(hsome b h6).1
    omega
   ·have e1:¬ l2=s.st.length:=by omega
    simp only[e1,aK,bC] at h5 h6
    have:=(h.obs l2 o2 b q2 h4 h6).2.1
    have:=(hsome b h5).1
    omega
   ·rfl
  sep:=fun l o2 b o hl hlive hβ hbo=>by
   rcases hsplit l o2 hl with ⟨h1,h2⟩ | ⟨rfl,rfl⟩
   ·have hne:¬ l=s.st.length:=by omega
    simp only[hne,aK] at hβ
    exact h.sep l o2 b o h2 hlive hβ hbo
   ·simp only[bC] at hβ
    have:=(hsome b hβ).1
    have:=h.stIn b o hbo
    omega
  own:=hown }
theorem Core.newOb (h:Core w0 St0 St β s a w) {w':World} (hb:Below w.heap.size w w') (ob:Ob) (ob':Option Nat) (hwr:ob.live=true)
  (hnone:ob'=none→ob.xs = []) (hsome:∀ b,ob'=some b→w.heap.size≤b∧b<w'.heap.size∧∃ cs:Array Value,w'.heap[b]?=some (.cells cs ob.ty (0,0))∧(∀ x∈ob.xs,x.length=ob.sz) ∧
   ∀ (k:Nat) (c:Cl),ob.xs.flatten[k]?=some c→∃ u,cs[k]?=some u∧RdC w St s.st β c u) :
  ∃ β',Core w0 St0 St β' ⟨s.n,s.env,s.st ++ [ob]⟩ a w'∧β' s.st.length=ob'∧(∀ x u,AVR w St s.st β x u→AVR w' St (s.st ++ [ob]) β' x u)∧(∀ x u,RdC w St s.st β x u→RdC w' St (s.st ++ [ob]) β' x u):=by
 refine h.newObB hb ob ob' hwr hnone (fun b hb'=>?_) ?_
 ·obtain⟨q1,q2,cs,g1,g2,g3⟩:=hsome b hb'
  refine⟨q1,q2,cs,g1,g2,fun k c hk=>?_⟩
  obtain⟨u,hu,hc⟩:=g3 k c hk
  exact⟨u,hu,hc.toB⟩
 ·refine h.own.move id (fun x hx=>⟨⟨hx.1,fun h=>h,bn hx.2.2.1 hb.size,hx.2.2.2.1,fun l o2 hl hlv=>?_⟩,hb.block x hx.2.2.1⟩) (fun _ _ h=>h)
   (fun b o hbo=>cell_of_block (hb.block b (h.stIn b o hbo))) (fun l o2 b k c hl hlive hβ hk hc=>?_) (fun _ _ _ _ _ _ _ _ e=>e)
  ·by_cases e:l=s.st.length
   ·simp only[e,bC]
    intro hb'
    have:=(hsome x hb').1
    have:=hx.2.2.1
    omega
   ·simp only[e,aK]
    have hlt:l<s.st.length:=by
     have:=(az.1 hl).1
     simp at this
     omega
    rw[ah hlt] at hl
    exact hx.2.2.2.2 l o2 hl hlv
  ·by_cases e:l=s.st.length
   ·subst e
    rw[ak (aQ _)] at hl
    simp only[Vg,ai,ag] at hl
    subst hl
    simp only[bC] at hβ
    obtain⟨_,_,cs,_,_,g3⟩:=hsome b hβ
    obtain⟨u,_,hr⟩:=g3 k c hk
    rw[hr.notOw] at hc
    cases hc
   ·simp only[e,aK] at hβ
    have hlt:l<s.st.length:=by
     have:=(az.1 hl).1
     simp at this
     omega
    rw[ah hlt] at hl
    exact⟨o2,b,hl,hlive,hβ,hk,cell_of_block (hb.block b (h.obs l o2 b hl hlive hβ).2.1)⟩
theorem Pn (w:World) (o:Obj):Below w.heap.size w (w.alloc o):=(Below.refl _ _).alloc (aQ _) o
theorem alloc_at (w:World) (o:Obj):(w.alloc o).heap[w.heap.size]?=some o:=by
 show (w.heap.push o)[w.heap.size]?=_
 simp
theorem Core.newCells (h:Core w0 St0 St β s a w) (ty:TypeId) (sz:Nat) (xs:List (List Cl)) (cs:Array Value) (hl:∀ x∈xs,x.length=sz)
  (hc:∀ (k:Nat) (c:Cl),xs.flatten[k]?=some c→∃ u,cs[k]?=some u∧RdC w St s.st β c u) :
  ∃ β',Core w0 St0 St β' ⟨s.n,s.env,s.st ++ [⟨ty,sz,xs,true,true⟩]⟩ a (w.alloc (.cells cs ty))∧β' s.st.length=some w.heap.size∧(∀ x u,AVR w St s.st β x u→AVR (w.alloc (.cells cs ty)) St (s.st ++ [⟨ty,sz,xs,true,true⟩]) β' x u):=by
 obtain⟨β',h1,h2,h3,_⟩:=h.newOb (Pn w (.cells cs ty)) ⟨ty,sz,xs,true,true⟩ (some w.heap.size) rfl (by simp) (fun b hb=>by
  simp only[ag] at hb
  subst hb
  exact⟨aQ _,by simp,cs,alloc_at w _,hl,hc⟩)
 exact⟨β',h1,h2,h3⟩
def Does (P:Program) (a:Act) (w:World) (w0:Bs) (St0:Nat→Nat→Prop) (s:MS) (o:Oper) (y:AV) (st':List Ob):Prop:=
 ∃ nx v w' St' β',(execOp a.eval o).run P w = .ok nx w'∧(nx = .value v∨(nx = .skip∧v=Go.undef))∧Core w0 St0 St' β' ⟨s.n,s.env,st'⟩ a w'∧AVR w' St' st' β' y v
def JV (P:Program) (s:MS) (T:TypeId):Option (AV×List Ob):=match NC P T with
 | some cs=>some (.lp s.st.length 0 0,s.st ++ [⟨T,cs.length,[cs],true,true⟩])
 | none=>none
def jd (s:MS) (T:TypeId) (x:AV):Option (AV×List Ob):=match cellsA x with
 | some cs=>some (.lp s.st.length 0 0,s.st ++ [⟨T,cs.length,[cs],true,true⟩])
 | none=>none
def Rq (P:Program) (s:MS) (T:TypeId) (p x:AV):Option (AV×List Ob):=match AQ P T,p,cellsA x with
 | some n,.lp l i off,some cs=>match BV s.st l with
  | some ob=>if ob.wr=true∧cs.length=n then match ob.xs[i]? with
   | some row=>if off+n≤row.length then some (.undef,s.st.set l { ob with xs:=ob.xs.set i (row.take off++(cs++row.drop (off+n))) }) else none
   | none=>none
   else none
  | none=>none
 | _,_,_=>none
theorem je (h:Core w0 St0 St β s a w) (o:Oper) (T:TypeId) (ho:o.op = .alloc T) {y:AV} {st':List Ob} (hy:JV P s T=some (y,st')):Does P a w w0 St0 s o y st':=by
 unfold JV at hy
 split at hy
 ·rename_i cs0 hz0
  ·obtain⟨zs,hz,hwf,rfl⟩:=J_ hz0
   simp only[ag,bH] at hy
   obtain⟨rfl,rfl⟩:=hy
   obtain⟨z,hz1,hz2⟩:=Nz hz w
   obtain⟨β',h1,h2,_⟩:=h.newCells T (zs.map Cl.v).length [zs.map .v] z.cells (by simp) (fun k c hk=>by
    simp only[bM,fB,bU,cZ,cu] at hk
    obtain⟨v,hv,rfl⟩:=hk
    refine⟨v,by rw[← Array.getElem?_toList,hz2]; exact hv, ?_⟩
    simp only[RdC,RdD,lH]
    exact aA.1 hwf v (aT hv))
   refine⟨_,.pointer (some ⟨w.heap.size,0,none⟩),_,St,β', ?_,.inl rfl,h1, ?_⟩
   ·simp[execOp,ho,Instr.alloc,hz1,newVar,newRow]
   ·simp[AVR,h2]
 ·cases hy
theorem rE (h:Core w0 St0 St β s a w) (o:Oper) (T:TypeId) (x:Operand) (ho:o.op = .box T x) (hc:Af x=true) {y:AV} {st':List Ob} (hy:jd s T (Cf s x)=some (y,st')):Does P a w w0 St0 s o y st':=by
 have he:=BJ h x hc
 unfold jd at hy
 split at hy
 ·rename_i cs hcs
  simp only[ag,bH] at hy
  obtain⟨rfl,rfl⟩:=hy
  obtain⟨q1,q2⟩:=K_ he hcs
  obtain⟨β',h1,h2,_⟩:=h.newCells T cs.length [cs] (a.eval x).cells (by simp) (fun k c hk=>by
   simp only[bM,fB,bU] at hk
   obtain⟨u,hu,hr⟩:=q2 k c hk
   exact⟨u,by rw[← Array.getElem?_toList]; exact hu,hr⟩)
  refine⟨_,.pointer (some ⟨w.heap.size,0,none⟩),_,St,β', ?_,.inl rfl,h1, ?_⟩
  ·simp[execOp,ho,Instr.box,newVar,newRow]
  ·simp[AVR,h2]
 ·cases hy
theorem Core.write (h:Core w0 St0 St β s a w) {l:Nat} {ob:Ob} (hob:BV s.st l=some ob) (hwr:ob.wr=true) {b:Nat} (hb:β l=some b) (xs':List (List Cl)) (hlen:xs'.length=ob.xs.length) (hsz:∀ x∈xs',x.length=ob.sz)
  {cs cs':Array Value} (hcs:w.heap[b]?=some (.cells cs ob.ty (0,0))) (hsize:cs'.size=cs.size) (hc:∀ (k:Nat) (c:Cl),xs'.flatten[k]?=some c→∃ u,cs'[k]?=some u∧RdB w St s.st β c u)
  (how:∀ (k:Nat) (c:Cl),xs'.flatten[k]?=some c→Dj c=true→ob.xs.flatten[k]?=some c∧cs'[k]?=cs[k]?) :
  Core w0 St0 St β ⟨s.n,s.env,s.st.set l { ob with xs:=xs' }⟩ a (w.setRow b cs'):=by
 obtain⟨hl,hlive⟩:=Ag hob
 obtain⟨hB,hlt,_⟩:=h.obs l ob b hl hlive hb
 have hnew:(w.setRow b cs').heap[b]?=some (.cells cs' ob.ty (0,0)):=setRow_heap w b cs cs' ob.ty (0,0) hcs
 have hoth:∀ k,k≠b→(w.setRow b cs').heap[k]?=w.heap[k]?:=fun k hk=>setRow_other w b k cs' hk
 have hbelow:BelowB w0 (w.setRow b cs'):=h.below.step (n:=0) ⟨rfl,rfl,rfl,by simp[World.setRow],fun k hk=>absurd hk (Nat.not_lt_zero _)⟩ (fun k h1 h2=>hoth k fun e=>by
  subst e
  rcases hB with h' | h'
  ·omega
  ·exact h2 h') fun k hk=>by
  by_cases e:k=b
  ·subst e; exact(U_ hcs hnew).2 hsize
  ·exact Ym (hoth k e)
 have hcell:∀ b' o,St b' o→(w.setRow b cs').cell? ⟨b',o,none⟩=w.cell? ⟨b',o,none⟩:=fun b' o hbo=>by
  have hne:b'≠b:=fun e=>by
   subst e
   have:=(h.sep l ob b' o hl hlive hb hbo).1
   simp[hwr] at this
  exact cell_of_block (hoth b' hne)
 have hll:l<s.st.length:=(az.1 hl).1
 have hget:∀ l',(s.st.set l { ob with xs:=xs' })[l']?=if l=l' then some { ob with xs:=xs' } else s.st[l']?:=fun l'=>by
  rw[bK]
  by_cases e:l=l'
  ·subst e; simp[hll]
  ·simp[e]
 have hr:∀ l' u,Aq w s.st β l' u→Aq (w.setRow b cs') (s.st.set l { ob with xs:=xs' }) β l' u:=by
  intro l' u hu
  unfold Aq at hu ⊢
  rw[hget l']
  by_cases e:l=l'
  ·subst e
   simp only[hl] at hu
   simp only[bC]
   refine⟨hu.1,fun _=>?_⟩
   have h2:=hu.2 hlive
   simp only[hb] at h2 ⊢
   obtain⟨cap,cs2,p1,p2,p3,p4,p5⟩:=h2
   rw[hcs] at p4
   simp only[ag,Obj.cells.injEq,ZX] at p4
   subst p4
   exact⟨cap,cs',by simpa [hlen] using p1,by simpa [hlen] using p2,p3,hnew,by rw[hsize]; exact p5⟩
  ·simp only[e,aK]
   cases hq:s.st[l']? with
   | none=>simp[hq] at hu
   | some o2 =>
    simp only[hq] at hu ⊢
    refine⟨hu.1,fun hlive2=>?_⟩
    have h2:=hu.2 hlive2
    cases hβ:β l' with
    | none=>simpa [hβ] using h2
    | some b2 =>
     simp only[hβ] at h2 ⊢
     have hne:b2≠b:=fun e2=>by subst e2; exact e (h.inj l l' ob o2 b2 hl hq hlive hlive2 hb hβ)
     rw[hoth b2 hne]
     exact h2
 have hp:∀ l' i off u,AVR w St s.st β (.lp l' i off) u→AVR (w.setRow b cs') St (s.st.set l { ob with xs:=xs' }) β (.lp l' i off) u:=by
  intro l' i off u hu
  simp only[AVR,hget l'] at hu ⊢
  by_cases e:l=l'
  ·subst e
   simp only[hl] at hu
   simpa using hu
  ·simpa [e] using hu
 have hC:∀ x u,RdC w St s.st β x u→RdC (w.setRow b cs') St (s.st.set l { ob with xs:=xs' }) β x u:=fun x u hx=>RdC.mono (fun _ _ h=>h) hcell hr x u hx
 have hBB:∀ x u,RdB w St s.st β x u→RdB (w.setRow b cs') St (s.st.set l { ob with xs:=xs' }) β x u:=fun x u hx=>RdB.mono (fun _ _ h=>h) hcell hr x u hx
 have hsp:∀ l' o2,(s.st.set l { ob with xs:=xs' })[l']?=some o2→∃ o3,s.st[l']?=some o3∧o2.live=o3.live∧o2.wr=o3.wr∧o2.sz=o3.sz∧o2.ty=o3.ty∧o2.xs.length=o3.xs.length∧(l≠l'→o2=o3)∧(l=l'→o3=ob∧o2.xs=xs'):=by
  intro l' o2 h2
  rw[hget l'] at h2
  by_cases e:l=l'
  ·subst e
   simp only[bC,ag] at h2
   subst h2
   exact⟨ob,hl,rfl,rfl,rfl,rfl,hlen,fun e=>(e rfl).elim,fun _=>⟨rfl,rfl⟩⟩
  ·simp only[e,aK] at h2
   exact⟨o2,h2,rfl,rfl,rfl,rfl,rfl,fun _=>rfl,fun e2=>(e e2).elim⟩
 exact {
  defers:=h.defers
  size:=h.size
  env:=fun i=>AVR.mono (fun _ _ h=>h) hcell hr hp _ _ (h.env i)
  below:=hbelow
  st0:=h.st0
  stOld:=h.stOld
  stIn:=fun b' o hbo=>by simpa [World.setRow] using h.stIn b' o hbo
  obs:=fun l' o2 b2 hl2 hlive2 hβ=>by
   obtain⟨o3,r1,r2,r3,r4,r5,r6,r7,r8⟩:=hsp l' o2 hl2
   obtain⟨q1,q2,cs2,g1,g2,g3⟩:=h.obs l' o3 b2 r1 (by rw[← r2]; exact hlive2) hβ
   refine⟨q1,by simpa [World.setRow] using q2, ?_⟩
   by_cases e:l=l'
   ·obtain⟨e1,e2⟩:=r8 e
    subst e
    have:b2=b:=by rw[hb] at hβ; exact(di hβ).symm
    subst this
    refine⟨cs',by rw[hnew,r5,e1],by rw[e2,r4,e1]; exact hsz,fun k c hk=>?_⟩
    rw[e2] at hk
    obtain⟨u,hu,hcc⟩:=hc k c hk
    exact⟨u,hu,hBB _ _ hcc⟩
   ·have:=r7 e
    subst this
    have hne:b2≠b:=fun e2=>by subst e2; exact e (h.inj l l' ob o2 b2 hl r1 hlive hlive2 hb hβ)
    refine⟨cs2,by rw[hoth b2 hne]; exact g1,g2,fun k c hk=>?_⟩
    obtain⟨u,hu,hcc⟩:=g3 k c hk
    exact⟨u,hu,hBB _ _ hcc⟩
  nil:=fun l' o2 hl2 hlive2 hβ=>by
   obtain⟨o3,r1,r2,r3,r4,r5,r6,r7,r8⟩:=hsp l' o2 hl2
   have:=h.nil l' o3 r1 (by rw[← r2]; exact hlive2) hβ
   exact bz (by rw[r6,this]; rfl)
  inj:=fun l1 l2 o1 o2 b' h1 h2 h3 h4 h5 h6=>by
   obtain⟨p1,q1,r1,_⟩:=hsp l1 o1 h1
   obtain⟨p2,q2,r2,_⟩:=hsp l2 o2 h2
   exact h.inj l1 l2 p1 p2 b' q1 q2 (by rw[← r1]; exact h3) (by rw[← r2]; exact h4) h5 h6
  sep:=fun l' o2 b' o hl2 hlive2 hβ hbo=>by
   obtain⟨o3,r1,r2,r3,r4,r5,r6,r7,r8⟩:=hsp l' o2 hl2
   have:=h.sep l' o3 b' o r1 (by rw[← r2]; exact hlive2) hβ hbo
   rw[r3,r6,r4]; exact this
  own:=by
   refine h.own.move id (fun x hx=>?_) (fun _ _ h=>h) hcell (fun l' o2 b2 k c hl2 hlive2 hβ hk hcw=>?_) (fun _ _ _ _ _ _ _ _ e=>e)
   ·have hxb:x≠b:=fun e=>hx.2.2.2.2 l ob hl hlive (by rw[hb,e])
    exact⟨⟨hx.1,fun h=>h,by simpa [World.setRow] using hx.2.2.1,hx.2.2.2.1,fun l' o2 hl' hlv=>by
     obtain⟨o3,r1,r2,_⟩:=hsp l' o2 hl'
     exact hx.2.2.2.2 l' o3 r1 (by rw[← r2]; exact hlv)⟩,hoth x hxb⟩
   ·obtain⟨o3,r1,r2,r3,r4,r5,r6,r7,r8⟩:=hsp l' o2 hl2
    by_cases e:l=l'
    ·obtain⟨e1,e2⟩:=r8 e
     subst e
     have eb:b2=b:=by rw[hb] at hβ; exact(di hβ).symm
     subst eb
     rw[e2] at hk
     obtain⟨g1,g2⟩:=how k c hk hcw
     refine⟨ob,b2,hl,hlive,hb,g1, ?_⟩
     simp[World.cell?,hnew,hcs,g2]
    ·have:=r7 e
     subst this
     have hne:b2≠b:=fun e2=>by subst e2; exact e (h.inj l l' ob o2 b2 hl r1 hlive hlive2 hb hβ)
     exact⟨o2,b2,r1,hlive2,hβ,hk,cell_of_block (hoth b2 hne)⟩ }
theorem KC {xs:List (List Cl)} {sz i off n:Nat} {row cs:List Cl} (hl:∀ x∈xs,x.length=sz) (hi:xs[i]?=some row) (hle:off+n≤row.length) :
  (xs.set i (row.take off++(cs++row.drop (off+n)))).flatten=xs.flatten.take (i*sz+off)++(cs++xs.flatten.drop (i*sz+(off+n))):=by
 have hil:i<xs.length:=(az.1 hi).1
 have hx:xs=xs.take i++row::xs.drop (i+1):=by
  have:row=xs[i]:=by rw[aW hil] at hi; exact(di hi).symm
  rw[this,← aF hil,bW]
 have hA:(xs.take i).flatten.length=i*sz:=by
  rw[CJ (sz:=sz) (fun x hx=>hl x (qi hx)),ZV,Nat.min_eq_left (by omega)]
 have hF:xs.flatten=(xs.take i).flatten++(row++(xs.drop (i+1)).flatten):=by
  conv=>lhs; rw[hx]
  simp
 rw[List.set_eq_take_append_cons_drop,ED hil]
 simp only[sW,bM,aY]
 have ht:xs.flatten.take (i*sz+off)=(xs.take i).flatten++row.take off:=by
  rw[hF,← hA,List.take_length_add_append,List.take_append_of_le_length (by omega)]
 have hd:xs.flatten.drop (i*sz+(off+n))=row.drop (off+n)++(xs.drop (i+1)).flatten:=by
  rw[hF,← hA,List.drop_length_add_append,List.drop_append_of_le_length (by omega)]
 rw[ht,hd]
 simp
theorem Po {R:Cl→Value→Prop} {F cs:List Cl} {C vs:List Value} {p n:Nat} (hC:∀ (k:Nat) (c:Cl),F[k]?=some c→∃ u,C[k]?=some u∧R c u) (hp:p+n≤F.length) (hcl:cs.length=n) (hvl:vs.length=n)
  (hcs:∀ (k:Nat) (c:Cl),cs[k]?=some c→∃ u,vs[k]?=some u∧R c u) (hFC:F.length≤C.length) :
  ∀ (k:Nat) (c:Cl),(F.take p++(cs++F.drop (p+n)))[k]?=some c→∃ u,(C.take p++(vs++C.drop (p+n)))[k]?=some u∧R c u:=by
 intro k c hk
 have l1:(F.take p).length=p:=by simp; omega
 have l2:(C.take p).length=p:=by simp; omega
 rcases aX k p with h1 | h1
 ·rw[ah (by omega),aV,ED h1] at hk
  obtain⟨u,hu,hr⟩:=hC k c hk
  exact⟨u,by rw[ah (by omega),aV,ED h1]; exact hu,hr⟩
 ·rw[ak (by omega),l1] at hk
  rw[ak (by omega),l2]
  rcases aX (k-p) n with h2 | h2
  ·rw[ah (by omega)] at hk ⊢
   exact hcs _ c hk
  ·rw[ak (by omega),bY,hcl] at hk
   rw[ak (by omega),bY,hvl]
   have:=hC _ c hk
   exact this
theorem jf {F cs:List Cl} {C vs:List Value} {p n:Nat} (hp:p+n≤F.length) (hcl:cs.length=n) (hvl:vs.length=n) (hFC:F.length≤C.length) (hno:∀ (k:Nat) (c:Cl),cs[k]?=some c→Dj c=false) :
  ∀ (k:Nat) (c:Cl),(F.take p++(cs++F.drop (p+n)))[k]?=some c→Dj c=true→F[k]?=some c∧(C.take p++(vs++C.drop (p+n)))[k]?=C[k]?:=by
 intro k c hk hc
 have l1:(F.take p).length=p:=by simp; omega
 have l2:(C.take p).length=p:=by simp; omega
 rcases aX k p with h1 | h1
 ·rw[ah (by omega),aV,ED h1] at hk
  exact⟨hk,by rw[ah (by omega),aV,ED h1]⟩
 ·rw[ak (by omega),l1] at hk
  rw[ak (by omega),l2]
  rcases aX (k-p) n with h2 | h2
  ·rw[ah (by omega)] at hk
   rw[hno _ c hk] at hc
   cases hc
  ·rw[ak (by omega),bY,hcl] at hk
   rw[ak (by omega),bY,hvl]
   have e:p+n+(k-p-n)=k:=by omega
   rw[e] at hk ⊢
   exact⟨hk,rfl⟩
theorem G9 {R:Cl→Value→Prop} {F:List Cl} {C:List Value} (hC:∀ (k:Nat) (c:Cl),F[k]?=some c→∃ u,C[k]?=some u∧R c u):F.length≤C.length:=by
 rcases aX C.length F.length with h | h
 ·obtain⟨u,hu,_⟩:=hC C.length _ (aW h)
  simp at hu
 ·exact h
theorem jg (h:Core w0 St0 St β s a w) (o:Oper) (T:TypeId) (p x:Operand) (ho:o.op = .store T p x) (hc:Af p=true) (hc2:Af x=true) {y:AV} {st':List Ob} (hy:Rq P s T (Cf s p) (Cf s x)=some (y,st')):Does P a w w0 St0 s o y st':=by
 have hp:=BJ h p hc
 have hx:=BJ h x hc2
 unfold Rq at hy
 split at hy
 ·rename_i n l i off cs hs hev hcs
  split at hy
  ·rename_i ob hob
   split at hy
   ·rename_i hwl
    obtain⟨hwr,hcl⟩:=hwl
    split at hy
    ·rename_i row hrow
     split at hy
     ·rename_i hle
      simp only[ag,bH] at hy
      obtain⟨rfl,rfl⟩:=hy
      rw[hev] at hp
      obtain⟨b,C,hb,hu,g1,g2,g3⟩:=Zb h hp hob
      obtain⟨q1,q2⟩:=K_ hx hcs
      have hrl:row.length=ob.sz:=g2 row (aT hrow)
      have hil:i<ob.xs.length:=(az.1 hrow).1
      have hFl:ob.xs.flatten.length=ob.xs.length*ob.sz:=CJ g2
      have g3':∀ (k:Nat) (c:Cl),ob.xs.flatten[k]?=some c→∃ u,C.toList[k]?=some u∧RdB w St s.st β c u:=fun k c hk=>by simpa using g3 k c hk
      have hFC:=G9 g3'
      have hpos:i*ob.sz+(off+n)≤ob.xs.flatten.length:=by
       rw[hFl]
       have:(i+1)*ob.sz≤ob.xs.length*ob.sz:=mX _ hil
       rw[Pj] at this; omega
      have hvl:(a.eval x).cells.toList.length=n:=by rw[q1,hcl]
      have h1:∀ v∈(a.eval x).cells.toList,v.oneCell'=true:=fun v hv=>by
       obtain⟨k,hk1,hk2⟩:=List.getElem_of_mem hv
       have hkc:k<cs.length:=by rw[← q1]; exact hk1
       obtain⟨u,hu1,hu2⟩:=q2 k _ (aW hkc)
       rw[aW hk1] at hu1
       simp only[ag] at hu1
       rw[← hk2,hu1]; exact hu2.one
      have hrun:=run_storeCells_at P b (i*ob.sz+off) ob.ty (a.eval x).cells.toList 0 C w g1 (by
       have:C.toList.length=C.size:=by simp
       omega) h1
      simp only[lG,hvl] at hrun
      have hasz:(a.eval x).cells.size=n:=by simpa using hvl
      refine⟨.skip,Go.undef,_,St,β, ?_,.inr ⟨rfl,rfl⟩,h.write hob hwr hb (ob.xs.set i (row.take off++(cs++row.drop (off+n)))) (by simp) ?_ g1 (cs':=(C.toList.take (i*ob.sz+off)++(a.eval x).cells.toList++C.toList.drop (i*ob.sz+off+n)).toArray) ?_ ?_ ?_, ?_⟩
      ·simp[execOp,ho,hu,Instr.storeAt,Instr.sureAddr,storeVar,Eb hs,hasz,hrun]
      ·intro z hz
       rcases xJ hz with h2 | h2
       ·exact g2 z h2
       ·subst h2; simp; omega
      ·have:C.toList.length=C.size:=by simp
       simp
       omega
      ·intro k c hk
       rw[KC g2 hrow hle] at hk
       have:=Po g3' (p:=i*ob.sz+off) (n:=n) (by omega) hcl hvl (fun k c hk=>by obtain⟨u,hu1,hu2⟩:=q2 k c hk; exact⟨u,hu1,hu2.toB⟩) hFC k c (by rwa [tH])
       obtain⟨u,hu1,hu2⟩:=this
       exact⟨u,by simpa using hu1,hu2⟩
      ·intro k c hk how
       rw[KC g2 hrow hle] at hk
       have:=jf (C:=C.toList) (vs:=(a.eval x).cells.toList) (p:=i*ob.sz+off) (n:=n) (by omega) hcl hvl hFC (fun k c hk=>by obtain⟨u,_,hu2⟩:=q2 k c hk; exact hu2.notOw) k c (by rwa [tH]) how
       refine⟨this.1, ?_⟩
       have h2:=this.2
       simp only[dh,aY]
       rw[h2]
       simp
      ·simp only[AVR]
     ·cases hy
    ·cases hy
   ·cases hy
  ·cases hy
 ·cases hy
def DC (P:Program) (t:TypeId):Option Nat:=(P.info? t).map (·.bytes)
def XW (P:Program) (s:MS) (T:TypeId) (l c:AV):Option (AV×List Ob):=match CE P T with
 | some e=>match AQ P e,NC P e,DC P e with
  | some n,some cs,some by'=>match l,c with
   | .c (.v (.int .i64 nl)),.c (.v (.int .i64 nc))=>if cs.length=n∧0<n∧by'≤65536∧0≤nl∧nl≤nc∧nc≤2147483648
    then some (.c (.ref s.st.length),s.st ++ [⟨e,n,List.replicate nl.toNat cs,true,true⟩]) else none
   | _,_=>none
  | _,_,_=>none
 | none=>none
theorem VF (zs:Array Value) (n k:Nat) (hk:k<n) (hz:0<zs.size):(madeCells zs n)[k]?=zs[k%zs.size]?:=by
 have hm:k%zs.size<zs.size:=Nat.mod_lt _ hz
 simp[madeCells,hk,hm]
theorem KD {z:List Cl} {n:Nat} {k:Nat} {c:Cl} (hz:0<z.length) (h:(List.replicate n z).flatten[k]?=some c):z[k%z.length]?=some c∧k<n*z.length:=by
 have hl:∀ x∈List.replicate n z,x.length=z.length:=fun x hx=>by rw[xK hx]
 have hlen:=CJ hl
 have hk:k<n*z.length:=by
  rcases aX k (n*z.length) with h' | h'
  ·exact h'
  ·rw[df (by rw[hlen]; simpa using h')] at h; cases h
 refine⟨?_,hk⟩
 have hi:k/z.length<n:=Nat.div_lt_of_lt_mul (by rwa [Nat.mul_comm])
 have hj:k%z.length<z.length:=Nat.mod_lt _ hz
 have:=Dz hl (k/z.length) (k%z.length) z _ (by simp[hi]) (aW hj)
 rw[show k/z.length*z.length+k%z.length=k by rw[Nat.mul_comm]; exact Nat.div_add_mod k z.length] at this
 rw[this] at h
 rw[aW hj]; exact h
theorem nK (h:Core w0 St0 St β s a w) (o:Oper) (T:TypeId) (l c:Operand) (ho:o.op = .makeSlice T l c) (hc:Af l=true) (hc2:Af c=true) {y:AV} {st':List Ob} (hy:XW P s T (Cf s l) (Cf s c)=some (y,st')):Does P a w w0 St0 s o y st':=by
 have hl:=BJ h l hc
 have hcc:=BJ h c hc2
 unfold XW at hy
 split at hy
 ·rename_i e hte
  have ht:=Hg hte
  split at hy
  ·rename_i n cs0 by' hs hz0 hb
   obtain⟨zs,hz,hwf,rfl⟩:=J_ hz0
   split at hy
   ·rename_i nl nc hev1 hev2
    split at hy
    ·rename_i hcond
     obtain⟨hzl0,hn,hby,h0,h1,h2⟩:=hcond
     have hzl:zs.length=n:=by simpa using hzl0
     simp only[ag,bH] at hy
     obtain⟨rfl,rfl⟩:=hy
     rw[hev1] at hl
     rw[hev2] at hcc
     obtain⟨hv1,_⟩:=I8 hl
     obtain⟨hv2,_⟩:=I8 hcc
     unfold AQ at hs
     unfold J9 at hz
     unfold DC at hb
     cases hi:P.info? e with
     | none=>simp[hi] at hs
     | some i =>
      cases hiz:i.zero with
      | none=>simp[hi,hiz] at hz
      | some z =>
       simp[hi] at hs hb
       simp[hi,hiz] at hz
       have hzs:z.cells.size=n:=by rw[← hzl,← hz]; simp
       have hrun:=run_make (P:=P) w T e i z ht hi hiz .i64 .i64 nl nc h0 h1 (by rw[hb]; have:(by':Int)*nc≤65536*2147483648:=Int.mul_le_mul (by omega) h2 (by omega) (by omega); omega) (by omega)
       have hmc:(madeCells z.cells (nc.toNat*i.size)).size=nc.toNat*i.size:=size_madeCells _ _
       obtain⟨β',q1,q2,q3⟩:=h.newCells e n (List.replicate nl.toNat (zs.map .v)) (madeCells z.cells (nc.toNat*i.size)) (fun x hx=>by rw[xK hx]; simpa using hzl) (fun k cl hk=>by
        have hzl':(zs.map Cl.v).length=n:=by simpa using hzl
        obtain⟨r1,r2⟩:=KD (by omega) hk
        rw[hzl'] at r1 r2
        simp only[cZ,cu] at r1
        obtain⟨v,hv,rfl⟩:=r1
        have hkn:k<nc.toNat*i.size:=by
         rw[hs]
         exact bn r2 (mX _ (by omega))
        refine⟨v, ?_, ?_⟩
        ·rw[VF _ _ _ hkn (by omega),hzs,← Array.getElem?_toList,hz]; exact hv
        ·simp only[RdC,RdD,lH]
         exact aA.1 hwf v (aT hv))
       refine⟨_,.slice (some ⟨w.heap.size,0,none⟩) nl.toNat nc.toNat,_,St,β', ?_,.inl rfl,q1, ?_⟩
       ·simp[execOp,ho,hv1,hv2,hrun]
       ·simp only[AVR,RdC,Aq]
        rw[ak (aQ _)]
        simp only[Vg,ai,q2]
        refine⟨rfl,fun _=>⟨nc.toNat,_, ?_, ?_, ?_,alloc_at w _, ?_⟩⟩
        ·simp
        ·simp; omega
        ·simp only[maxLen]; omega
        ·rw[hmc,hs]
    ·cases hy
   ·cases hy
  ·cases hy
 ·cases hy
theorem foldl_set:∀ (vs:List Value) (off k:Nat) (A:Array Value),off+k+vs.length≤A.size →
  (vs.zipIdx k).foldl (fun cs (x:Value×Nat)=>cs.setIfInBounds (off+x.2) x.1) A=(A.toList.take (off+k)++vs++A.toList.drop (off+k+vs.length)).toArray
 | [],off,k,A,_=>by simp
 | v::vs,off,k,A,h=>by
  simp only[bQ] at h
  simp only[List.zipIdx_cons,List.foldl_cons]
  rw[foldl_set vs off (k+1) (A.setIfInBounds (off+k) v) (by simp; omega)]
  congr 1
  have:=list_seg_step A.toList (off+k) v vs (by simp; omega)
  simp only[Array.toList_setIfInBounds]
  rw[show off+(k+1)=off+k+1 by omega,this]
  simp
theorem Td (place:Nat→Option (Nat×Nat)) (A:Array Value) (i off size:Nat) (v:Value) (rest:List (Nat×Value)) (hp:place i=some (off,size)) (hv:v.cells.size=size) (hle:off+size≤A.size) :
  Instr.fill place A ((i,v)::rest)=Instr.fill place (A.toList.take off++(v.cells.toList++A.toList.drop (off+size))).toArray rest:=by
 have h1:¬ ((decide (v.cells.size≠size)||decide (off+v.cells.size>A.size))=true):=by simp; omega
 have hfl:=foldl_set v.cells.toList off 0 A (by simp; omega)
 simp only[lG] at hfl
 have e:v.cells.zipIdx.foldl (fun cs (x:Value×Nat)=>cs.setIfInBounds (off+x.2) x.1) A=(A.toList.take off++(v.cells.toList++A.toList.drop (off+size))).toArray:=by
  rw[← Array.foldl_toList]
  rw[Array.toList_zipIdx,hfl]
  simp[hv]
 simp only[Instr.fill,hp]
 rw[Eh h1]
 exact congrArg (fun B=>Instr.fill place B rest) e
def Ed (s:MS) (ps:List (Nat×Operand)):List (Nat×AV):=match ps with
 | []=>[]
 | p::r=>(p.1,Cf s p.2)::Ed s r
def N7:List (Nat×AV)→Nat→Nat→Option (List (List Cl))
 | [],_,_=>some []
 | (i,x)::r,k,n=>match cellsA x,N7 r (k+1) n with
  | some cs,some rs=>if i=k∧cs.length=n then some (cs::rs) else none
  | _,_=>none
def Tf (P:Program) (T:TypeId) (F:List Cl):List (Nat×AV)→Option (List Cl)
 | []=>some F
 | (i,x)::r=>match AB P T i,cellsA x with
  | some (off,ft),some cs=>match AQ P ft with
   | some n=>if cs.length=n∧off+n≤F.length then Tf P T (F.take off++(cs++F.drop (off+n))) r else none
   | none=>none
  | _,_=>none
theorem Ti (n:Nat) {st:List Ob} (hn:0<n):∀ (ps:List (Nat×AV)) (vs:List (Nat×Value)) (k:Nat) (rows:List (List Cl)) (A:Array Value),
  vs.length=ps.length→(∀ (j:Nat) (p:Nat×AV),ps[j]?=some p→∃ q:Nat×Value,vs[j]?=some q∧q.1=p.1∧AVR w St st β p.2 q.2)→N7 ps k n=some rows→(k+ps.length)*n≤A.size →
  ∃ B:Array Value,Instr.fill (fun i=>some (i*n,n)) A vs=some B∧B.size=A.size∧(∀ j,j<k*n→B[j]?=A[j]?)∧(∀ j,(k+ps.length)*n≤j→B[j]?=A[j]?) ∧
   ∀ (j:Nat) (c:Cl),rows.flatten[j]?=some c→∃ u,B[k*n+j]?=some u∧RdC w St st β c u
 | [],vs,k,rows,A,hl,_,hr,_=>by
  simp only[N7,ag] at hr
  subst hr
  have:vs = []:=bz (by simpa using hl)
  subst this
  exact⟨A,rfl,rfl,fun _ _=>rfl,fun _ _=>rfl,fun j c hj=>by simp at hj⟩
 | (i,x)::ps,vs,k,rows,A,hl,hvs,hr,hA=>by
  cases vs with
  | nil=>simp at hl
  | cons v vs =>
   obtain⟨q,hq1,hq2,hq3⟩:=hvs 0 (i,x) rfl
   simp only[ai,ag] at hq1
   subst hq1
   simp only[N7] at hr
   split at hr
   ·rename_i cs rs hcs hrs
    split at hr
    ·rename_i hik
     obtain⟨hik,hcl⟩:=hik
     simp only[ag] at hr
     subst hr
     subst hik
     obtain⟨c1,c2⟩:=K_ hq3 hcs
     obtain⟨vi,vv⟩:=v
     simp only at hq2 hq3 c1 c2
     subst hq2
     have hvsz:vv.cells.size=n:=by
      have:vv.cells.toList.length=vv.cells.size:=by simp
      omega
     simp only[bQ] at hA
     have hA':vi*n+n≤A.size:=by
      have:(vi+1)*n≤(vi+(ps.length+1))*n:=mX _ (by omega)
      rw[Pj] at this; omega
     have hsz:(A.toList.take (vi*n)++(vv.cells.toList++A.toList.drop (vi*n+n))).toArray.size=A.size:=by
      have:A.toList.length=A.size:=by simp
      have:vv.cells.toList.length=vv.cells.size:=by simp
      simp only[jV,aO,ZV,mZ]
      omega
     obtain⟨B,b1,b2,b3,b4,b5⟩:=Ti n hn ps vs (vi+1) rs (A.toList.take (vi*n)++(vv.cells.toList++A.toList.drop (vi*n+n))).toArray (by simpa using hl)
      (fun j p hj=>by simpa using hvs (j+1) p (by simpa using hj)) hrs (by rw[hsz]; rw[show vi+1+ps.length=vi+(ps.length+1) by omega]; exact hA)
     have hAl:A.toList.length=A.size:=by simp
     have htl:(A.toList.take (vi*n)).length=vi*n:=by simp; omega
     have hvl:vv.cells.toList.length=n:=by simpa using hvsz
     refine⟨B, ?_,by rw[b2,hsz],fun j hj=>?_,fun j hj=>?_,fun j c hj=>?_⟩
     ·rw[Td _ A vi (vi*n) n vv vs rfl hvsz hA']; exact b1
     ·rw[b3 j (by rw[Pj]; omega)]
      simp only[dh]
      rw[ah (by omega),aV,ED hj]
      simp
     ·simp only[bQ] at hj
      rw[b4 j (by rw[show vi+1+ps.length=vi+(ps.length+1) by omega]; exact hj)]
      have hj2:vi*n+n≤j:=by
       have:(vi+1)*n≤(vi+(ps.length+1))*n:=mX _ (by omega)
       rw[Pj] at this; omega
      simp only[dh]
      rw[ak (by omega),ak (by omega),bY,htl,hvl]
      rw[show vi*n+n+(j-vi*n-n)=j by omega]
      simp
     ·simp only[bM] at hj
      rcases aX j n with h1 | h1
      ·rw[ah (by omega)] at hj
       obtain⟨u,hu,hc⟩:=c2 j c hj
       refine⟨u, ?_,hc⟩
       rw[b3 _ (by rw[Pj]; omega)]
       simp only[dh]
       rw[ak (by omega),htl,show vi*n+j-vi*n=j by omega,ah (by omega)]
       exact hu
      ·rw[ak (by omega),hcl] at hj
       obtain⟨u,hu,hc⟩:=b5 (j-n) c hj
       refine⟨u, ?_,hc⟩
       rw[Pj] at hu
       rw[show vi*n+1*n+(j-n)=vi*n+j by omega] at hu
       exact hu
    ·cases hr
   ·cases hr
end Go.Vm
