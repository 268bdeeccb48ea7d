/- The value machine, part U: a contract out of the machine's walk. -/
import Derived.Test.YthoeeoddgkjkkaaGreatVmT
namespace Go.Vm
set_option linter.unusedSimpArgs false
set_option linter.unusedVariables false
open Go.RowKit
variable {P:Program} {w0:Bs} {St0 St:Nat→Nat→Prop} {β:Nat→Option Nat} {s:MS} {a:Act} {w:World}
def Nk (P:Program) (s:MS):List ResultVar→Option (List AV)
 | []=>some []
 | .tmp t::r=>match Nk P s r with
  | some xs=>some (CB s.env t::xs)
  | none=>none
 | .cell t T::r=>match FY P s (.load T (.tmp t)),Nk P s r with
  | some x,some xs=>some (x::xs)
  | _,_=>none
def Js (st:List Ob):List AV→List Res→List Nat→Prop
 | [],[],_=>True
 | _::xs,.val _::rs,us=>Js st xs rs us
 | x::xs,.own ty sz ys wr::rs,us=>match x with
  | .c (.ref l)=>match Cc st l with
   | some ob=>ob.ty=ty∧ob.sz=sz∧ob.xs=ys∧(wr=true→ob.wr=true)∧CY ys=true∧l∉us∧Js st xs rs (l::us)
   | none=>False
  | .c (.v (.slice none 0 0))=>ys = []∧Js st xs rs us
  | _=>False
 | x::xs,.agg ys::rs,us=>match x with
  | .agg zs=>AU st zs ys us fun us'=>Js st xs rs us'
  | _=>False
 | _,_,_=>False
def Lp (st:List Ob):List AV→List Res→(List Ob→Prop)→Prop
 | [],[],K=>K st
 | x::xs,.val y::rs,K=>match vz st x with
  | some (y',st')=>y'=y∧Lp st' xs rs K
  | none=>False
 | _::xs,.own _ _ _ _::rs,K=>Lp st xs rs K
 | _::xs,.agg _::rs,K=>Lp st xs rs K
 | _,_,_=>False
def Post (P:Program) (vars:List ResultVar) (rs:List Res) (s:MS):Prop:=match Nk P s vars with
 | some xs=>Lp s.st xs rs fun st=>Js st xs rs []
 | none=>False
theorem Tz {w':World} {St':Nat→Nat→Prop} {st st':List Ob} {β':Nat→Option Nat} (hA:∀ x u,AVR w St st β x u→AVR w' St' st' β' x u):∀ {xs:List AV} {us:List Value},AVRs w St st β xs us→AVRs w' St' st' β' xs us
 | [],us,h=>by simp only[AVRs] at h ⊢; exact h
 | x::xs,us,h=>by
  simp only[AVRs] at h ⊢
  obtain⟨y,ys,h1,h2,h3⟩:=h
  exact⟨y,ys,h1,hA x y h2,Tz hA h3⟩
theorem PQ:∀ (xs:List AV) (rs:List Res) (us:List Value) (st:List Ob) (St:Nat→Nat→Prop) (K:List Ob→Prop),Core w0 St0 St β ⟨s.n,s.env,st⟩ a w→AVRs w St st β xs us→Lp st xs rs K →
  ∃ st' St',K st'∧Core w0 St0 St' β ⟨s.n,s.env,st'⟩ a w∧(∀ b o,St b o→St' b o)∧(∀ x u,AVR w St st β x u→AVR w St' st' β x u) ∧
   (∀ (j:Nat) (y:AV),rs[j]?=some (.val y)→∃ u,us[j]?=some u∧RdA w St' y u)
 | [],rs,us,st,St,K,h,hx,hv=>by
  cases rs with
  | nil=>exact⟨st,St,hv,h,fun _ _ h=>h,fun _ _ h=>h,fun j y hj=>by simp at hj⟩
  | cons r rs=>cases r<;>simp[Lp] at hv
 | x::xs,rs,us,st,St,K,h,hx,hv=>by
  cases rs with
  | nil=>simp[Lp] at hv
  | cons r rs =>
   simp only[AVRs] at hx
   obtain⟨u,us',rfl,h1,h2⟩:=hx
   cases r with
   | val y =>
    simp only[Lp] at hv
    split at hv
    ·rename_i y' st1 hf
     obtain⟨rfl,hv⟩:=hv
     obtain⟨St1,q1,q2,q3,q4⟩:=lG h hf
     have hm:=KD (w:=w) (w':=w) (β:=β) (St:=St) (St':=St1) fun l ob hl=>fF hf hl
     have hA:∀ x u,AVR w St st β x u→AVR w St1 st1 β x u:=fun x u hx=>AVR.mono q2 (fun _ _ _=>rfl) q3 hm x u hx
     obtain⟨st',St',r1,r2,r3,r4,r5⟩:=PQ xs rs us' st1 St1 K q1 (Tz hA h2) hv
     refine⟨st',St',r1,r2,fun b o hbo=>r3 b o (q2 b o hbo),fun x u hx=>r4 x u (hA x u hx),fun j z hj=>?_⟩
     cases j with
     | zero =>
      simp only[List.getElem?_cons_zero,Option.some.injEq,Res.val.injEq] at hj
      subst hj
      exact⟨u,rfl,(q4 u h1).mono r3 (fun _ _ _=>rfl)⟩
     | succ j=>simpa using r5 j z (by simpa using hj)
    ·exact hv.elim
   | own ty sz ys wr =>
    simp only[Lp] at hv
    obtain⟨st',St',r1,r2,r3,r4,r5⟩:=PQ xs rs us' st St K h h2 hv
    refine⟨st',St',r1,r2,r3,r4,fun j z hj=>?_⟩
    cases j with
    | zero=>simp at hj
    | succ j=>simpa using r5 j z (by simpa using hj)
   | agg ys =>
    simp only[Lp] at hv
    obtain⟨st',St',r1,r2,r3,r4,r5⟩:=PQ xs rs us' st St K h h2 hv
    refine⟨st',St',r1,r2,r3,r4,fun j z hj=>?_⟩
    cases j with
    | zero=>simp at hj
    | succ j=>simpa using r5 j z (by simpa using hj)
section owns
variable {φ:Nat→Nat→Nat→Prop}
theorem ZV (h:Core w0 St0 St β s a w) (hφ:Ru w0 w St s.st β φ) (hno:∀ x,¬ w0.own x):∀ (xs:List AV) (rs:List Res) (us:List Value) (used:List Nat),AVRs w St s.st β xs us→Js s.st xs rs used →
  (∀ (j:Nat) (y:AV),rs[j]?=some (.val y)→∃ u,us[j]?=some u∧RdA w St y u) →
  ∃ bs Φs,ResR w St w0.heap.size rs us bs Φs∧FpOk w St w0.heap.size bs Φs ∧
   (∀ (i b:Nat),bs[i]?=some (some b)→∃ l ob,s.st[l]?=some ob∧ob.live=true∧β l=some b∧l∉used) ∧
   ∀ (i:Nat) (Φ:Nat→Nat→Prop) (k x:Nat),Φs[i]?=some Φ→Φ k x→∃ l,l∉used∧Fp s.st β φ l x
 | [],rs,us,used,hx,ho,hv=>by
  cases rs with
  | nil =>
   simp only[AVRs] at hx
   subst hx
   exact⟨[],[],⟨rfl,rfl,rfl⟩,⟨fun i j b hi=>by simp at hi,fun i Φ k x hi=>by simp at hi,fun i i' Φ Φ' k k' x hi=>by simp at hi⟩,fun i b hi=>by simp at hi,fun i Φ k x hi=>by simp at hi⟩
  | cons r rs=>cases r<;>simp[Js] at ho
 | x::xs,rs,us,used,hx,ho,hv=>by
  cases rs with
  | nil=>simp[Js] at ho
  | cons r rs =>
   simp only[AVRs] at hx
   obtain⟨u,us',rfl,h1,h2⟩:=hx
   have hv':∀ (j:Nat) (y:AV),rs[j]?=some (.val y)→∃ u,us'[j]?=some u∧RdA w St y u:=fun j y hj=>by
    simpa using hv (j+1) y (by simpa using hj)
   have cons:∀ (used1:List Nat) (b:Option Nat) (Φ:Nat→Nat→Prop),(∀ l∈used,l∈used1)→Res1 w St w0.heap.size r u b Φ→Js s.st xs rs used1 →
     (∀ b0,b=some b0→∃ l ob,s.st[l]?=some ob∧ob.live=true∧β l=some b0∧l∉used∧l∈used1) →
     (∀ k x,Φ k x→∃ l,l∉used∧l∈used1∧Fp s.st β φ l x∧w0.may x∧x<w.heap.size∧(∀ o,¬ St x o)∧b≠some x)→(∀ k k' x,Φ k x→Φ k' x→k=k') →
     ∃ bs Φs,ResR w St w0.heap.size (r::rs) (u::us') bs Φs∧FpOk w St w0.heap.size bs Φs∧(∀ (i b:Nat),bs[i]?=some (some b)→∃ l ob,s.st[l]?=some ob∧ob.live=true∧β l=some b∧l∉used) ∧
      ∀ (i:Nat) (Φ:Nat→Nat→Prop) (k x:Nat),Φs[i]?=some Φ→Φ k x→∃ l,l∉used∧Fp s.st β φ l x:=by
    intro used1 b Φ hu hr hrest hb hΦ hdis
    obtain⟨bs,Φs,q1,q2,q3,q4⟩:=ZV h hφ hno xs rs us' used1 h2 hrest hv'
    refine⟨b::bs,Φ::Φs,⟨u,us',b,bs,Φ,Φs,rfl,rfl,rfl,hr,q1⟩,⟨fun i j b0 hi hj=>?_,fun i Ψ k x hi hk=>?_,fun i i' Ψ Ψ' k k' x hi hi' hk hk'=>?_⟩,fun i b0 hi=>?_,fun i Ψ k x hi hk=>?_⟩
    ·have hclash:∀ m b1,b=some b1→bs[m]?=some (some b1)→False:=fun m b1 hb1 hm=>by
      obtain⟨l,ob,p1,p2,p3,p4,p5⟩:=hb b1 hb1
      obtain⟨l2,ob2,k1,k2,k3,k4⟩:=q3 m b1 hm
      have:=h.inj l l2 ob ob2 b1 p1 k1 p2 k2 p3 k3
      subst this
      exact k4 p5
     cases i with
     | zero =>
      cases j with
      | zero=>rfl
      | succ j =>
       simp only[List.getElem?_cons_zero,Option.some.injEq] at hi
       exact(hclash j b0 hi (by simpa using hj)).elim
     | succ i =>
      cases j with
      | zero =>
       simp only[List.getElem?_cons_zero,Option.some.injEq] at hj
       exact(hclash i b0 hj (by simpa using hi)).elim
      | succ j=>have:=q2.nodup i j b0 (by simpa using hi) (by simpa using hj); omega
    ·cases i with
     | zero =>
      simp only[List.getElem?_cons_zero,Option.some.injEq] at hi
      subst hi
      obtain⟨l,p1,p2,p3,p4,p5,p6,p7⟩:=hΦ k x hk
      refine⟨p4.resolve_right (hno _),p5,p6,fun j hj=>?_⟩
      cases j with
      | zero=>simp only[List.getElem?_cons_zero,Option.some.injEq] at hj; exact p7 hj
      | succ j =>
       obtain⟨l2,ob2,k1,k2,k3,k4⟩:=q3 j x (by simpa using hj)
       have:=Fq h hφ p3 ⟨ob2,k1,k2,.inl k3⟩
       subst this
       exact k4 p2
     | succ i =>
      obtain⟨g1,g2,g3,g4⟩:=q2.fresh i Ψ k x (by simpa using hi) hk
      refine⟨g1,g2,g3,fun j hj=>?_⟩
      cases j with
      | zero =>
       simp only[List.getElem?_cons_zero,Option.some.injEq] at hj
       obtain⟨l,ob,p1,p2,p3,p4,p5⟩:=hb x hj
       obtain⟨l2,k1,k2⟩:=q4 i Ψ k x (by simpa using hi) hk
       have:=Fq h hφ ⟨ob,p1,p2,.inl p3⟩ k2
       subst this
       exact k1 p5
      | succ j=>exact g4 j (by simpa using hj)
    ·have hx2:∀ (m:Nat) (Ψ:Nat→Nat→Prop) (k k' x:Nat),Φ k x→Φs[m]?=some Ψ→Ψ k' x→False:=fun m Ψ k k' x hk hm hk'=>by
      obtain⟨l,p1,p2,p3,_⟩:=hΦ k x hk
      obtain⟨l2,k1,k2⟩:=q4 m Ψ k' x hm hk'
      have:=Fq h hφ p3 k2
      subst this
      exact k1 p2
     cases i with
     | zero =>
      simp only[List.getElem?_cons_zero,Option.some.injEq] at hi
      subst hi
      cases i' with
      | zero =>
       simp only[List.getElem?_cons_zero,Option.some.injEq] at hi'
       subst hi'
       exact⟨rfl,hdis k k' x hk hk'⟩
      | succ i'=>exact(hx2 i' Ψ' k k' x hk (by simpa using hi') hk').elim
     | succ i =>
      cases i' with
      | zero =>
       simp only[List.getElem?_cons_zero,Option.some.injEq] at hi'
       subst hi'
       exact(hx2 i Ψ k' k x hk' (by simpa using hi) hk).elim
      | succ i' =>
       have:=q2.dis i i' Ψ Ψ' k k' x (by simpa using hi) (by simpa using hi') hk hk'
       exact⟨by omega,this.2⟩
    ·cases i with
     | zero =>
      simp only[List.getElem?_cons_zero,Option.some.injEq] at hi
      obtain⟨l,ob,p1,p2,p3,p4,_⟩:=hb b0 hi
      exact⟨l,ob,p1,p2,p3,p4⟩
     | succ i =>
      obtain⟨l,ob,p1,p2,p3,p4⟩:=q3 i b0 (by simpa using hi)
      exact⟨l,ob,p1,p2,p3,fun hm=>p4 (hu l hm)⟩
    ·cases i with
     | zero =>
      simp only[List.getElem?_cons_zero,Option.some.injEq] at hi
      subst hi
      obtain⟨l,p1,_,p3,_⟩:=hΦ k x hk
      exact⟨l,p1,p3⟩
     | succ i =>
      obtain⟨l,p1,p2⟩:=q4 i Ψ k x (by simpa using hi) hk
      exact⟨l,fun hm=>p1 (hu l hm),p2⟩
   cases r with
   | val y =>
    obtain⟨u2,hu2,hr⟩:=hv 0 y rfl
    simp only[List.getElem?_cons_zero,Option.some.injEq] at hu2
    subst hu2
    exact cons used none (fun _ _=>False) (fun _ h=>h) ⟨hr,rfl⟩ (by simpa only[Js] using ho) (fun b0 h=>by cases h) (fun _ _ h=>h.elim) (fun _ _ _ h=>h.elim)
   | agg ys =>
    simp only[Js] at ho
    split at ho
    ·rename_i zs
     simp only[AVR] at h1
     obtain⟨vs,rfl,hl,hc⟩:=h1
     obtain⟨used',Φ,r1,r2,r3,r4,r5,r6⟩:=XY h hφ zs ys vs used _ hl hc ho
     refine cons used' none Φ r2 ⟨rfl,vs,rfl,by rw[r3]; exact hl,r4⟩ r1 (fun b0 h=>by cases h) (fun k x hx=>?_) r6
     obtain⟨l,p1,p2,p3,p4⟩:=r5 k x hx
     obtain⟨t1,t2,t3⟩:=O_ h hφ p3 p4
     exact⟨l,p1,p2,p3,t1,t2,t3,by simp⟩
    ·exact ho.elim
   | own ty sz ys wr =>
    simp only[Js] at ho
    split at ho
    ·rename_i l
     split at ho
     ·rename_i ob hob
      obtain⟨rfl,rfl,rfl,hwr,hp,hnu,ho⟩:=ho
      obtain⟨hl,hlive⟩:=BG hob
      simp only[AVR,RdC,Aw,hl] at h1
      have h1':=h1.2 hlive
      cases hβ:β l with
      | none =>
       simp only[hβ] at h1'
       exact cons (l::used) none (fun _ _=>False) (fun l' hl'=>by simp[hl']) h1' ho (fun b0 h=>by cases h) (fun _ _ h=>h.elim) (fun _ _ _ h=>h.elim)
      | some b0 =>
       simp only[hβ] at h1'
       obtain⟨cap,cs,e1,e2,e3,e4,e5⟩:=h1'
       obtain⟨g1,g2,cs',g3,g4,g5⟩:=h.obs l ob b0 hl hlive hβ
       refine cons (l::used) (some b0) (φ l) (fun l' hl'=>by simp[hl']) ⟨g1.resolve_right (hno _),g2,g4,fun o hbo=>?_,cap,cs,e1,e2,e3,e4,e5,TY h hφ hl hlive hβ hp e4⟩ ho (fun b1 h=>by cases h; exact⟨l,ob,hl,hlive,hβ,hnu,by simp⟩) (fun k x hx=>?_) (fun k k' x hx hx'=>(hφ.2.2 l l k k' x hx hx').2)
       ·have:=h.sep l ob b0 o hl hlive hβ hbo
        refine⟨?_,this.2⟩
        cases wr with
        | false=>rfl
        | true=>rw[hwr rfl] at this; exact this.1
       ·have hf:=(hφ.2.1 l k x hx).2
        refine⟨l,hnu,by simp,⟨ob,hl,hlive,.inr ⟨k,hx⟩⟩,hf.1,hf.2.2.1,hf.2.2.2.1,fun e=>?_⟩
        cases e
        exact hf.2.2.2.2 l ob hl hlive hβ
     ·exact ho.elim
    ·obtain⟨rfl,ho⟩:=ho
     obtain⟨hu,_⟩:=Jp h1
     exact cons used none (fun _ _=>False) (fun _ h=>h) ⟨hu,rfl⟩ ho (fun b0 h=>by cases h) (fun _ _ h=>h.elim) (fun _ _ _ h=>h.elim)
    ·exact ho.elim
end owns
def XW (tmps:Array Value):ResultVar→Sem Value
 | .tmp t=>pure (tmps.getD t Go.undef)
 | .cell t T=>do loadVar T (← asAddr (tmps.getD t Go.undef))
theorem OT (fn:Func) (tmps:Array Value):results fn tmps=(do
  let vs ← fn.results.mapM (XW tmps)
  pure (if h:vs.size=1 then vs[0] else .tuple vs)):=by
 unfold results
 congr 1
theorem Lr (h:Core w0 St0 St β s a w):∀ (vars:List ResultVar) (xs:List AV),Nk P s vars=some xs →
  ∃ us,AVRs w St s.st β xs us∧(vars.mapM (XW a.tmps)).run P w = .ok us w
 | [],xs,hr=>by
  simp only[Nk,Option.some.injEq] at hr
  subst hr
  exact⟨[],by simp[AVRs],by simp⟩
 | .tmp t::vars,xs,hr=>by
  simp only[Nk] at hr
  split at hr
  ·rename_i ys hys
   simp only[Option.some.injEq] at hr
   subst hr
   obtain⟨us,h1,h2⟩:=Lr h vars ys hys
   refine⟨a.tmps.getD t Go.undef::us,by simp only[AVRs]; exact⟨_,_,rfl,h.env t,h1⟩, ?_⟩
   simp only[List.mapM_cons,XW,Sem.run_bind,Sem.run_pure,Result.andThen_ok,h2]
  ·cases hr
 | .cell t T::vars,xs,hr=>by
  simp only[Nk] at hr
  split at hr
  ·rename_i x ys hx hys
   simp only[Option.some.injEq] at hr
   subst hr
   obtain⟨us,h1,h2⟩:=Lr h vars ys hys
   obtain ⟨v, g1, g2⟩ := XB (P := P) h { dst := none, op := .load T (.tmp t), type := 0, pos := "", after := #[], guard := none } (by simp [Op.operands, Ap]) hx
   refine⟨v::us,by simp only[AVRs]; exact⟨_,_,rfl,g2,h1⟩, ?_⟩
   have hload:(do loadVar T (← asAddr (a.tmps.getD t Go.undef)):Sem Value).run P w = .ok v w:=by
    simp only[execOp,Act.eval,Instr.loadAt,Sem.run_bind] at g1
    generalize a.tmps.getD t Go.undef=z at g1 ⊢
    cases z with
    | pointer ad =>
     cases ad with
     | none=>simp[Instr.sureAddr] at g1
     | some ad =>
      simp only[Instr.sureAddr,Sem.run_pure,Result.andThen_ok,asAddr] at g1 ⊢
      simp only[Sem.run_bind,Sem.run_pure,Result.andThen_ok]
      generalize (loadVar T ad).run P w=r at g1 ⊢
      cases r with
      | ok v2 w2=>simp only[Result.andThen_ok,Result.ok.injEq,Next.value.injEq] at g1; rw[g1.1,g1.2]
      | halt hh w2=>simp at g1
    | _=>simp[Instr.sureAddr] at g1
   have hload':(XW a.tmps (.cell t T)).run P w = .ok v w:=hload
   simp only[List.mapM_cons,Sem.run_bind,hload',Sem.run_pure,Result.andThen_ok,h2]
  ·cases hr
theorem f_ {w0:World} {fn:Func} {rs:List Res} (hs:Sim ⟨w0,fun _=>False⟩ St0 s a w) (hp:Post P fn.results.toList rs s):∃ us bs St',(results fn a.tmps).run P w = .ok (O8 us) w∧a.defers = []∧Back w0 St0 rs (.returned (O8 us)) w us bs St':=by
 obtain⟨St,β,h⟩:=hs
 unfold Post at hp
 split at hp
 ·rename_i xs hxs
  obtain⟨us,h1,h2⟩:=Lr h fn.results.toList xs hxs
  obtain⟨st',St',r1,r2,r3,r4,r5⟩:=PQ xs rs us s.st St _ h h1 hp
  obtain⟨φ,hφ⟩:=r2.own
  obtain⟨bs,Φs,o1,o2,_⟩:=ZV r2 hφ (fun _ h=>h) xs rs us [] (Tz r4 h1) r1 r5
  refine⟨us,bs,St', ?_,h.defers,⟨rfl,h.below.plain,fun b o hbo=>r3 b o (h.st0 b o hbo),fun b o hbo hlt=>r2.stOld b o hbo hlt (fun h=>h),r2.stIn,Φs,o1,o2⟩⟩
  rw[OT,Sem.run_bind,Array.mapM_eq_mapM_toList,Sem.run_map,h2]
  simp only[Result.andThen_ok,Sem.run_pure]
  congr 1
  match us with
  | []=>rfl
  | [u]=>rfl
  | u::u2::us=>simp[O8]
 ·exact hp.elim
def Iy:List AV→Nat→List (Nat×AV)
 | [],_=>[]
 | x::xs,k=>(k,x)::Iy xs (k+1)
theorem KJ:∀ (xs:List AV) (k i:Nat),CB (Iy xs k) i=if k≤i then xs.getD (i-k) .un else .un
 | [],k,i=>by simp[Iy,CB]
 | x::xs,k,i=>by
  simp only[Iy,CB,KJ xs (k+1) i]
  by_cases e:k=i
  ·subst e; simp
  ·simp only[e,if_false]
   by_cases h:k≤i
   ·have h1:k+1≤i:=by omega
    simp only[h,h1,if_true]
    have:i-k=(i-(k+1))+1:=by omega
    rw[this]
    simp
   ·have h1:¬ k+1≤i:=by omega
    simp[h,h1]
theorem SY {w:World} {St:Nat→Nat→Prop}:∀ {xs:List AV} {us:List Value},RdAs w St xs us→us.length=xs.length∧∀ (j:Nat) (x:AV),xs[j]?=some x→∃ u,us[j]?=some u∧RdA w St x u
 | [],us,h=>by simp only[RdAs] at h; subst h; exact⟨rfl,fun j x hj=>by simp at hj⟩
 | x::xs,us,h=>by
  obtain⟨y,ys,rfl,h1,h2⟩:=h
  obtain⟨q1,q2⟩:=SY h2
  refine⟨by simp[q1],fun j z hj=>?_⟩
  cases j with
  | zero=>simp at hj; subst hj; exact⟨y,rfl,h1⟩
  | succ j=>simpa using q2 j z (by simpa using hj)
def wE (P:Program) (vars:List ResultVar) (rs:List Res) (e:Ex) (s:MS):Prop:=match e with
 | .exit _=>False
 | _=>Post P vars rs s
theorem Ctr.mk {f:FuncId} {fn:Func} {c:Code} {args:List AV} {rs:List Res} (hin:CallsIn P f) (hf:P.funcs[f]?=some fn) (hb:fn.body=some c) (hm:P.follows .mixedOrders=true) {n:Nat} (hn:fn.ntmps=n) {vars:Array ResultVar} (hvars:fn.results=vars) (hc:codeOk n c=true) (hlen0:Nat.ble args.length n=true)
  (h:lI args→vp P c ⟨n,Iy args 0,[]⟩ (wE P vars.toList rs)):Ctr P f args rs:=by
 subst hn
 subst hvars
 have hlen:args.length≤fn.ntmps:=Nat.le_of_ble_eq_true hlen0
 refine⟨hin,fun w St vs hSt hrd=>?_⟩
 obtain⟨hvl,hva⟩:=SY hrd
 refine calls_of_wp hf hb (wp_mono (mF (w0:=⟨w,fun _=>False⟩) (St0:=St) hm fn.ntmps c hc ⟨fn.ntmps,Iy args 0,[]⟩ _ { tmps:=vs.toArray++Array.replicate (fn.ntmps-vs.toArray.size) Go.undef,defers:=[] } w rfl (h hrd.wf) ⟨St,fun _=>none, ?_⟩) ?_)
 ·exact {
   defers:=rfl
   size:=by simp; omega
   env:=fun i=>by
    simp only[KJ,Nat.zero_le,if_true,Nat.sub_zero]
    rcases Nat.lt_or_ge i args.length with hi | hi
    ·obtain⟨u,hu,hr⟩:=hva i args[i] (by simp[hi])
     have e1:args.getD i .un=args[i]:=by simp[hi]
     have e2:(vs.toArray++Array.replicate (fn.ntmps-vs.toArray.size) Go.undef).getD i Go.undef=u:=by
      have hiv:i<vs.length:=by omega
      simp only[Array.getD_eq_getD_getElem?]
      rw[Array.getElem?_append_left (by simpa using hiv)]
      simp[hu]
     rw[e1,e2]
     exact hr.toAVR
    ·have e1:args.getD i .un = .un:=by simp[hi]
     rw[e1]
     simp only[AVR]
   below:=BelowB.refl _ _
   st0:=fun _ _ h=>h
   stOld:=fun _ _ h _ _=>h
   stIn:=hSt
   obs:=fun l ob b hl=>by simp at hl
   nil:=fun l ob hl=>by simp at hl
   inj:=fun l l' ob ob' b hl=>by simp at hl
   sep:=fun l ob b o hl=>by simp at hl
   own:=⟨fun _ _ _=>False,fun l ob b k c hl=>by simp at hl,fun _ _ _ h=>h.elim,fun _ _ _ _ _ h=>h.elim⟩ }
 ·rintro e a' w' ⟨ex,s',rfl,hq,_,hs'⟩
  cases ex with
  | exit i=>exact hq.elim
  | normal =>
   obtain⟨us,bs,St',p1,p2,p3⟩:=f_ hs' hq
   exact⟨p2,_,p1,us,bs,St',p3⟩
  | ret =>
   obtain⟨us,bs,St',p1,p2,p3⟩:=f_ hs' hq
   exact⟨p2,_,p1,us,bs,St',p3⟩
def EndH (P:Program) (vars:List ResultVar) (rs:List Res) (e:Ex) (s:MS):Prop:=match e with
 | .exit _=>False
 | _=>∃ t,Head s t∧Post P vars rs t
theorem Core.tell (h:Core w0 St0 St β s a w) (i:Nat) {x:AV} (hx:AVR w St s.st β x (a.tmps.getD i Go.undef)):Core w0 St0 St β ⟨s.n,(i,x)::s.env,s.st⟩ a w:=
 have he:∀ j,AVR w St s.st β (CB ((i,x)::s.env) j) (a.tmps.getD j Go.undef):=fun j=>by
  simp only[CB]
  by_cases e:i=j
  ·subst e
   simpa using hx
  ·simpa [e] using h.env j
 { h with env:=he }
theorem gB {St':Nat→Nat→Prop}:∀ {xs:List AV} {us:List Value},xs.all jy=true→RdAs w St xs us→RdAs w St' xs us
 | [],us,_,h=>h
 | x::xs,us,hx,h=>by
  simp only[List.all_cons,Bool.and_eq_true] at hx
  obtain⟨y,ys,h1,h2,h3⟩:=h
  refine⟨y,ys,h1, ?_,gB hx.2 h3⟩
  cases x with
  | c c =>
   cases c with
   | v v=>exact h2
   | _=>simp[jy] at hx
  | _=>simp[jy] at hx
theorem mG {g:Bool} {zs:List Cl} {us:List Value} {st:List Ob} (hg:g=true∨zs.length=1) (hg2:g=true∨us.length=1) (h:AVR w St st β (mkA g zs) (mkV g us)) :
  us.length=zs.length∧∀ (k:Nat) (c:Cl),zs[k]?=some c→∃ y,us[k]?=some y∧RdC w St st β c y:=by
 cases g with
 | true =>
  simp only[mkA,if_true,AVR,mkV] at h
  obtain⟨us2,e1,e2,e3⟩:=h
  have:us=us2:=by
   simp only[Value.agg.injEq] at e1
   simpa using congrArg Array.toList e1
  subst this
  exact⟨e2,e3⟩
 | false =>
  have hz:zs.length=1:=by simpa using hg
  have hu:us.length=1:=by simpa using hg2
  match zs,us,hz,hu with
  | [z],[u],_,_ =>
   simp only[mkA,mkV,Bool.false_eq_true,if_false,AVR,List.headD_cons] at h
   refine⟨rfl,fun k c hk=>?_⟩
   cases k with
   | zero=>simp only[List.getElem?_cons_zero,Option.some.injEq] at hk; subst hk; exact⟨u,rfl,h⟩
   | succ k=>simp at hk
theorem wF {g:Bool} {zs:List Cl} {us:List Value} {st:List Ob} (hl:us.length=zs.length) (hg:g=true∨zs.length=1) (h:∀ (k:Nat) (c:Cl),zs[k]?=some c→∃ y,us[k]?=some y∧RdC w St st β c y):AVR w St st β (mkA g zs) (mkV g us):=by
 cases g with
 | true =>
  simp only[mkA,if_true,AVR,mkV]
  exact⟨us,rfl,hl,h⟩
 | false =>
  have hz:zs.length=1:=by simpa using hg
  match zs,us,hz,hl with
  | [z],[u],_,_ =>
   simp only[mkA,mkV,Bool.false_eq_true,if_false,AVR,List.headD_cons]
   obtain⟨y,hy,hr⟩:=h 0 z rfl
   simp only[List.getElem?_cons_zero,Option.some.injEq] at hy
   subst hy
   exact hr
def gG (P:Program) (vars:List ResultVar) (g:Bool) (us:List Value) (Q:List Cl→List AV→Prop) (s:MS):Prop:=
 ∃ zs cl' rs,CB s.env 0 = .pin (mkA g zs) (mkV g us)∧(g=true∨zs.length=1)∧AU s.st zs cl' [] (fun _=>True)∧CO cl'=true∧rs.all jy=true∧Nk P s vars=some rs∧Q cl' rs
def wG (P:Program) (vars:List ResultVar) (g:Bool) (us:List Value) (Q:List Cl→List AV→Prop) (e:Ex) (s:MS):Prop:=match e with
 | .exit _=>False
 | _=>gG P vars g us Q s
theorem ZW {w0:World} {fn:Func} {g:Bool} {us:List Value} {Q:List Cl→List AV→Prop} {G:Nat→Nat→Prop} (hg:g=true∨us.length=1) (hs:Sim ⟨w0,fun x=>∃ k,G k x⟩ St0 s a w) (hp:gG P fn.results.toList g us Q s) :
  ∃ cl' rs rv,Q cl' rs∧(results fn a.tmps).run P w = .ok (O8 rv) w∧a.defers = []∧∃ G',Below 0 w0 w∧(∀ k,k<w0.heap.size→(∀ j,¬ G j k)→w.heap[k]?=w0.heap[k]?)∧(∀ k,k<w0.heap.size→Uy w k=Uy w0 k)∧RdAs w St0 rs rv∧RdL2 w St0 cl' us G'∧∀ k x,G' k x→(∃ j,G j x)∨(w0.heap.size≤x∧x<w.heap.size):=by
 obtain⟨St,β,h⟩:=hs
 obtain⟨zs,cl',rs,e0,hg2,ho,hclo,hrs,hret,hQ⟩:=hp
 have he:=h.env 0
 rw[e0] at he
 simp only[AVR] at he
 obtain⟨he1,he2⟩:=he
 rw[he1] at he2
 obtain⟨hul,hur⟩:=mG hg2 hg he2
 obtain⟨φ,hφ⟩:=h.own
 have hrd:=gQ h hφ ho hul hur
 obtain⟨rv,h1,h2⟩:=Lr h fn.results.toList rs hret
 refine⟨cl',rs,rv,hQ, ?_,h.defers,_,h.below.rest,fun k hk hno=>h.below.blk k hk fun⟨j,hj⟩=>hno j hj,h.below.siz,gB hrs (XJ hrs h1),⟨hrd.len,hrd.dis,fun k c hk=>?_⟩, ?_⟩
 ·rw[OT,Sem.run_bind,Array.mapM_eq_mapM_toList,Sem.run_map,h2]
  simp only[Result.andThen_ok,Sem.run_pure]
  congr 1
  match rv with
  | []=>rfl
  | [u]=>rfl
  | u::u2::us=>simp[O8]
 ·obtain⟨y,hy,hr⟩:=hrd.rd k c hk
  exact⟨y,hy,RdO.clo c y _ (Ld hclo c (List.mem_of_getElem? hk)) hr⟩
 ·rintro k x ⟨l,q1,q2⟩
  obtain⟨_,ob,p1,p2,_⟩:=JY zs cl' [] _ ho k l q1
  obtain⟨r1,r2,r3⟩:=O_ h hφ q2 fun ob' hob'=>by
   obtain⟨p3,_⟩:=BG p1
   rw[p3] at hob'; cases hob'; exact p2
  rcases r1 with r1 | ⟨j,hj⟩
  ·exact .inr ⟨r1,r2⟩
  ·exact .inl ⟨j,hj⟩
theorem MCtr.mk {f:FuncId} {fn:Func} {c:Code} {g:Bool} {cl:List Cl} {args:List AV} {Q:List Cl→List AV→Prop} (hin:CallsIn P f) (hf:P.funcs[f]?=some fn) (hb:fn.body=some c) (hm:P.follows .mixedOrders=true) {n:Nat} (hn:fn.ntmps=n) {vars:Array ResultVar} (hvars:fn.results=vars) (hc:codeOk n c=true) (hlen0:Nat.ble (args.length+1) n=true)
  (hg:g=true∨cl.length=1)
  (h:∀ us:List Value,O4 cl→lI args→vp P c ⟨n,(0,.pin (mkA g (Gh 0 cl)) (mkV g us))::Iy args 1,En cl⟩ (wG P vars.toList g us Q)):MCtr P f g cl args Q:=by
 subst hn
 subst hvars
 have hlen:args.length+1≤fn.ntmps:=Nat.le_of_ble_eq_true hlen0
 refine⟨hin,hg,fun w St us G vs hSt hG hrd hvs=>?_⟩
 obtain⟨hvl,hva⟩:=SY hvs
 have hcore0:Core ⟨w,fun x=>∃ k,G k x⟩ St St (fun _=>none) ⟨fn.ntmps,Iy (.un::args) 0,[]⟩ { tmps:=(mkV g us::vs).toArray++Array.replicate (fn.ntmps-(mkV g us::vs).toArray.size) Go.undef,defers:=[] } w:={
  defers:=rfl
  size:=by simp; omega
  env:=fun i=>by
   simp only[KJ,Nat.zero_le,if_true,Nat.sub_zero]
   cases i with
   | zero=>simp only[List.getD_cons_zero,AVR]
   | succ i =>
    simp only[List.getD_cons_succ]
    rcases Nat.lt_or_ge i args.length with hi | hi
    ·obtain⟨u,hu,hr⟩:=hva i args[i] (by simp[hi])
     have e1:args.getD i .un=args[i]:=by simp[hi]
     have e2:((mkV g us::vs).toArray++Array.replicate (fn.ntmps-(mkV g us::vs).toArray.size) Go.undef).getD (i+1) Go.undef=u:=by
      have hiv:i<vs.length:=by omega
      simp only[Array.getD_eq_getD_getElem?]
      rw[Array.getElem?_append_left (by simpa using hiv)]
      simp[hu]
     rw[e1,e2]
     exact hr.toAVR
    ·have e1:args.getD i .un = .un:=by simp[hi]
     rw[e1]
     simp only[AVR]
  below:=BelowB.refl _ _
  st0:=fun _ _ h=>h
  stOld:=fun _ _ h _ _=>h
  stIn:=hSt
  obs:=fun l ob b hl=>by simp at hl
  nil:=fun l ob hl=>by simp at hl
  inj:=fun l l' ob ob' b hl=>by simp at hl
  sep:=fun l ob b o hl=>by simp at hl
  own:=⟨fun _ _ _=>False,fun l ob b k c hl=>by simp at hl,fun _ _ _ h=>h.elim,fun _ _ _ _ _ h=>h.elim⟩ }
 have hN:Own ⟨w,fun x=>∃ k,G k x⟩ (fun x=>∃ k,G k x) w St [] (fun _=>none):=⟨fun _ _ _=>False,fun l ob b k c hl=>by simp at hl,fun _ _ _ h=>h.elim,fun _ _ _ _ _ h=>h.elim⟩
 obtain⟨β',q1,q2,q3,q4,q5,q6⟩:=O9 (s:=⟨fn.ntmps,Iy (.un::args) 0,[]⟩) cl us G [] (fun _=>none) _ hcore0 hN hrd.len hrd.rd (fun k x hx=>⟨⟨k,hx⟩,.inr ⟨k,hx⟩,(hG k x hx).1,(hG k x hx).2,fun l o2 hl=>by simp at hl⟩) hrd.dis
 simp only[List.nil_append,List.length_nil] at q1 q3 q4
 have hgu:g=true∨us.length=1:=by rw[hrd.len]; exact hg
 have hval:=wF (g:=g) (by rw[q4]; exact hrd.len) (by rw[q4]; exact hg) q3
 have hcore1:=q1.tell 0 (x:=.pin (mkA g (Gh 0 cl)) (mkV g us)) (by
  have:((mkV g us::vs).toArray++Array.replicate (fn.ntmps-(mkV g us::vs).toArray.size) Go.undef).getD 0 Go.undef=mkV g us:=by
   simp only[Array.getD_eq_getD_getElem?]
   rw[Array.getElem?_append_left (by simp)]
   simp
  simp only[AVR]
  rw[this]
  exact⟨by first | trivial | rfl,hval⟩)
 have hcore2:=hcore1.congr (s':=⟨fn.ntmps,(0,.pin (mkA g (Gh 0 cl)) (mkV g us))::Iy args 1,En cl⟩) rfl rfl (fun t=>by
  simp only[CB,Iy]
  by_cases e:0=t
  ·simp[e]
  ·simp[e])
 have hwf:O4 cl:=QM cl fun k c hk=>by
  obtain⟨y,_,hr⟩:=hrd.rd k c hk
  exact RdO.wf c y _ hr
 refine calls_of_wp hf hb (wp_mono (mF (w0:=⟨w,fun x=>∃ k,G k x⟩) (St0:=St) hm fn.ntmps c hc _ _ _ w rfl (h us hwf hvs.wf) ⟨St,β',hcore2⟩) ?_)
 rintro e a' w' ⟨ex,s',rfl,hq,_,hs'⟩
 cases ex with
 | exit i=>exact hq.elim
 | normal =>
  obtain⟨cl',rs,rv,p0,p1,p2,G',p3⟩:=ZW hgu hs' hq
  exact⟨p2,_,p1,cl',rs,rv,G',p0,rfl,p3⟩
 | ret =>
  obtain⟨cl',rs,rv,p0,p1,p2,G',p3⟩:=ZW hgu hs' hq
  exact⟨p2,_,p1,cl',rs,rv,G',p0,rfl,p3⟩
def gI (P:Program) (vars:List ResultVar) (b:Nat) (ty:TypeId) (cl':List Cl) (rs:List AV) (s:MS):Prop:=
 ∃ (l:Nat) (ob:Ob) (zs:List Cl) (xs:List AV) (st1 st2:List Ob),CB s.env 0 = .pin (.lp l 0 0) (.pointer (some ⟨b,0,none⟩))∧Cc s.st l=some ob∧ob.ty=ty∧ob.wr=true∧ob.xs = [zs]∧jw s.st zs=some (cl',st1) ∧
  Nk P s vars=some xs∧O5 st1 xs=some (rs,st2)∧Cc st2 l=some ob
def wH (P:Program) (vars:List ResultVar) (b:Nat) (ty:TypeId) (cl':List Cl) (rs:List AV) (e:Ex) (s:MS):Prop:=match e with
 | .exit _=>False
 | _=>gI P vars b ty cl' rs s
theorem ZX {w0:World} {fn:Func} {b:Nat} {ty:TypeId} {cl':List Cl} {rs:List AV} (hlt:b<w0.heap.size) (hs:Sim ⟨w0,fun x=>x=b⟩ St0 s a w) (hp:gI P fn.results.toList b ty cl' rs s) :
  ∃ rv cs' St',(results fn a.tmps).run P w = .ok (O8 rv) w∧a.defers = []∧Below 0 w0 w∧(∀ k,k<w0.heap.size→k≠b→w.heap[k]?=w0.heap[k]?)∧(∀ b o,St0 b o→St' b o)∧(∀ b o,St' b o→b<w0.heap.size→St0 b o) ∧
   (∀ b o,St' b o→b<w.heap.size)∧w.heap[b]?=some (.cells cs' ty (0,0))∧(∀ k,k<w0.heap.size→Uy w k=Uy w0 k)∧(∀ (k:Nat) (c:Cl),cl'[k]?=some c→∃ y,cs'[k]?=some y∧RdD w St' c y)∧RdAs w St' rs rv:=by
 obtain⟨St,β,h⟩:=hs
 obtain⟨l,ob,zs,xs,st1,st2,e0,hob,hty,hwr,hxs,hfz,hret,hfs,hob2⟩:=hp
 have he:=h.env 0
 rw[e0] at he
 obtain⟨hl,hlive⟩:=BG hob
 simp only[AVR,hl] at he
 obtain⟨he1,he2⟩:=he
 try rw[he1] at he2
 obtain⟨b',hβ,hu⟩:=he2 hlive
 have hb':b'=b:=by
  simp only[Value.pointer.injEq,Option.some.injEq,Addr.mk.injEq] at hu
  have:=hu
  omega
 subst hb'
 obtain⟨rv,h1,h2⟩:=Lr h fn.results.toList xs hret
 obtain⟨St1,q1,q2,q3,q4,q5⟩:=XF zs s.st cl' st1 St h hfz
 have h1':=AVRs.mono q2 (fun _ _ _=>rfl) q3 (KD fun l ob hl=>SS hfz hl) xs rv h1
 obtain⟨St2,r1,r2,r3⟩:=O6 xs rs st1 st2 St1 q1 hfs
 obtain⟨_,_,cs,g1,g2,g3⟩:=h.obs l ob b' hl hlive hβ
 obtain⟨hl2,hlive2⟩:=BG hob2
 have hno:∀ o,¬ St2 b' o:=fun o ho=>by
  have:=(r1.sep l ob b' o hl2 hlive2 hβ ho).1
  rw[hwr] at this; cases this
 refine⟨rv,cs,St2, ?_,h.defers,h.below.rest,fun k hk hne=>h.below.blk k hk hne,fun b o hbo=>r2 b o (q2 b o (h.st0 b o hbo)),fun b o hbo hlt=>r1.stOld b o hbo hlt (fun e=>hno o (by have e:b=b':=e; rw[← e]; exact hbo)),r1.stIn,by rw[← hty]; exact g1,h.below.siz,fun k c hk=>?_,r3 rv h1'⟩
 ·rw[OT,Sem.run_bind,Array.mapM_eq_mapM_toList,Sem.run_map,h2]
  simp only[Result.andThen_ok,Sem.run_pure]
  congr 1
  match rv with
  | []=>rfl
  | [u]=>rfl
  | u::u2::us=>simp[O8]
 ·obtain⟨d,hd1,hd2⟩:=q5 k c hk
  obtain⟨y,hy,hr⟩:=g3 k d (by rw[hxs]; simpa using hd1)
  exact⟨y,hy,RdD.mono r2 (fun _ _ _=>rfl) _ _ (hd2 y hr)⟩
theorem PCtr.mk {f:FuncId} {fn:Func} {c:Code} {ty:TypeId} {cl cl':List Cl} {args rs:List AV} (hin:CallsIn P f) (hf:P.funcs[f]?=some fn) (hb:fn.body=some c) (hm:P.follows .mixedOrders=true) {n:Nat} (hn:fn.ntmps=n) {vars:Array ResultVar} (hvars:fn.results=vars) (hc:codeOk n c=true) (hlen0:Nat.ble (args.length+1) n=true)
  (hlen':cl'.length=cl.length)
  (h:∀ b:Nat,O4 cl→lI args→vp P c ⟨n,(0,.pin (.lp 0 0 0) (.pointer (some ⟨b,0,none⟩)))::Iy args 1,[⟨ty,cl.length,[cl],true,true⟩]⟩ (wH P vars.toList b ty cl' rs)):PCtr P f ty cl args cl' rs:=by
 subst hn
 subst hvars
 have hlen:args.length+1≤fn.ntmps:=Nat.le_of_ble_eq_true hlen0
 refine⟨hin,hlen',fun w St b cs vs hSt hcs hno hcl hvs=>?_⟩
 obtain⟨hvl,hva⟩:=SY hvs
 have hbl:b<w.heap.size:=by
  rcases Nat.lt_or_ge b w.heap.size with h' | h'
  ·exact h'
  ·rw[Array.getElem?_eq_none h'] at hcs; cases hcs
 have hwf:O4 cl:=QM cl fun k c hk=>by
  obtain⟨y,_,hr⟩:=hcl k c hk
  exact RdD.wf c y hr
 have hst0:∀ (l:Nat) (ob:Ob),[(⟨ty,cl.length,[cl],true,true⟩:Ob)][l]?=some ob→l=0∧ob=⟨ty,cl.length,[cl],true,true⟩:=fun l ob hl=>by
  cases l with
  | zero=>simp only[List.getElem?_cons_zero,Option.some.injEq] at hl; exact⟨rfl,hl.symm⟩
  | succ l=>simp at hl
 have hcore:Core ⟨w,fun x=>x=b⟩ St St (fun l=>if l=0 then some b else none) ⟨fn.ntmps,(0,.pin (.lp 0 0 0) (.pointer (some ⟨b,0,none⟩)))::Iy args 1,[⟨ty,cl.length,[cl],true,true⟩]⟩
   { tmps:=(Value.pointer (some ⟨b,0,none⟩)::vs).toArray++Array.replicate (fn.ntmps-(Value.pointer (some ⟨b,0,none⟩)::vs).toArray.size) Go.undef,defers:=[] } w:={
  defers:=rfl
  size:=by simp; omega
  env:=fun i=>by
   cases i with
   | zero =>
    have:((Value.pointer (some ⟨b,0,none⟩)::vs).toArray++Array.replicate (fn.ntmps-(Value.pointer (some ⟨b,0,none⟩)::vs).toArray.size) Go.undef).getD 0 Go.undef=Value.pointer (some ⟨b,0,none⟩):=by
     simp only[Array.getD_eq_getD_getElem?]
     rw[Array.getElem?_append_left (by simp)]
     simp
    rw[this]
    simp only[CB,if_true,AVR,List.getElem?_cons_zero]
    exact⟨by first | trivial | rfl,fun _=>⟨b,by simp,by simp⟩⟩
   | succ i =>
    have e0:CB ((0,AV.pin (.lp 0 0 0) (.pointer (some ⟨b,0,none⟩)))::Iy args 1) (i+1)=args.getD i .un:=by
     simp only[CB,KJ]
     have h1:¬ 0=i+1:=by omega
     have h2:1≤i+1:=by omega
     simp only[h1,h2,if_false,if_true,Nat.add_sub_cancel]
    rw[e0]
    rcases Nat.lt_or_ge i args.length with hi | hi
    ·obtain⟨u,hu,hr⟩:=hva i args[i] (by simp[hi])
     have e1:args.getD i .un=args[i]:=by simp[hi]
     have e2:((Value.pointer (some ⟨b,0,none⟩)::vs).toArray++Array.replicate (fn.ntmps-(Value.pointer (some ⟨b,0,none⟩)::vs).toArray.size) Go.undef).getD (i+1) Go.undef=u:=by
      have hiv:i<vs.length:=by omega
      simp only[Array.getD_eq_getD_getElem?]
      rw[Array.getElem?_append_left (by simpa using hiv)]
      simp[hu]
     rw[e1,e2]
     exact hr.toAVR
    ·have e1:args.getD i .un = .un:=by simp[hi]
     rw[e1]
     simp only[AVR]
  below:=BelowB.refl _ _
  st0:=fun _ _ h=>h
  stOld:=fun _ _ h _ _=>h
  stIn:=hSt
  obs:=fun l ob b2 hl hlive hβ=>by
   obtain⟨rfl,rfl⟩:=hst0 l ob hl
   simp only[if_true,Option.some.injEq] at hβ
   subst hβ
   refine⟨.inr rfl,hbl,cs,hcs,by simp,fun k c hk=>?_⟩
   simp only[List.flatten_cons,List.flatten_nil,List.append_nil] at hk
   obtain⟨y,hy,hr⟩:=hcl k c hk
   exact⟨y,hy,hr.toC.toB⟩
  nil:=fun l ob hl hlive hβ=>by
   obtain⟨rfl,rfl⟩:=hst0 l ob hl
   simp at hβ
  inj:=fun l l' ob ob' b2 hl hl' _ _ _ _=>by
   obtain⟨rfl,_⟩:=hst0 l ob hl
   obtain⟨rfl,_⟩:=hst0 l' ob' hl'
   rfl
  sep:=fun l ob b2 o hl hlive hβ hbo=>by
   obtain⟨rfl,rfl⟩:=hst0 l ob hl
   simp only[if_true,Option.some.injEq] at hβ
   subst hβ
   exact absurd hbo (hno o)
  own:=by
   refine⟨fun _ _ _=>False,fun l ob b2 k c hl hlive hβ hk hcw=>?_,fun _ _ _ h=>h.elim,fun _ _ _ _ _ h=>h.elim⟩
   obtain⟨rfl,rfl⟩:=hst0 l ob hl
   simp only[List.flatten_cons,List.flatten_nil,List.append_nil] at hk
   obtain⟨y,_,hr⟩:=hcl k c hk
   rw[(hr.toC (st:=[]) (β:=fun _=>none)).notOw] at hcw
   cases hcw }
 refine calls_of_wp hf hb (wp_mono (mF (w0:=⟨w,fun x=>x=b⟩) (St0:=St) hm fn.ntmps c hc _ _ _ w rfl (h b hwf hvs.wf) ⟨St,_,hcore⟩) ?_)
 rintro e a' w' ⟨ex,s',rfl,hq,_,hs'⟩
 cases ex with
 | exit i=>exact hq.elim
 | normal =>
  obtain⟨rv,cs',St',p1,p2,p3⟩:=ZX hbl hs' hq
  exact⟨p2,_,p1,rv,cs',St',rfl,p3⟩
 | ret =>
  obtain⟨rv,cs',St',p1,p2,p3⟩:=ZX hbl hs' hq
  exact⟨p2,_,p1,rv,cs',St',rfl,p3⟩
end Go.Vm
/- The value machine,part V: the set of rules for a walk. -/
namespace Go.Vm
set_option linter.unusedSimpArgs false
set_option linter.unusedVariables false
open Go.RowKit
def pU (P:Program) (y:Code) (Q:Ex→MS→Prop):Ex→MS→Prop:=ACx (vp P y) Q
def cndC (P:Program) (x y:Code) (s:MS) (Q:Ex→MS→Prop) (b:Bool):Prop:=cndM (vp P x) (vp P y) s Q b
def AC1 (P:Program) (x:Code) (Q:Ex→MS→Prop) (s:MS) (K:MS→Prop):Prop:=ACy (vp P x) Q s K
section
variable {P:Program} {s:MS} {Q:Ex→MS→Prop} {x y:Code} {K:MS→Prop}
@[go_sem] theorem AFH {σ:List Nat} {e1 e2:Nat} {l:List Oper}:FK σ e1 e2 l=XQ σ e1 e2 l σ:=rfl
@[go_sem] theorem AC2 {σ:List Nat} {e1 e2:Nat} {l:List Oper}:XQ σ e1 e2 l [] = []:=rfl
@[go_sem] theorem AAN {σ:List Nat} {e1 e2 i:Nat} {l:List Oper} {is:List Nat}:XQ σ e1 e2 l (i::is)=fP σ e1 e2 i l[i]? (XQ σ e1 e2 l is):=rfl
@[go_sem] theorem wI {σ:List Nat} {e1 e2 i:Nat} {d:Option Nat} {o:Op} {ty:TypeId} {ps:String} {af:Array Edge} {g:Option (Nat×Bool)} {r:List Oper} :
  fP σ e1 e2 i (some ⟨d,o,ty,ps,af,g⟩) r=⟨d,o,ty,ps,(ZP σ (lW e1 e2 i af.toList)).toArray,rnG σ g⟩::r:=rfl
@[go_sem] theorem AC3 {σ:List Nat}:ZP σ [] = []:=rfl
@[go_sem] theorem AAO {σ:List Nat} {i:Nat} {g:Ground} {es:List Edge}:ZP σ (⟨i,g⟩::es)=⟨H9 σ i,g⟩::ZP σ es:=rfl
@[go_sem] theorem AC4 {σ:List Nat}:rnG σ none=none:=rfl
@[go_sem] theorem AC5 {σ:List Nat} {j:Nat} {b:Bool}:rnG σ (some (j,b))=some (H9 σ j,b):=rfl
@[go_sem] theorem AC6 {i:Nat}:H9 [] i=0:=rfl
@[go_sem] theorem AAP {x i:Nat} {xs:List Nat}:H9 (x::xs) i=if x=i then 0 else H9 xs i+1:=by
 simp only[H9]
 cases h:Nat.beq x i with
 | true=>rw[if_pos (Nat.eq_of_beq_eq_true h)]
 | false=>rw[if_neg (Nat.ne_of_beq_eq_false h)]
@[go_sem] theorem AFI {e1 e2 i:Nat} {l:List Edge}:lW e1 e2 i l=if i=e2 then⟨e1,.data⟩::l else l:=by
 simp only[lW]
 cases h:Nat.beq i e2 with
 | true=>rw[if_pos (Nat.eq_of_beq_eq_true h)]
 | false=>rw[if_neg (Nat.ne_of_beq_eq_false h)]
@[go_sem] theorem AFJ:vp P .skip s Q=Q .normal s:=rfl
@[go_sem] theorem AGG {id:Nat} {ops:Array Oper}:vp P (.region id ops false) s Q=vpR P ops (Q .normal) s:=rfl
@[go_sem] theorem AFK {id:Nat} {ops:Array Oper}:vp P (.region id ops true) s Q=DrawK P ops s (Q .normal):=rfl
@[go_sem] theorem AGH:vp P (.seq x y) s Q=vp P x s (pU P y Q):=rfl
@[go_sem] theorem AFL {c:Operand}:vp P (.cond c x y) s Q=fO (Dp s c) (cndC P x y s Q):=rfl
@[go_sem] theorem AC7 {id:Nat}:vp P (.block id x) s Q=vp P x s (jR id Q):=rfl
@[go_sem] theorem AFM:vp P (.loop x) s Q=LoopK s (AC1 P x Q):=rfl
@[go_sem] theorem AFN {id:Nat}:vp P (.exit id) s Q=Q (.exit id) s:=rfl
@[go_sem] theorem AC8:vp P (.scope x) s Q=vp P x s Q:=rfl
@[go_sem] theorem AGI:vp P .ret s Q=Q .ret s:=rfl
@[go_sem] theorem rO:pU P y Q .normal s=vp P y s Q:=rfl
@[go_sem] theorem AAQ {i:Nat}:pU P y Q (.exit i) s=Q (.exit i) s:=rfl
@[go_sem] theorem AC9:pU P y Q .ret s=Q .ret s:=rfl
@[go_sem] theorem AAR:cndC P x y s Q true=vp P x s Q:=jS
@[go_sem] theorem wJ:cndC P x y s Q false=vp P y s Q:=dD
theorem cndC.mk {b:Bool} (h1:b=true→vp P x s Q) (h2:b=false→vp P y s Q):cndC P x y s Q b:=cndM.mk h1 h2
@[go_sem] theorem rP {id:Nat}:jR id Q .normal s=Q .normal s:=rfl
@[go_sem] theorem AAS {id i:Nat}:jR id Q (.exit i) s=if i=id then Q .normal s else Q (.exit i) s:=rfl
@[go_sem] theorem AC_ {id:Nat}:jR id Q .ret s=Q .ret s:=rfl
@[go_sem] theorem AFO:AC1 P x Q s K=vp P x s (lw K Q):=rfl
@[go_sem] theorem rQ:lw K Q .normal s=K s:=rfl
@[go_sem] theorem AAT {i:Nat}:lw K Q (.exit i) s=Q (.exit i) s:=rfl
@[go_sem] theorem ADA:lw K Q .ret s=Q .ret s:=rfl
@[go_sem] theorem AFP {ops:Array Oper}:rJ P ops K [] s=K s:=rfl
@[go_sem] theorem ADB {ops:Array Oper} {o:Oper} {rest:List Oper}:rJ P ops K (o::rest) s=Na (XO ops s.env o.guard) (gO P o (rJ P ops K rest) s):=rfl
@[go_sem] theorem AFQ {ops:Array Oper}:lU P ops K [] s=K s:=rfl
@[go_sem] theorem ADC {ops:Array Oper} {o:Oper} {rest:List Oper}:lU P ops K (o::rest) s=Na (XO ops s.env o.guard) (gD P o (lU P ops K rest) s):=rfl
@[go_sem] theorem AFR {d:Option Nat} {v:AV} {st':List Ob}:lY s d K v st'=K (MS.put ⟨s.n,s.env,st'⟩ d v):=rfl
@[go_sem] theorem ADE {d:Option Nat} {v:AV}:ZM s d K v=K (s.put d v):=rfl
@[go_sem] theorem AFS {d:Option Nat} {st1:List Ob} {rs:List Res}:o9 s d K st1 rs=K (MS.put ⟨s.n,s.env,(Gn st1 rs).2⟩ d (retA (Gn st1 rs).1)):=rfl
@[go_sem] theorem AAU {f:FuncId} {d:Option Nat} {args:List AV} {st1:List Ob}:dC P f s d K args st1=CallK P f args (o9 s d K st1):=rfl
@[go_sem] theorem rU {vars:List ResultVar} {rs:List Res}:wE P vars rs .normal s=Post P vars rs s:=rfl
theorem EndH.mk {vars:List ResultVar} {rs:List Res} {t:MS} (h:Head s t) (hp:Post P vars rs t):EndH P vars rs .ret s:=⟨t,h,hp⟩
@[go_sem] theorem ADF {vars:List ResultVar} {rs:List Res}:wE P vars rs .ret s=Post P vars rs s:=rfl
theorem CallK.mk {f:FuncId} {args:List AV} {K:List Res→Prop} {B:Prop} (rs:List Res) (h:Ctr P f args rs) (hk:ZF rs→K rs):U5 (CallK P f args K) B:=.inl ⟨rs,h,hk⟩
theorem BorK.mk {f:FuncId} {x:Option (List AV)} {K:List Res→Prop} {A B:Prop} {args:List AV} (rs:List Res) (hx:x=some args) (hc:rs.all K_=true) (h:Ctr P f args rs) (hk:ZF rs→K rs):U5 A (U5 (BorK P f s x K) B):=.inr (.inl ⟨args,rs,hx,hc,h,hk⟩)
theorem MutK.mk {f:FuncId} {A B C:Prop} {args rest:List AV} {d:Option Nat} {zs cl:List Cl} {M:List Cl→List AV→Prop} (g:Bool) (h:MCtr P f g cl rest M) (hx:args=mkA g zs::rest) (ho:AU s.st zs cl [] (fun _=>True)) (h1:rest.all jy=true)
  (hg:g=true∨zs.length=1) (hk:∀ cl' rs,M cl' rs→(rs.all jy=true∧Ry cl cl')∧K (MS.put ⟨s.n,s.env,GK s.st zs cl'⟩ d (retA rs))):U5 A (U5 B (U5 (MutK P f s args d K) C)):=.inr (.inr (.inl ⟨rest,g,zs,cl,M,hx,hg,ho,h1,h,hk⟩))
theorem PtrK.mk {f:FuncId} {A B C:Prop} {args rest rest' rs:List AV} {d:Option Nat} {l:Nat} {ob:Ob} {zs cl cl':List Cl} {st1 st2:List Ob} (h:PCtr P f ob.ty cl rest' cl' rs) (hx:args = .lp l 0 0::rest) (hob:Cc s.st l=some ob) (hwr:ob.wr=true) (hxs:ob.xs = [zs])
  (hf:jw s.st zs=some (cl,st1)) (hfs:O5 st1 rest=some (rest',st2)) (hob2:Cc st2 l=some ob) (hk:K (MS.put ⟨s.n,s.env,st2.set l ⟨ob.ty,ob.sz,[cl'],true,true⟩⟩ d (retA rs))):U5 A (U5 B (U5 C (PtrK P f s args d K))):=
 .inr (.inr (.inr ⟨l,rest,rest',ob,zs,cl,cl',st1,st2,rs,hx,hob,hwr,hxs,hf,hfs,hob2,h,hk⟩))
@[go_sem] theorem AFT {x:Option (Nat×Nat)} {ops:Array Oper} {i:Nat} {H:List (Nat×List Ob)} {pd:List PE}:kC P x ops K [] i H pd s=K s:=rfl
@[go_sem] theorem ADG {x:Option (Nat×Nat)} {ops:Array Oper} {o:Oper} {rest:List Oper} {i:Nat} {H:List (Nat×List Ob)} {pd:List PE}:kC P x ops K (o::rest) i H pd s=Na (XO ops s.env o.guard) (gE P x o s H pd i (kC P x ops K rest (i+1))):=rfl
section
variable {x:Option (Nat×Nat)} {o:Oper} {H:List (Nat×List Ob)} {pd:List PE} {i:Nat} {V:List (Nat×List Ob)→List PE→MS→Prop}
@[go_sem] theorem AFU:gE P x o s H pd i V true=lq P x o s H pd i V (RN o.op):=G_
@[go_sem] theorem ADH:gE P x o s H pd i V false=V H pd (s.put o.dst .undef):=Gi
@[go_sem] theorem wK:lq P x o s H pd i V false=DrK P s o.op (rdP P o s H pd i V):=Gi
@[go_sem] theorem AAV:lq P x o s H pd i V true=CondK (QT x i o H) (lm P s o.op (pM P o s H pd i V)) False:=G_
@[go_sem] theorem AFV {y:AV} {st':List Ob}:pM P o s H pd i V y st'=(QS P s.n o st' pd∧V ((i+1,st')::H) (OO o pd) (MS.put ⟨s.n,s.env,st'⟩ o.dst y)):=rfl
@[go_sem] theorem AGJ {r:AV}:rdP P o s H pd i V r=(QR P s.n s.env o r H H∧V H (⟨i,o.op,s.env,r⟩::pd) (s.put o.dst r)):=rfl
end
@[go_sem] theorem AFW {KK:AV→List Ob→Prop} {st1:List Ob} {rs:List Res}:pK KK st1 rs=KK (retA (Gn st1 rs).1) (Gn st1 rs).2:=rfl
@[go_sem] theorem AAW {f:FuncId} {KK:AV→List Ob→Prop} {args:List AV} {st1:List Ob}:lh P f KK args st1=CallE P f args (pK KK st1):=rfl
theorem CallE.mk {f:FuncId} {args:List AV} {KK:List Res→Prop} {B:Prop} (rs:List Res) (h:Ctr P f args rs) (hk:KK rs):U5 (CallE P f args KK) B:=.inl ⟨rs,h,hk⟩
theorem BorE.mk {f:FuncId} {x:Option (List AV)} {KK:List Res→Prop} {A:Prop} {args:List AV} (rs:List Res) (hx:x=some args) (hc:rs.all K_=true) (h:Ctr P f args rs) (hk:KK rs):U5 A (BorE P f x KK):=.inr ⟨args,rs,hx,hc,h,hk⟩
theorem DrK.call {o:Op} {c:Call} {f:FuncId} {K:AV→Prop} (ho:o = .call c) (hc:c.callee = .value (.func f)) {args:List AV} {rs:List Res} (hf:O5 s.st (c.args.toList.map (Dp s))=some (args,s.st)) (h:Ctr P f args rs) (hk:K (retA (NP rs))):DrK P s o K:=by
 subst ho
 refine⟨_, ?_,hk⟩
 simp only[BM,hc]
 exact⟨args,rs,.inl hf,h,rfl⟩
end
theorem DrK.op {P:Program} {s:MS} {o:Op} {K:AV→Prop} {r:AV} (h:BM P s o r) (hk:K r):DrK P s o K:=⟨r,h,hk⟩
attribute [go_sem] Iy XO o6 lT o_ lZ Nc Rw same FY Dp QJ CB MS.put ku TU KC ZC H6 OL OJ bu bi lN bz ACw List.any_cons List.any_nil VZ FZ O3 cellsA Cc Je rF NW rE Y8 jw vz O5 RJ OG Aa GV
@[go_sem] theorem wL {n:Nat}:Region.binds .any ⟨n,.data⟩=true:=rfl
@[go_sem] theorem rV {n:Nat}:Region.binds .any ⟨n,.chain⟩=true:=rfl
@[go_sem] theorem rW {n:Nat}:Region.binds .any ⟨n,.guard⟩=true:=rfl
@[go_sem] theorem rX {n:Nat}:Region.binds .any ⟨n,.phase⟩=true:=rfl
@[go_sem] theorem ADI {b:Bool}:CondK b True True=True:=by cases b<;>simp[CondK]
@[go_sem] theorem rY {i:Nat} {o:Oper} {H:List (Nat×List Ob)}:QT none i o H=chainB o H:=rfl
@[go_sem] theorem rZ {i j p:Nat} {o:Oper} {H:List (Nat×List Ob)}:QT (some (j,p)) i o H=if i=j then XT p H else chainB o H:=rfl
attribute [go_sem] BA QQ QR QS OO chainB XT RN lm BM List.any_toArray List.any_cons List.any_nil Bool.or_false Bool.false_or G_ Gi Option.some.injEq and_self
attribute [go_sem] pF cO cZ cu dA
attribute [go_sem] Gn NP retA Nk Post Lp Js AU En Gh gK GY unpin XK jK oW NY GK Gh LZ Jd P9 oI vY vZ aUn
attribute [go_sem] Option.bind_some Option.map_some List.nil_append List.cons_append List.length_cons List.length_nil List.getElem?_cons_zero List.getElem?_cons_succ List.getElem?_nil List.drop_zero List.drop_succ_cons List.take_succ_cons List.take_zero List.map_cons List.map_nil List.set_cons_zero List.set_cons_succ List.modify_cons List.toList_toArray List.append_nil List.drop_nil List.take_nil
attribute [go_sem] Nat.zero_add Nat.add_zero Nat.le_refl and_self true_and and_true eq_self if_true if_false decide_true decide_false Bool.false_eq_true ne_eq not_false_eq_true not_true_eq_false Int.toNat_natCast
attribute [go_sem] Bool.not_true Bool.not_false Bool.true_and Bool.false_and Bool.and_true Bool.and_false Bool.true_or Bool.false_or Bool.or_true Bool.or_false
@[go_sem] theorem AFX {x:Value}:G8 (.c (.v x))=true:=rfl
@[go_sem] theorem ADJ {xs:List (List Cl)}:G8 (.c (.sl xs))=true:=rfl
@[go_sem] theorem AAX {l:Nat}:G8 (.c (.ref l))=true:=rfl
@[go_sem] theorem AAY:G8 (.agg [])=true:=rfl
@[go_sem] theorem ADK {x:Value} {r:List Cl}:G8 (.agg (.v x::r))=G8 (.agg r):=rfl
@[go_sem] theorem AAZ {xs:List (List Cl)} {r:List Cl}:G8 (.agg (.sl xs::r))=G8 (.agg r):=rfl
@[go_sem] theorem wM {l:Nat} {r:List Cl}:G8 (.agg (.ref l::r))=G8 (.agg r):=rfl
@[go_sem] theorem rf {n:Nat}:KE n []=true:=rfl
@[go_sem] theorem pV {n:Nat} {r:List Cl} {ys:List (List Cl)}:KE n (r::ys)=(rowOk n r&&KE n ys):=rfl
@[go_sem] theorem ADL {n:Nat} {r:List Cl}:rowOk n r=(r.length==n&&r.all fun c=>!Ei c):=rfl
@[go_sem] theorem AGK {x:Value}:Ei (.v x)=false:=rfl
@[go_sem] theorem AFY {x:List (List Cl)}:Ei (.sl x)=false:=rfl
@[go_sem] theorem ADM {l:Nat}:Ei (.ref l)=false:=rfl
@[go_sem] theorem ADN {ty sz:Nat} {xs:List (List Cl)}:G8 (.c (.ow ty sz xs))=false:=rfl
@[go_sem] theorem AGL {cl:List Cl}:mkA true cl = .agg cl:=rfl
@[go_sem] theorem AGM {c:Cl} {r:List Cl}:mkA false (c::r) = .c c:=rfl
@[go_sem] theorem rq {P:Program} {vars:List ResultVar} {b:Nat} {ty:TypeId} {cl':List Cl} {rs:List AV} {s:MS}:wH P vars b ty cl' rs .normal s=gI P vars b ty cl' rs s:=rfl
@[go_sem] theorem ADO {P:Program} {vars:List ResultVar} {b:Nat} {ty:TypeId} {cl':List Cl} {rs:List AV} {s:MS}:wH P vars b ty cl' rs .ret s=gI P vars b ty cl' rs s:=rfl
@[go_sem] theorem ru {P:Program} {vars:List ResultVar} {g:Bool} {us:List Value} {M:List Cl→List AV→Prop} {s:MS}:wG P vars g us M .normal s=gG P vars g us M s:=rfl
@[go_sem] theorem ADP {P:Program} {vars:List ResultVar} {g:Bool} {us:List Value} {M:List Cl→List AV→Prop} {s:MS}:wG P vars g us M .ret s=gG P vars g us M s:=rfl
@[go_sem] theorem AGN:(true==true)=true:=rfl
@[go_sem] theorem AGO:(true==false)=false:=rfl
@[go_sem] theorem AGP:(false==true)=false:=rfl
@[go_sem] theorem AGQ:(false==false)=true:=rfl
theorem mJ (b:Bool):(b==true)=b:=by cases b<;>rfl
theorem jW (b:Bool):(b==false) = !b:=by cases b<;>rfl
attribute [go_sem] mJ jW
@[go_sem] theorem ADQ (k:IntKind) (n:Nat):NM (.c (.v (.int k (n:Int))))=some n:=by simp[NM]
@[go_sem] theorem AAa (k:IntKind):NM (.c (.v (.int k 0)))=some 0:=by simp[NM]
@[go_sem] theorem ADR (k:IntKind):NM (.c (.v (.int k 1)))=some 1:=by simp[NM]
theorem wrap_i64 {n:Int} (h : -9223372036854775808≤n) (h2:n≤9223372036854775807):IntKind.i64.wrap n=n:=
 G9 (by simp[Lit.wf,IntKind.min,IntKind.max,IntKind.signed,IntKind.bits]; omega)
theorem AA {α β:Type} (f:α→β) {l:List α} {k:Nat} (h:k<l.length):(l.map f)[k]?=some (f l[k]):=by simp[h]
theorem dG {c:Cl} (h:AC c=true):er c=c:=by cases c<;>simp_all [AC,er]
theorem Ls:∀ {cs:List Cl},BX cs=true→IK cs=cs
 | [],_=>rfl
 | c::cs,h=>by
  simp only[BX,List.all_cons,Bool.and_eq_true] at h
  rw[IK,dG h.1,Ls (cs:=cs) h.2]
theorem Fe:∀ {xs:List (List Cl)},E5 xs=true→Kz xs=xs
 | [],_=>rfl
 | x::xs,h=>by
  simp only[E5,List.all_cons,Bool.and_eq_true] at h
  rw[Kz,Ls h.1,Fe (xs:=xs) h.2]
theorem BZ {xs:List (List Cl)} (h:E5 xs=true):CY xs=true:=
 List.all_eq_true.2 fun x hx=>List.all_eq_true.2 fun c hc=>by
  have:=List.all_eq_true.1 (List.all_eq_true.1 h x hx) c hc
  cases c<;>simp_all [AC,Jq]
theorem GM {α:Type} {f:α→List Cl} {l:List α} (h:∀ x,(f x).all Jq=true):CY (l.map f)=true:=by
 unfold CY
 rw[List.all_map]
 exact List.all_eq_true.2 fun x _=>h x
theorem Ctr.val {P:Program} {f:FuncId} {args:List AV} {ty sz:Nat} {xs:List (List Cl)} {wr:Bool} (h:Ctr P f args [.own ty sz xs wr]) (hp:E5 xs=true):Ctr P f args [.val (.c (.sl xs))]:=by
 have:=h.frz
 simp only[List.map_cons,List.map_nil,Rt,Fe hp] at this
 exact this
theorem Ctr.valO {P:Program} {f:FuncId} {args:List AV} {ty sz:Nat} {xs ys:List (List Cl)} {wr:Bool} (h:Ctr P f args [.own ty sz xs wr]) (he:Kz xs=ys):Ctr P f args [.val (.c (.sl ys))]:=by
 subst he
 exact h.frz
theorem Ctr.aggVal {P:Program} {f:FuncId} {args:List AV} {cl ys:List Cl} (h:Ctr P f args [.agg cl]) (he:IK cl=ys):Ctr P f args [.val (.agg ys)]:=by
 subst he
 exact h.frz
theorem Jt {α:Type} {f g:α→List Cl} (h:∀ x,IK (f x)=g x) (l:List α):Kz (l.map f)=l.map g:=by
 rw[XI]
 exact List.map_congr_left fun x _=>h x
theorem ZY {xs:List (List Cl)} {sz:Nat} (hl:∀ x∈xs,x.length=sz):∀ {k:Nat} {c:Cl},xs.flatten[k]?=some c→∃ (i j:Nat) (x:List Cl),xs[i]?=some x∧x[j]?=some c∧k=i*sz+j∧j<sz:=by
 induction xs with
 | nil=>intro k c h; simp at h
 | cons x xs ih =>
  intro k c h
  have hx:x.length=sz:=hl x (by simp)
  simp only[List.flatten_cons] at h
  rcases Nat.lt_or_ge k x.length with h' | h'
  ·rw[List.getElem?_append_left h'] at h
   exact⟨0,k,x,by simp,h,by omega,by omega⟩
  ·rw[List.getElem?_append_right h'] at h
   obtain⟨i,j,y,q1,q2,q3,q4⟩:=ih (fun y hy=>hl y (by simp[hy])) h
   exact⟨i+1,j,y,by simpa using q1,q2,by rw[Nat.add_mul]; omega,q4⟩
theorem wO {i i' j j' sz:Nat} (hj:j<sz) (hj':j'<sz) (h:i*sz+j=i'*sz+j'):i=i'∧j=j':=by
 have h1:(i*sz+j)/sz=i:=by rw[Nat.mul_comm,Nat.mul_add_div (by omega),Nat.div_eq_of_lt hj]; rfl
 have h2:(i'*sz+j')/sz=i':=by rw[Nat.mul_comm,Nat.mul_add_div (by omega),Nat.div_eq_of_lt hj']; rfl
 have:i=i':=by rw[← h1,h,h2]
 subst this
 exact⟨rfl,by omega⟩
section avgen
variable {w:World} {St:Nat→Nat→Prop} {st st':List Ob} {β β':Nat→Option Nat}
mutual
theorem XX (N:Nat) (hC:∀ (c:Cl) (u:Value),EW N c=true→RdC w St st β c u→RdC w St st' β' c u) (hL:∀ (l i off:Nat) (u:Value),l<N→AVR w St st β (.lp l i off) u→AVR w St st' β' (.lp l i off) u) :
  ∀ (x:AV) (u:Value),Fb N x=true→AVR w St st β x u→AVR w St st' β' x u
 | .c x,u,hc,h=>by simp only[AVR] at h ⊢; exact hC x u (by simpa [Fb] using hc) h
 | .agg xs,u,hc,h=>by
  simp only[AVR] at h ⊢
  simp only[Fb] at hc
  obtain⟨us,h1,h2,h3⟩:=h
  refine⟨us,h1,h2,fun k c hk=>?_⟩
  obtain⟨y,hy,hr⟩:=h3 k c hk
  exact⟨y,hy,hC c y (List.all_eq_true.1 hc c (List.mem_of_getElem? hk)) hr⟩
 | .lp l i off,u,hc,h=>hL l i off u (by simpa [Fb] using hc) h
 | .ip xs,u,_,h=>by simp only[AVR] at h ⊢; exact h
 | .tup xs,u,hc,h=>by
  simp only[AVR] at h ⊢
  obtain⟨us,h1,h2⟩:=h
  exact⟨us,h1,ZZ N hC hL xs us (by simpa [Fb] using hc) h2⟩
 | .undef,u,_,h=>by simp only[AVR] at h ⊢; exact h
 | .un,u,_,h=>by simp only[AVR]
 | .pin x u0,u,hc,h=>by
  simp only[AVR] at h ⊢
  exact⟨h.1,XX N hC hL x u (by simpa [Fb] using hc) h.2⟩
theorem ZZ (N:Nat) (hC:∀ (c:Cl) (u:Value),EW N c=true→RdC w St st β c u→RdC w St st' β' c u) (hL:∀ (l i off:Nat) (u:Value),l<N→AVR w St st β (.lp l i off) u→AVR w St st' β' (.lp l i off) u) :
  ∀ (xs:List AV) (us:List Value),MZ N xs=true→AVRs w St st β xs us→AVRs w St st' β' xs us
 | [],us,_,h=>by simp only[AVRs] at h ⊢; exact h
 | x::xs,us,hc,h=>by
  simp only[AVRs] at h ⊢
  simp only[MZ,Bool.and_eq_true] at hc
  obtain⟨y,ys,h1,h2,h3⟩:=h
  exact⟨y,ys,h1,XX N hC hL x y hc.1 h2,ZZ N hC hL xs ys hc.2 h3⟩
end
end avgen
section absorb
variable {w0:Bs} {St0 St:Nat→Nat→Prop} {β:Nat→Option Nat} {s:MS} {a:Act} {w:World}
def BN (N l0 i:Nat) (R:List (List Cl)) (row':List Cl) (ob:Ob) (st:List Ob):List Ob:=(st.take N).set l0 ⟨ob.ty,ob.sz,R.set i row',ob.wr,ob.live⟩
theorem Core.absTrim (h:Core w0 St0 St β s a w) {N l0 i:Nat} {keys:List Nat} {ob:Ob} {R:List (List Cl)} {row row':List Cl} (hl0:l0<N) (hob:Cc s.st l0=some ob) (hxs:ob.xs=R.set i row) (hi:i<R.length) (hwr:ob.wr=true)
  (ho:AU s.st row row' [l0] fun used=>∀ l∈used,l=l0∨N≤l) (henv:(keys.all fun k=>Fb N (CB s.env k))=true) (hst:(BN N l0 i R row' ob s.st).all (Bh N)=true) :
  Core w0 St0 St β ⟨s.n,keys.map fun k=>(k,CB s.env k),BN N l0 i R row' ob s.st⟩ a w:=by
 obtain⟨hl,hlive⟩:=BG hob
 obtain⟨φ,hφ⟩:=h.own
 have hlN:l0<(s.st.take N).length:=by
  have:=(List.getElem?_eq_some_iff.1 hl).1
  rw[List.length_take]; omega
 have hget:∀ (l:Nat) (o2:Ob),(BN N l0 i R row' ob s.st)[l]?=some o2→l<N∧((l=l0∧o2=⟨ob.ty,ob.sz,R.set i row',ob.wr,ob.live⟩)∨(l≠l0∧s.st[l]?=some o2)):=by
  intro l o2 h2
  unfold BN at h2
  rw[List.getElem?_set] at h2
  by_cases e:l0=l
  ·subst e
   simp only[hlN,if_true,Option.some.injEq] at h2
   exact⟨hl0,.inl ⟨rfl,h2.symm⟩⟩
  ·simp only[e,if_false] at h2
   rw[List.getElem?_take] at h2
   split at h2
   ·rename_i hlt; exact⟨hlt,.inr ⟨fun e2=>e e2.symm,h2⟩⟩
   ·cases h2
 have hmk:∀ (l:Nat) (o2:Ob),l<N→s.st[l]?=some o2→∃ o3,(BN N l0 i R row' ob s.st)[l]?=some o3∧o3.live=o2.live∧o3.sz=o2.sz∧o3.ty=o2.ty∧o3.xs.length=o2.xs.length∧(o2.xs = []→o3.xs = []):=by
  intro l o2 hlt h2
  unfold BN
  rw[List.getElem?_set]
  by_cases e:l0=l
  ·subst e
   rw[hl] at h2
   cases h2
   refine⟨⟨ob.ty,ob.sz,R.set i row',ob.wr,ob.live⟩,by simp only[hlN,if_true],rfl,rfl,rfl,by simp[hxs],fun he=>?_⟩
   rw[hxs] at he
   have:R.length=0:=by simpa using congrArg List.length he
   omega
  ·exact⟨o2,by simp only[e,if_false]; rw[List.getElem?_take,if_pos hlt]; exact h2,rfl,rfl,rfl,rfl,fun h=>h⟩
 have hr:∀ (l:Nat) (u:Value),l<N→Aw w s.st β l u→Aw w (BN N l0 i R row' ob s.st) β l u:=by
  intro l u hlt hu
  unfold Aw at hu ⊢
  cases hq:s.st[l]? with
  | none=>simp[hq] at hu
  | some o2 =>
   obtain⟨o3,p1,p2,p3,p4,p5,p6⟩:=hmk l o2 hlt hq
   simp only[hq] at hu
   simp only[p1]
   refine⟨hu.1,fun hlv=>?_⟩
   have h2:=hu.2 (by rw[← p2]; exact hlv)
   cases hβ:β l with
   | none=>simp only[hβ] at h2 ⊢; exact⟨h2.1,p6 h2.2⟩
   | some b=>simp only[hβ] at h2 ⊢; simpa only[p3,p4,p5] using h2
 have hC:∀ (c:Cl) (u:Value),EW N c=true→RdC w St s.st β c u→RdC w St (BN N l0 i R row' ob s.st) β c u:=by
  intro c u hc hu
  cases c with
  | ref l=>exact hr l u (by simpa [EW] using hc) hu
  | v x=>exact hu
  | sl x=>exact hu
  | ow ty sz x=>simp[RdC,RdD] at hu
 have hBB:∀ (c:Cl) (u:Value),EW N c=true→RdB w St s.st β c u→RdB w St (BN N l0 i R row' ob s.st) β c u:=by
  intro c u hc hu
  cases c with
  | ow ty sz x=>exact hu
  | v x=>exact hC (.v x) u hc hu
  | sl x=>exact hC (.sl x) u hc hu
  | ref l=>exact hC (.ref l) u hc hu
 have hA:=XX (w:=w) (St:=St) (st:=s.st) (st':=BN N l0 i R row' ob s.st) (β:=β) (β':=β) N hC (fun l i off u hlt hu=>by
  simp only[AVR] at hu ⊢
  cases hq:s.st[l]? with
  | none=>simp[hq] at hu
  | some o2 =>
   obtain⟨o3,p1,p2,p3,_⟩:=hmk l o2 hlt hq
   simp only[hq] at hu
   simp only[p1,p2,p3]
   exact hu)
 have hnr:∀ (l:Nat) (o2:Ob),(BN N l0 i R row' ob s.st)[l]?=some o2→∀ (k:Nat) (c:Cl),o2.xs.flatten[k]?=some c→EW N c=true:=by
  intro l o2 h2 k c hk
  have hno:=List.all_eq_true.1 hst o2 (List.mem_of_getElem? h2)
  obtain⟨x,hx,hcx⟩:=List.mem_flatten.1 (List.mem_of_getElem? hk)
  simp only[Bh,Bool.or_eq_true] at hno
  rcases hno with hno | hno
  ·have:=List.all_eq_true.1 (List.all_eq_true.1 hno x hx) c hcx
   cases c<;>simp_all [AC,EW]
  ·exact List.all_eq_true.1 (List.all_eq_true.1 hno x hx) c hcx
 have hrow:(R.set i row)[i]?=some row:=by rw[List.getElem?_set]; simp[hi]
 have hrow':(R.set i row')[i]?=some row':=by rw[List.getElem?_set]; simp[hi]
 have hβcases:∀ b,β l0=some b→∃ (cs:Array Value),w.heap[b]?=some (.cells cs ob.ty (0,0))∧row.length=ob.sz∧row'.length=ob.sz∧(∀ x∈R.set i row',x.length=ob.sz) ∧
   ∃ (used:List Nat) (Φ:Nat→Nat→Prop),(∀ l∈used,l=l0∨N≤l)∧(∀ (j:Nat) (c:Cl),row'[j]?=some c→∃ y,cs[i*ob.sz+j]?=some y∧RdO w St c y (Φ j))∧(∀ k x,Φ k x→∃ l,l≠l0∧l∈used∧Fp s.st β φ l x∧∀ o2,s.st[l]?=some o2→o2.wr=true) ∧
    (∀ k k' x,Φ k x→Φ k' x→k=k')∧∀ (k:Nat) (c:Cl),(R.set i row').flatten[k]?=some c→(∃ j,j<ob.sz∧k=i*ob.sz+j∧row'[j]?=some c)∨((∀ j,j<ob.sz→k≠i*ob.sz+j)∧ob.xs.flatten[k]?=some c):=by
  intro b hb
  obtain⟨_,_,cs,g1,g2,g3⟩:=h.obs l0 ob b hl hlive hb
  have hrl:row.length=ob.sz:=g2 row (by rw[hxs]; exact List.mem_of_getElem? hrow)
  have hcr:∀ (j:Nat) (c:Cl),row[j]?=some c→∃ y,cs[i*ob.sz+j]?=some y∧RdB w St s.st β c y:=fun j c hj=>g3 _ c (Es g2 i j row c (by rw[hxs]; exact hrow) hj)
  have hvs:∃ vs:List Value,vs.length=row.length∧∀ (j:Nat),j<row.length→vs[j]?=cs[i*ob.sz+j]?:=by
   refine⟨(List.range row.length).map fun j=>(cs[i*ob.sz+j]?).getD Go.undef,by simp,fun j hj=>?_⟩
   obtain⟨y,hy,_⟩:=hcr j _ (List.getElem?_eq_getElem hj)
   simp[hj,hy]
  obtain⟨vs,hv1,hv2⟩:=hvs
  have hnow:∀ (j:Nat) (c:Cl),row[j]?=some c→Ei c=false:=by
   have gen:∀ (xs ys:List Cl) (us:List Nat) (K:List Nat→Prop),AU s.st xs ys us K→∀ (j:Nat) (c:Cl),xs[j]?=some c→Ei c=false:=by
    intro xs
    induction xs with
    | nil=>intro ys us K _ j c hj; simp at hj
    | cons x xs ih =>
     intro ys us K ho j c hj
     cases ys with
     | nil=>simp[AU] at ho
     | cons y ys =>
      have pl:x=y∧AC y=true∧AU s.st xs ys us K→Ei c=false:=by
       rintro⟨rfl,hp,hrest⟩
       cases j with
       | zero=>simp only[List.getElem?_cons_zero,Option.some.injEq] at hj; subst hj; exact JR hp
       | succ j=>exact ih ys us K hrest j c (by simpa using hj)
      cases y with
      | v z=>exact pl (by simpa only[AU] using ho)
      | sl z=>exact pl (by simpa only[AU] using ho)
      | ref z=>exact pl (by simpa only[AU] using ho)
      | ow ty sz zs =>
       simp only[AU] at ho
       split at ho
       ·rename_i l
        split at ho
        ·cases j with
         | zero=>simp only[List.getElem?_cons_zero,Option.some.injEq] at hj; subst hj; rfl
         | succ j=>exact ih ys _ K ho.2.2.2.2.2.2 j c (by simpa using hj)
        ·exact ho.elim
       ·cases j with
        | zero=>simp only[List.getElem?_cons_zero,Option.some.injEq] at hj; subst hj; rfl
        | succ j=>exact ih ys us K ho.2 j c (by simpa using hj)
       ·exact ho.elim
   exact gen row row' [l0] _ ho
  obtain⟨used,Φ,r1,r2,r3,r4,r5,r6⟩:=XY h hφ row row' vs [l0] _ hv1 (fun j c hj=>by
   obtain⟨y,hy,hr⟩:=hcr j c hj
   exact⟨y,by rw[hv2 j (List.getElem?_eq_some_iff.1 hj).1]; exact hy,hr.toC (hnow j c hj)⟩) ho
  have hset:∀ x∈R.set i row',x.length=ob.sz:=fun x hx=>by
   rcases List.mem_or_eq_of_mem_set hx with h' | h'
   ·obtain⟨m,hm,rfl⟩:=List.mem_iff_getElem.1 h'
    by_cases e:m=i
    ·subst e
     have:(R.set m row')[m]?=some row':=hrow'
     obtain⟨m2,hm2,he2⟩:=List.mem_iff_getElem.1 hx
     by_cases e2:m2=m
     ·subst e2
      rw[List.getElem_set] at he2
      simp at he2
      rw[← he2,r3,hrl]
     ·rw[List.getElem_set] at he2
      have e3:¬ m=m2:=fun h=>e2 h.symm
      simp only[e3,if_false] at he2
      rw[← he2]
      refine g2 _ ?_
      rw[hxs]
      refine List.mem_iff_getElem.2 ⟨m2,by simpa using hm2, ?_⟩
      rw[List.getElem_set]
      simp[e3]
    ·refine g2 _ ?_
     rw[hxs]
     refine List.mem_iff_getElem.2 ⟨m,by simpa using hm, ?_⟩
     rw[List.getElem_set]
     have e3:¬ i=m:=fun h=>e h.symm
     simp[e3]
   ·rw[h',r3,hrl]
  refine⟨cs,g1,hrl,by rw[r3,hrl],hset,used,Φ,r1,fun j c hj=>?_,fun k x hx=>?_,r6,fun k c hk=>?_⟩
  ·obtain⟨y,hy,hr⟩:=r4 j c hj
   have hjl:j<row.length:=by rw[← r3]; exact(List.getElem?_eq_some_iff.1 hj).1
   exact⟨y,by rw[← hv2 j hjl]; exact hy,hr⟩
  ·obtain⟨l,q1,q2,q3,q4⟩:=r5 k x hx
   exact⟨l,fun e=>q1 (by simp[e]),q2,q3,q4⟩
  ·obtain⟨i',j,x,q1,q2,q3,q4⟩:=ZY hset hk
   by_cases e:i'=i
   ·subst e
    rw[hrow'] at q1
    cases q1
    exact .inl ⟨j,q4,q3,q2⟩
   ·refine .inr ⟨fun j' hj' e2=>e (wO q4 hj' (q3▸e2)).1, ?_⟩
    subst q3
    refine Es g2 i' j x c ?_ q2
    rw[hxs,List.getElem?_set]
    rw[List.getElem?_set] at q1
    have e3:¬ i=i':=fun h=>e h.symm
    simp only[e3,if_false] at q1 ⊢
    exact q1
 exact {
  defers:=h.defers
  size:=h.size
  env:=fun k=>by
   simp only[ZT]
   split
   ·rename_i hk; exact hA _ _ (List.all_eq_true.1 henv k hk) (h.env k)
   ·simp only[AVR]
  below:=h.below,st0:=h.st0,stOld:=h.stOld,stIn:=h.stIn
  obs:=fun l o2 b h2 hlv hβ=>by
   obtain⟨hlt,⟨rfl,rfl⟩ | ⟨hne,h3⟩⟩:=hget l o2 h2
   ·obtain⟨q1,q2,_⟩:=h.obs l ob b hl hlive hβ
    obtain⟨cs,g1,g2,g3,g4,used,Φ,r1,r2,r3,r4,r5⟩:=hβcases b hβ
    refine⟨q1,q2,cs,g1,g4,fun k c hk=>?_⟩
    rcases r5 k c hk with ⟨j,hj,rfl,hc⟩ | ⟨_,hc⟩
    ·obtain⟨y,hy,hr⟩:=r2 j c hc
     exact⟨y,hy,hr.toB⟩
    ·obtain⟨_,_,cs',p1,p2,p3⟩:=h.obs l ob b hl hlive hβ
     rw[g1] at p1
     cases p1
     obtain⟨u,hu,hr⟩:=p3 k c hc
     exact⟨u,hu,hBB c u (hnr l _ h2 k c hk) hr⟩
   ·obtain⟨q1,q2,cs,g1,g2,g3⟩:=h.obs l o2 b h3 hlv hβ
    refine⟨q1,q2,cs,g1,g2,fun k c hk=>?_⟩
    obtain⟨u,hu,hr⟩:=g3 k c hk
    exact⟨u,hu,hBB c u (hnr l o2 h2 k c hk) hr⟩
  nil:=fun l o2 h2 hlv hβ=>by
   obtain⟨hlt,⟨rfl,rfl⟩ | ⟨hne,h3⟩⟩:=hget l o2 h2
   ·have:=h.nil l ob hl hlive hβ
    rw[hxs] at this
    have:R.length=0:=by simpa using congrArg List.length this
    omega
   ·exact h.nil l o2 h3 hlv hβ
  inj:=fun l l' o1 o2 b h1 h2 h3 h4 h5 h6=>by
   have key:∀ (l:Nat) (o1:Ob),(BN N l0 i R row' ob s.st)[l]?=some o1→o1.live=true→∃ o,s.st[l]?=some o∧o.live=true:=by
    intro l o1 h1 h3
    obtain⟨_,⟨rfl,rfl⟩ | ⟨_,q⟩⟩:=hget l o1 h1
    ·exact⟨ob,hl,hlive⟩
    ·exact⟨o1,q,h3⟩
   obtain⟨p1,q1,r1⟩:=key l o1 h1 h3
   obtain⟨p2,q2,r2⟩:=key l' o2 h2 h4
   exact h.inj l l' p1 p2 b q1 q2 r1 r2 h5 h6
  sep:=fun l o2 b o h2 hlv hβ hbo=>by
   obtain⟨hlt,⟨rfl,rfl⟩ | ⟨hne,h3⟩⟩:=hget l o2 h2
   ·have:=h.sep l ob b o hl hlive hβ hbo
    rw[hwr] at this
    cases this.1
   ·exact h.sep l o2 b o h3 hlv hβ hbo
  own:=by
   cases hβ0:β l0 with
   | none =>
    refine h.own.move id (fun x hx=>⟨⟨hx.1,hx.2.1,hx.2.2.1,hx.2.2.2.1,fun l o2 h2 hlv=>?_⟩,rfl⟩) (fun _ _ h=>h) (fun _ _ _=>rfl) (fun l o2 b k c h2 hlv hβ hk hc=>?_) (fun _ _ _ _ _ _ _ _ e=>e)
    ·obtain⟨_,⟨rfl,rfl⟩ | ⟨_,q⟩⟩:=hget l o2 h2
     ·rw[hβ0]; simp
     ·exact hx.2.2.2.2 l o2 q hlv
    ·obtain⟨_,⟨rfl,rfl⟩ | ⟨_,q⟩⟩:=hget l o2 h2
     ·rw[hβ0] at hβ; cases hβ
     ·exact⟨o2,b,q,hlv,hβ,hk,rfl⟩
   | some b0 =>
    obtain⟨cs,g1,g2,g3,g4,used,Φ,r1,r2,r3,r4,r5⟩:=hβcases b0 hβ0
    have hΦN:∀ k x,Φ k x→∃ l,N≤l∧Fp s.st β φ l x∧∀ o2,s.st[l]?=some o2→o2.wr=true:=fun k x hx=>by
     obtain⟨l,q1,q2,q3,q4⟩:=r3 k x hx
     rcases r1 l q2 with e | e
     ·exact absurd e q1
     ·exact⟨l,e,q3,q4⟩
    refine⟨fun l k x=>(l=l0∧∃ j,j<ob.sz∧k=i*ob.sz+j∧Φ j x)∨(l<N∧(l=l0→∀ j,j<ob.sz→k≠i*ob.sz+j)∧φ l k x), ?_, ?_, ?_⟩
    ·intro l o2 b k c h2 hlv hβ hk hc
     obtain⟨hlt,⟨rfl,rfl⟩ | ⟨hne,h3⟩⟩:=hget l o2 h2
     ·rw[hβ0] at hβ
      cases hβ
      rcases r5 k c hk with ⟨j,hj,rfl,hcj⟩ | ⟨hnj,hck⟩
      ·obtain⟨y,hy,hr⟩:=r2 j c hcj
       exact⟨y,by simp[World.cell?,g1,hy],RdO.mono (fun _ _ h=>h) (fun _ _ _=>rfl) c y _ _ (fun x hx=>.inl ⟨rfl,j,hj,rfl,hx⟩) (fun _ _=>rfl) hr⟩
      ·obtain⟨u,hu,hr⟩:=hφ.1 l ob b0 k c hl hlive hβ0 hck hc
       exact⟨u,hu,RdO.mono (fun _ _ h=>h) (fun _ _ _=>rfl) c u _ _ (fun x hx=>.inr ⟨hlt,fun _=>hnj,hx⟩) (fun _ _=>rfl) hr⟩
     ·obtain⟨u,hu,hr⟩:=hφ.1 l o2 b k c h3 hlv hβ hk hc
      exact⟨u,hu,RdO.mono (fun _ _ h=>h) (fun _ _ _=>rfl) c u _ _ (fun x hx=>.inr ⟨hlt,fun e=>absurd e hne,hx⟩) (fun _ _=>rfl) hr⟩
    ·rintro l k x (⟨rfl,j,hj,rfl,hx⟩ | ⟨hlt,hnj,hx⟩)
     ·obtain⟨l2,q1,q2,q3⟩:=hΦN j x hx
      obtain⟨t1,t2,t3⟩:=O_ h hφ q2 q3
      obtain⟨o3,p1,p2,_⟩:=hmk l ob hl0 hl
      refine⟨⟨o3,b0,p1,by rw[p2]; exact hlive,hβ0⟩,t1,fun h=>h,t2,t3,fun l' o2 h2 hlv hb=>?_⟩
      obtain⟨hlt',hcase⟩:=hget l' o2 h2
      have:Fp s.st β φ l' x:=by
       rcases hcase with ⟨rfl,rfl⟩ | ⟨_,q⟩
       ·exact⟨ob,hl,hlive,.inl hb⟩
       ·exact⟨o2,q,hlv,.inl hb⟩
      have:=Fq h hφ q2 this
      omega
     ·obtain⟨⟨o2,b,p1,p2,p3⟩,q1,q2,q3,q4,q5⟩:=hφ.2.1 l k x hx
      obtain⟨o3,s1,s2,_⟩:=hmk l o2 hlt p1
      refine⟨⟨o3,b,s1,by rw[s2]; exact p2,p3⟩,q1,q2,q3,q4,fun l' o4 h4 hlv=>?_⟩
      obtain⟨_,⟨rfl,rfl⟩ | ⟨_,q⟩⟩:=hget l' o4 h4
      ·exact q5 l' ob hl hlive
      ·exact q5 l' o4 q hlv
    ·rintro l l' k k' x (⟨rfl,j,hj,rfl,hx⟩ | ⟨hlt,hnj,hx⟩) (⟨rfl,j',hj',rfl,hx'⟩ | ⟨hlt',hnj',hx'⟩)
     ·rw[r4 j j' x hx hx']; exact⟨rfl,rfl⟩
     ·obtain⟨l2,q1,q2,_⟩:=hΦN j x hx
      obtain⟨⟨o2,b,p1,p2,p3⟩,_⟩:=hφ.2.1 l' k' x hx'
      have:=Fq h hφ q2 ⟨o2,p1,p2,.inr ⟨k',hx'⟩⟩
      omega
     ·obtain⟨l2,q1,q2,_⟩:=hΦN j' x hx'
      obtain⟨⟨o2,b,p1,p2,p3⟩,_⟩:=hφ.2.1 l k x hx
      have:=Fq h hφ q2 ⟨o2,p1,p2,.inr ⟨k,hx⟩⟩
      omega
     ·exact hφ.2.2 l l' k k' x hx hx' }
end absorb
def jX (N l0:Nat) (keys:List Nat) (s t:MS):Prop:=∃ (i:Nat) (R:List (List Cl)) (row row':List Cl) (ob:Ob),(l0<N∧Cc s.st l0=some ob∧ob.xs=R.set i row∧i<R.length∧ob.wr=true)∧AU s.st row row' [l0] (fun used=>∀ l∈used,l=l0∨N≤l) ∧
 ((keys.all fun k=>Fb N (CB s.env k))=true∧(BN N l0 i R row' ob s.st).all (Bh N)=true)∧(⟨s.n,keys.map fun k=>(k,CB s.env k),BN N l0 i R row' ob s.st⟩:MS)=t
theorem LoopA.mk {s:MS} {body:MS→(MS→Prop)→Prop} (N l0:Nat) (keys:List Nat) {A:Type} (f:A→MS) (p:A→Prop) (μ:A→Nat) (x0:A) (h0:KI N keys s∧trim N keys s=f x0∧p x0)
  (h:∀ x,p x→body (f x) fun s'=>∃ y,True∧((KI N keys s'∧trim N keys s'=f y)∨jX N l0 keys s' (f y))∧p y∧μ y<μ x):LoopK s body:=
 ⟨fun _=>True,fun s t=>(KI N keys s∧trim N keys s=t)∨jX N l0 keys s t,A,f,p,μ,fun s t _ h=>by
  rcases h with ⟨h1,h2⟩ | ⟨i,R,row,row',ob,⟨g1,g2,g3,g4,g5⟩,g6,⟨g7,g8⟩,g9⟩
  ·exact⟨by rw[← h2]; rfl,fun w0 St0 St β a w hc=>⟨St,β,by rw[← h2]; exact hc.trim h1⟩⟩
  ·exact⟨by rw[← g9],fun w0 St0 St β a w hc=>⟨St,β,by rw[← g9]; exact hc.absTrim g1 g2 g3 g4 g5 g6 g7 g8⟩⟩,⟨x0,trivial,.inl ⟨h0.1,h0.2.1⟩,h0.2.2⟩,h⟩
theorem LoopK.mk {s:MS} {body:MS→(MS→Prop)→Prop} (N:Nat) (keys:List Nat) {A:Type} (f:A→MS) (p:A→Prop) (μ:A→Nat) (x0:A) (h0:KI N keys s∧trim N keys s=f x0∧p x0)
  (h:∀ x,p x→body (f x) fun s'=>∃ y,KI N keys s'∧trim N keys s'=f y∧p y∧μ y<μ x):LoopK s body:=
 ⟨KI N keys,fun s t=>trim N keys s=t,A,f,p,μ,fun s t h1 h2=>⟨by rw[← h2]; rfl,fun w0 St0 St β a w h=>⟨St,β,by rw[← h2]; exact h.trim h1⟩⟩,⟨x0,h0⟩,h⟩
theorem LoopR.mk {s:MS} {body:MS→(MS→Prop)→Prop} (keys:List Nat) {A:Type} (f:A→MS) (p:A→Prop) (μ:A→Nat) (x0:A) (sel0:List (Nat×Bool)) (h0:Nh sel0 keys s∧rel sel0 keys s=f x0) (hp:p x0)
  (h:∀ x,p x→body (f x) fun s'=>∃ y,True∧(∃ sel,Nh sel keys s'∧rel sel keys s'=f y)∧p y∧μ y<μ x):LoopK s body:=
 ⟨fun _=>True,fun s t=>∃ sel,Nh sel keys s∧rel sel keys s=t,A,f,p,μ,fun s t _ ⟨sel,h1,h2⟩=>⟨by rw[← h2]; rfl,fun w0 St0 St β a w h=>⟨St,PO sel β,by rw[← h2]; exact h.rel h1⟩⟩,⟨x0,trivial,⟨sel0,h0⟩,hp⟩,h⟩
theorem LoopB.mk {s:MS} {body:MS→(MS→Prop)→Prop} (N l0:Nat) (keys:List Nat) {A:Type} (f:A→MS) (p:A→Prop) (μ:A→Nat) (x0:A) (sel0:List (Nat×Bool)) (h0:Nh sel0 keys s∧rel sel0 keys s=f x0) (hp:p x0)
  (h:∀ x,p x→body (f x) fun s'=>∃ y,True∧(∃ sel,Nh sel keys s'∧(rel sel keys s'=f y∨jX N l0 keys (rel sel keys s') (f y)))∧p y∧μ y<μ x):LoopK s body:=
 ⟨fun _=>True,fun s t=>∃ sel,Nh sel keys s∧(rel sel keys s=t∨jX N l0 keys (rel sel keys s) t),A,f,p,μ,fun s t _ ⟨sel,h1,h2⟩=>by
  rcases h2 with h2 | ⟨i,R,row,row',ob,⟨g1,g2,g3,g4,g5⟩,g6,⟨g7,g8⟩,g9⟩
  ·exact⟨by rw[← h2]; rfl,fun w0 St0 St β a w h=>⟨St,PO sel β,by rw[← h2]; exact h.rel h1⟩⟩
  ·exact⟨by rw[← g9]; rfl,fun w0 St0 St β a w hc=>⟨St,PO sel β,by rw[← g9]; exact(hc.rel h1).absTrim g1 g2 g3 g4 g5 g6 g7 g8⟩⟩,⟨x0,trivial,⟨sel0,h0.1,.inl h0.2⟩,hp⟩,h⟩
theorem ry {sel:List (Nat×Bool)} {x:List Cl} (h:x.all Jq=true):x.map (NQ sel)=x:=by
 conv=>rhs; rw[← List.map_id x]
 refine List.map_congr_left fun c hc=>?_
 have:=List.all_eq_true.1 h c hc
 cases c<;>simp_all [Jq,NQ]
theorem r_ {sel:List (Nat×Bool)} {x:List Cl} (h:x.all Jq=true):x.all (fQ sel)=true:=List.all_eq_true.2 fun c hc=>by
 have:=List.all_eq_true.1 h c hc
 cases c<;>simp_all [Jq,fQ]
theorem Iz {α:Type} {f:α→List Cl} (hf:∀ x,(f x).all Jq=true) (sel:List (Nat×Bool)) (out:List α) (r row':List Cl) :
  (out.map f ++ [r]).map (fun x=>x.map (NQ sel))=(out.map f ++ [row']).set out.length (r.map (NQ sel)):=by
 rw[List.map_append,List.set_append_right _ _ (by simp)]
 congr 1
 ·conv=>rhs; rw[← List.map_id (out.map f)]
  refine List.map_congr_left fun x hx=>?_
  obtain⟨y,_,rfl⟩:=List.mem_map.1 hx
  exact ry (hf y)
 ·simp
theorem CE {α:Type} {f:α→List Cl} (out:List α) (x:α):(out.map f ++ [f x]).set out.length (f x)=(out ++ [x]).map f:=by
 rw[List.set_append_right _ _ (by simp)]
 simp
theorem I4 {α:Type} {f:α→List Cl} (hf:∀ x,(f x).all Jq=true) (sel:List (Nat×Bool)) (out:List α) {r:List Cl} (hr:r.all (fQ sel)=true):((out.map f ++ [r]).all fun x=>x.all (fQ sel))=true:=by
 rw[List.all_append]
 simp only[List.all_cons,List.all_nil,Bool.and_true,Bool.and_eq_true,hr,and_true]
 refine List.all_eq_true.2 fun x hx=>?_
 obtain⟨y,_,rfl⟩:=List.mem_map.1 hx
 exact r_ (hf y)
theorem AL {α:Type} {f:α→List Cl} {l:List α} (h:∀ x,BX (f x)=true):E5 (l.map f)=true:=by
 unfold E5
 rw[List.all_map]
 exact List.all_eq_true.2 fun x _=>h x
end Go.Vm
