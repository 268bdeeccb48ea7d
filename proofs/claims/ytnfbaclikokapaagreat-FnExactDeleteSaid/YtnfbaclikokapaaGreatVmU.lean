/- A part. -/
import Derived.Test.YtnfbaclikokapaaGreatVmT
set_option linter.unusedSimpArgs false
set_option linter.unusedVariables false
namespace Go.Vm
open Go.RowKit
variable {P:Program} {w0:Bs} {St0 St:Nat→Nat→Prop} {β:Nat→Option Nat} {s:MS} {a:Act} {w:World}
def KI (P:Program) (s:MS):List ResultVar→Option (List AV)
 | []=>some []
 | .tmp t::r=>if t<1000000 then match KI P s r with
  | some xs=>some (BZ s.env t::xs)
  | none=>none
  else none
 | .cell t T::r=>if t<1000000 then match Hr P s (.load T (.tmp t)),KI P s r with
  | some x,some xs=>some (x::xs)
  | _,_=>none
  else none
def Nj (st:List Ob):List AV→List Res→List Nat→Prop
 | [],[],_=>True
 | _::xs,.val _::rs,us=>Nj st xs rs us
 | x::xs,.own ty sz ys wr::rs,us=>match x with
  | .c (.ref l)=>match CO st l with
   | some ob=>ob.ty=ty∧ob.sz=sz∧ob.xs=ys∧(wr=true→ob.wr=true)∧Df ys=true∧l∉us∧Nj st xs rs (l::us)
   | none=>False
  | .c (.v (.slice none 0 0))=>ys = []∧Nj st xs rs us
  | _=>False
 | x::xs,.agg ys::rs,us=>match x with
  | .agg zs=>AU st zs ys us fun us'=>Nj st xs rs us'
  | _=>False
 | _,_,_=>False
def Pv (st:List Ob):List AV→List Res→(List Ob→Prop)→Prop
 | [],[],K=>K st
 | x::xs,.val y::rs,K=>match fzA st x with
  | some (y',st')=>y'=y∧Pv st' xs rs K
  | none=>False
 | _::xs,.own _ _ _ _::rs,K=>Pv st xs rs K
 | _::xs,.agg _::rs,K=>Pv st xs rs K
 | _,_,_=>False
def Post (P:Program) (vars:List ResultVar) (rs:List Res) (s:MS):Prop:=match KI P s vars with
 | some xs=>Pv s.st xs rs fun st=>Nj st xs rs []
 | none=>False
theorem YO {w':World} {St':Nat→Nat→Prop} {st st':List Ob} {β':Nat→Option Nat} (hA:∀ x u,AVR w St st β x u→AVR w' St' st' β' x u):∀ {xs:List AV} {us:List Value},AVRs w St st β xs us→AVRs w' St' st' β' xs us
 | [],us,h=>by simp only[AVRs] at h ⊢; exact h
 | x::xs,us,h=>by
  simp only[AVRs] at h ⊢
  obtain⟨y,ys,h1,h2,h3⟩:=h
  exact⟨y,ys,h1,hA x y h2,YO hA h3⟩
theorem Tu:∀ (xs:List AV) (rs:List Res) (us:List Value) (st:List Ob) (St:Nat→Nat→Prop) (K:List Ob→Prop),Core w0 St0 St β ⟨s.n,s.env,st⟩ a w→AVRs w St st β xs us→Pv st xs rs K →
  ∃ st' St',K st'∧Core w0 St0 St' β ⟨s.n,s.env,st'⟩ a w∧(∀ b o,St b o→St' b o)∧(∀ x u,AVR w St st β x u→AVR w St' st' β x u) ∧
   (∀ (j:Nat) (y:AV),rs[j]?=some (.val y)→∃ u,us[j]?=some u∧RdA w St' y u)
 | [],rs,us,st,St,K,h,hx,hv=>by
  cases rs with
  | nil=>exact⟨st,St,hv,h,fun _ _ h=>h,fun _ _ h=>h,fun j y hj=>by simp at hj⟩
  | cons r rs=>cases r<;>simp[Pv] at hv
 | x::xs,rs,us,st,St,K,h,hx,hv=>by
  cases rs with
  | nil=>simp[Pv] at hv
  | cons r rs =>
   simp only[AVRs] at hx
   obtain⟨u,us',rfl,h1,h2⟩:=hx
   cases r with
   | val y =>
    simp only[Pv] at hv
    split at hv
    ·rename_i y' st1 hf
     obtain⟨rfl,hv⟩:=hv
     obtain⟨St1,q1,q2,q3,q4⟩:=AA3 h hf
     have hm:=LY (w:=w) (w':=w) (β:=β) (St:=St) (St':=St1) fun l ob hl=>wH hf hl
     have hA:∀ x u,AVR w St st β x u→AVR w St1 st1 β x u:=fun x u hx=>AVR.mono q2 (fun _ _ _=>rfl) q3 hm x u hx
     obtain⟨st',St',r1,r2,r3,r4,r5⟩:=Tu xs rs us' st1 St1 K q1 (YO hA h2) hv
     refine⟨st',St',r1,r2,fun b o hbo=>r3 b o (q2 b o hbo),fun x u hx=>r4 x u (hA x u hx),fun j z hj=>?_⟩
     cases j with
     | zero =>
      simp only[aB,ah,Res.val.injEq] at hj
      subst hj
      exact⟨u,rfl,(q4 u h1).mono r3 (fun _ _ _=>rfl)⟩
     | succ j=>simpa using r5 j z (by simpa using hj)
    ·exact hv.elim
   | own ty sz ys wr =>
    simp only[Pv] at hv
    obtain⟨st',St',r1,r2,r3,r4,r5⟩:=Tu xs rs us' st St K h h2 hv
    refine⟨st',St',r1,r2,r3,r4,fun j z hj=>?_⟩
    cases j with
    | zero=>simp at hj
    | succ j=>simpa using r5 j z (by simpa using hj)
   | agg ys =>
    simp only[Pv] at hv
    obtain⟨st',St',r1,r2,r3,r4,r5⟩:=Tu xs rs us' st St K h h2 hv
    refine⟨st',St',r1,r2,r3,r4,fun j z hj=>?_⟩
    cases j with
    | zero=>simp at hj
    | succ j=>simpa using r5 j z (by simpa using hj)
section owns
variable {φ:Nat→Nat→Nat→Prop}
theorem oW (h:Core w0 St0 St β s a w) (hφ:Ru w0 w St s.st β φ) (hno:∀ x,¬ w0.own x):∀ (xs:List AV) (rs:List Res) (us:List Value) (used:List Nat),AVRs w St s.st β xs us→Nj s.st xs rs used →
  (∀ (j:Nat) (y:AV),rs[j]?=some (.val y)→∃ u,us[j]?=some u∧RdA w St y u) →
  ∃ bs Φs,ResR w St w0.heap.size rs us bs Φs∧FpOk w St w0.heap.size bs Φs ∧
   (∀ (i b:Nat),bs[i]?=some (some b)→∃ l ob,s.st[l]?=some ob∧ob.live=true∧β l=some b∧l∉used) ∧
   ∀ (i:Nat) (Φ:Nat→Nat→Prop) (k x:Nat),Φs[i]?=some Φ→Φ k x→∃ l,l∉used∧Fp s.st β φ l x
 | [],rs,us,used,hx,ho,hv=>by
  cases rs with
  | nil =>
   simp only[AVRs] at hx
   subst hx
   exact⟨[],[],⟨rfl,rfl,rfl⟩,⟨fun i j b hi=>by simp at hi,fun i Φ k x hi=>by simp at hi,fun i i' Φ Φ' k k' x hi=>by simp at hi⟩,fun i b hi=>by simp at hi,fun i Φ k x hi=>by simp at hi⟩
  | cons r rs=>cases r<;>simp[Nj] at ho
 | x::xs,rs,us,used,hx,ho,hv=>by
  cases rs with
  | nil=>simp[Nj] at ho
  | cons r rs =>
   simp only[AVRs] at hx
   obtain⟨u,us',rfl,h1,h2⟩:=hx
   have hv':∀ (j:Nat) (y:AV),rs[j]?=some (.val y)→∃ u,us'[j]?=some u∧RdA w St y u:=fun j y hj=>by
    simpa using hv (j+1) y (by simpa using hj)
   have cons:∀ (used1:List Nat) (b:Option Nat) (Φ:Nat→Nat→Prop),(∀ l∈used,l∈used1)→Res1 w St w0.heap.size r u b Φ→Nj s.st xs rs used1 →
     (∀ b0,b=some b0→∃ l ob,s.st[l]?=some ob∧ob.live=true∧β l=some b0∧l∉used∧l∈used1) →
     (∀ k x,Φ k x→∃ l,l∉used∧l∈used1∧Fp s.st β φ l x∧w0.may x∧x<w.heap.size∧(∀ o,¬ St x o)∧b≠some x)→(∀ k k' x,Φ k x→Φ k' x→k=k') →
     ∃ bs Φs,ResR w St w0.heap.size (r::rs) (u::us') bs Φs∧FpOk w St w0.heap.size bs Φs∧(∀ (i b:Nat),bs[i]?=some (some b)→∃ l ob,s.st[l]?=some ob∧ob.live=true∧β l=some b∧l∉used) ∧
      ∀ (i:Nat) (Φ:Nat→Nat→Prop) (k x:Nat),Φs[i]?=some Φ→Φ k x→∃ l,l∉used∧Fp s.st β φ l x:=by
    intro used1 b Φ hu hr hrest hb hΦ hdis
    obtain⟨bs,Φs,q1,q2,q3,q4⟩:=oW h hφ hno xs rs us' used1 h2 hrest hv'
    refine⟨b::bs,Φ::Φs,⟨u,us',b,bs,Φ,Φs,rfl,rfl,rfl,hr,q1⟩,⟨fun i j b0 hi hj=>?_,fun i Ψ k x hi hk=>?_,fun i i' Ψ Ψ' k k' x hi hi' hk hk'=>?_⟩,fun i b0 hi=>?_,fun i Ψ k x hi hk=>?_⟩
    ·have hclash:∀ m b1,b=some b1→bs[m]?=some (some b1)→False:=fun m b1 hb1 hm=>by
      obtain⟨l,ob,p1,p2,p3,p4,p5⟩:=hb b1 hb1
      obtain⟨l2,ob2,k1,k2,k3,k4⟩:=q3 m b1 hm
      have:=h.inj l l2 ob ob2 b1 p1 k1 p2 k2 p3 k3
      subst this
      exact k4 p5
     cases i with
     | zero =>
      cases j with
      | zero=>rfl
      | succ j =>
       simp only[aB,ah] at hi
       exact(hclash j b0 hi (by simpa using hj)).elim
     | succ i =>
      cases j with
      | zero =>
       simp only[aB,ah] at hj
       exact(hclash i b0 hj (by simpa using hi)).elim
      | succ j=>have:=q2.nodup i j b0 (by simpa using hi) (by simpa using hj); omega
    ·cases i with
     | zero =>
      simp only[aB,ah] at hi
      subst hi
      obtain⟨l,p1,p2,p3,p4,p5,p6,p7⟩:=hΦ k x hk
      refine⟨p4.resolve_right (hno _),p5,p6,fun j hj=>?_⟩
      cases j with
      | zero=>simp only[aB,ah] at hj; exact p7 hj
      | succ j =>
       obtain⟨l2,ob2,k1,k2,k3,k4⟩:=q3 j x (by simpa using hj)
       have:=GR h hφ p3 ⟨ob2,k1,k2,.inl k3⟩
       subst this
       exact k4 p2
     | succ i =>
      obtain⟨g1,g2,g3,g4⟩:=q2.fresh i Ψ k x (by simpa using hi) hk
      refine⟨g1,g2,g3,fun j hj=>?_⟩
      cases j with
      | zero =>
       simp only[aB,ah] at hj
       obtain⟨l,ob,p1,p2,p3,p4,p5⟩:=hb x hj
       obtain⟨l2,k1,k2⟩:=q4 i Ψ k x (by simpa using hi) hk
       have:=GR h hφ ⟨ob,p1,p2,.inl p3⟩ k2
       subst this
       exact k1 p5
      | succ j=>exact g4 j (by simpa using hj)
    ·have hx2:∀ (m:Nat) (Ψ:Nat→Nat→Prop) (k k' x:Nat),Φ k x→Φs[m]?=some Ψ→Ψ k' x→False:=fun m Ψ k k' x hk hm hk'=>by
      obtain⟨l,p1,p2,p3,_⟩:=hΦ k x hk
      obtain⟨l2,k1,k2⟩:=q4 m Ψ k' x hm hk'
      have:=GR h hφ p3 k2
      subst this
      exact k1 p2
     cases i with
     | zero =>
      simp only[aB,ah] at hi
      subst hi
      cases i' with
      | zero =>
       simp only[aB,ah] at hi'
       subst hi'
       exact⟨rfl,hdis k k' x hk hk'⟩
      | succ i'=>exact(hx2 i' Ψ' k k' x hk (by simpa using hi') hk').elim
     | succ i =>
      cases i' with
      | zero =>
       simp only[aB,ah] at hi'
       subst hi'
       exact(hx2 i Ψ k' k x hk' (by simpa using hi) hk).elim
      | succ i' =>
       have:=q2.dis i i' Ψ Ψ' k k' x (by simpa using hi) (by simpa using hi') hk hk'
       exact⟨by omega,this.2⟩
    ·cases i with
     | zero =>
      simp only[aB,ah] at hi
      obtain⟨l,ob,p1,p2,p3,p4,_⟩:=hb b0 hi
      exact⟨l,ob,p1,p2,p3,p4⟩
     | succ i =>
      obtain⟨l,ob,p1,p2,p3,p4⟩:=q3 i b0 (by simpa using hi)
      exact⟨l,ob,p1,p2,p3,fun hm=>p4 (hu l hm)⟩
    ·cases i with
     | zero =>
      simp only[aB,ah] at hi
      subst hi
      obtain⟨l,p1,_,p3,_⟩:=hΦ k x hk
      exact⟨l,p1,p3⟩
     | succ i =>
      obtain⟨l,p1,p2⟩:=q4 i Ψ k x (by simpa using hi) hk
      exact⟨l,fun hm=>p1 (hu l hm),p2⟩
   cases r with
   | val y =>
    obtain⟨u2,hu2,hr⟩:=hv 0 y rfl
    simp only[aB,ah] at hu2
    subst hu2
    exact cons used none (fun _ _=>False) (fun _ h=>h) ⟨hr,rfl⟩ (by simpa only[Nj] using ho) (fun b0 h=>by cases h) (fun _ _ h=>h.elim) (fun _ _ _ h=>h.elim)
   | agg ys =>
    simp only[Nj] at ho
    split at ho
    ·rename_i zs
     simp only[AVR] at h1
     obtain⟨vs,rfl,hl,hc⟩:=h1
     obtain⟨used',Φ,r1,r2,r3,r4,r5,r6⟩:=XH h hφ zs ys vs used _ hl hc ho
     refine cons used' none Φ r2 ⟨rfl,vs,rfl,by rw[r3]; exact hl,r4⟩ r1 (fun b0 h=>by cases h) (fun k x hx=>?_) r6
     obtain⟨l,p1,p2,p3,p4⟩:=r5 k x hx
     obtain⟨t1,t2,t3⟩:=Qb h hφ p3 p4
     exact⟨l,p1,p2,p3,t1,t2,t3,by simp⟩
    ·exact ho.elim
   | own ty sz ys wr =>
    simp only[Nj] at ho
    split at ho
    ·rename_i l
     split at ho
     ·rename_i ob hob
      obtain⟨rfl,rfl,rfl,hwr,hp,hnu,ho⟩:=ho
      obtain⟨hl,hlive⟩:=Aw hob
      simp only[AVR,RdC,A_,hl] at h1
      have h1':=h1.2 hlive
      cases hβ:β l with
      | none =>
       simp only[hβ] at h1'
       exact cons (l::used) none (fun _ _=>False) (fun l' hl'=>by simp[hl']) h1' ho (fun b0 h=>by cases h) (fun _ _ h=>h.elim) (fun _ _ _ h=>h.elim)
      | some b0 =>
       simp only[hβ] at h1'
       obtain⟨cap,cs,e1,e2,e3,e4,e5⟩:=h1'
       obtain⟨g1,g2,cs',g3,g4,g5⟩:=h.obs l ob b0 hl hlive hβ
       refine cons (l::used) (some b0) (φ l) (fun l' hl'=>by simp[hl']) ⟨g1.resolve_right (hno _),g2,g4,fun o hbo=>?_,cap,cs,e1,e2,e3,e4,e5,YA h hφ hl hlive hβ hp e4⟩ ho (fun b1 h=>by cases h; exact⟨l,ob,hl,hlive,hβ,hnu,by simp⟩) (fun k x hx=>?_) (fun k k' x hx hx'=>(hφ.2.2 l l k k' x hx hx').2)
       ·have:=h.sep l ob b0 o hl hlive hβ hbo
        refine⟨?_,this.2⟩
        cases wr with
        | false=>rfl
        | true=>rw[hwr rfl] at this; exact this.1
       ·have hf:=(hφ.2.1 l k x hx).2
        refine⟨l,hnu,by simp,⟨ob,hl,hlive,.inr ⟨k,hx⟩⟩,hf.1,hf.2.2.1,hf.2.2.2.1,fun e=>?_⟩
        cases e
        exact hf.2.2.2.2 l ob hl hlive hβ
     ·exact ho.elim
    ·obtain⟨rfl,ho⟩:=ho
     obtain⟨hu,_⟩:=Nb h1
     exact cons used none (fun _ _=>False) (fun _ h=>h) ⟨hu,rfl⟩ ho (fun b0 h=>by cases h) (fun _ _ h=>h.elim) (fun _ _ _ h=>h.elim)
    ·exact ho.elim
end owns
def jW (tmps:Array Value):ResultVar→Sem Value
 | .tmp t=>pure (tmps.getD t Go.undef)
 | .cell t T=>do loadVar T (← asAddr (tmps.getD t Go.undef))
theorem La (fn:Func) (tmps:Array Value):results fn tmps=(do
  let vs ← fn.results.mapM (jW tmps)
  pure (if h:vs.size=1 then vs[0] else .tuple vs)):=by
 unfold results
 congr 1
theorem Lc (h:Core w0 St0 St β s a w):∀ (vars:List ResultVar) (xs:List AV),KI P s vars=some xs →
  ∃ us,AVRs w St s.st β xs us∧(vars.mapM (jW a.tmps)).run P w = .ok us w
 | [],xs,hr=>by
  simp only[KI,ah] at hr
  subst hr
  exact⟨[],by simp[AVRs],by simp⟩
 | .tmp t::vars,xs,hr=>by
  simp only[KI] at hr
  split at hr
  rotate_left
  ·cases hr
  rename_i ht
  split at hr
  ·rename_i ys hys
   simp only[ah] at hr
   subst hr
   obtain⟨us,h1,h2⟩:=Lc h vars ys hys
   refine⟨a.tmps.getD t Go.undef::us,by simp only[AVRs]; exact⟨_,_,rfl,by rw[← PU (w0:=w0) ht]; exact h.env t,h1⟩, ?_⟩
   simp only[List.mapM_cons,jW,Sem.run_bind,Sem.run_pure,Result.andThen_ok,h2]
  ·cases hr
 | .cell t T::vars,xs,hr=>by
  simp only[KI] at hr
  split at hr
  rotate_left
  ·cases hr
  rename_i ht
  split at hr
  ·rename_i x ys hx hys
   simp only[ah] at hr
   subst hr
   obtain⟨us,h1,h2⟩:=Lc h vars ys hys
   obtain ⟨v, g1, g2⟩ := iq (P := P) h { dst := none, op := .load T (.tmp t), type := 0, pos := "", after := #[], guard := none } (by simp [Op.operands, Ar, ht]) hx
   refine⟨v::us,by simp only[AVRs]; exact⟨_,_,rfl,g2,h1⟩, ?_⟩
   have hload:(do loadVar T (← asAddr (a.tmps.getD t Go.undef)):Sem Value).run P w = .ok v w:=by
    simp only[execOp,Act.eval,Instr.loadAt,Sem.run_bind] at g1
    generalize a.tmps.getD t Go.undef=z at g1 ⊢
    cases z with
    | pointer ad =>
     cases ad with
     | none=>simp[Instr.sureAddr] at g1
     | some ad =>
      simp only[Instr.sureAddr,Sem.run_pure,Result.andThen_ok,asAddr] at g1 ⊢
      simp only[Sem.run_bind,Sem.run_pure,Result.andThen_ok]
      generalize (loadVar T ad).run P w=r at g1 ⊢
      cases r with
      | ok v2 w2=>simp only[Result.andThen_ok,Result.ok.injEq,Next.value.injEq] at g1; rw[g1.1,g1.2]
      | halt hh w2=>simp at g1
    | _=>simp[Instr.sureAddr] at g1
   have hload':(jW a.tmps (.cell t T)).run P w = .ok v w:=hload
   simp only[List.mapM_cons,Sem.run_bind,hload',Sem.run_pure,Result.andThen_ok,h2]
  ·cases hr
theorem XG {w0:World} {fn:Func} {rs:List Res} (hs:Sim ⟨w0,fun _=>False,fun _=>Go.undef⟩ St0 s a w) (hp:Post P fn.results.toList rs s):∃ us bs St',(results fn a.tmps).run P w = .ok (Nc us) w∧a.defers = []∧Back w0 St0 rs (.returned (Nc us)) w us bs St':=by
 obtain⟨St,β,h⟩:=hs
 unfold Post at hp
 split at hp
 ·rename_i xs hxs
  obtain⟨us,h1,h2⟩:=Lc h fn.results.toList xs hxs
  obtain⟨st',St',r1,r2,r3,r4,r5⟩:=Tu xs rs us s.st St _ h h1 hp
  obtain⟨φ,hφ⟩:=r2.own
  obtain⟨bs,Φs,o1,o2,_⟩:=oW r2 hφ (fun _ h=>h) xs rs us [] (YO r4 h1) r1 r5
  refine⟨us,bs,St', ?_,h.defers,⟨rfl,h.below.plain,fun b o hbo=>r3 b o (h.st0 b o hbo),fun b o hbo hlt=>r2.stOld b o hbo hlt (fun h=>h),r2.stIn,Φs,o1,o2⟩⟩
  rw[La,Sem.run_bind,aaZ,Sem.run_map,h2]
  simp only[Result.andThen_ok,Sem.run_pure]
  congr 1
  match us with
  | []=>rfl
  | [u]=>rfl
  | u::u2::us=>simp[Nc]
 ·exact hp.elim
def II:List AV→Nat→List (Nat×AV)
 | [],_=>[]
 | x::xs,k=>(k,x)::II xs (k+1)
theorem JY:∀ (xs:List AV) (k i:Nat),BZ (II xs k) i=if k≤i then xs.getD (i-k) .un else .un
 | [],k,i=>by simp[II,BZ]
 | x::xs,k,i=>by
  simp only[II,BZ,JY xs (k+1) i]
  by_cases e:k=i
  ·subst e; simp
  ·simp only[e,aT]
   by_cases h:k≤i
   ·have h1:k+1≤i:=by omega
    simp only[h,h1,bD]
    have:i-k=(i-(k+1))+1:=by omega
    rw[this]
    simp
   ·have h1:¬ k+1≤i:=by omega
    simp[h,h1]
theorem Qe {w:World} {St:Nat→Nat→Prop}:∀ {xs:List AV} {us:List Value},RdAs w St xs us→us.length=xs.length∧∀ (j:Nat) (x:AV),xs[j]?=some x→∃ u,us[j]?=some u∧RdA w St x u
 | [],us,h=>by simp only[RdAs] at h; subst h; exact⟨rfl,fun j x hj=>by simp at hj⟩
 | x::xs,us,h=>by
  obtain⟨y,ys,rfl,h1,h2⟩:=h
  obtain⟨q1,q2⟩:=Qe h2
  refine⟨by simp[q1],fun j z hj=>?_⟩
  cases j with
  | zero=>simp at hj; subst hj; exact⟨y,rfl,h1⟩
  | succ j=>simpa using q2 j z (by simpa using hj)
def AC2 (P:Program) (vars:List ResultVar) (rs:List Res) (e:Ex) (s:MS):Prop:=match e with
 | .exit _=>False
 | _=>Post P vars rs s
theorem Ctr.mk {f:FuncId} {fn:Func} {c:Code} {args:List AV} {rs:List Res} (hin:CallsIn P f) (hf:P.funcs[f]?=some fn) (hb:fn.body=some c) (hm:P.follows .mixedOrders=true) {n:Nat} (hn:fn.ntmps=n) {vars:Array ResultVar} (hvars:fn.results=vars) (hc:codeOk n c=true) (hlen0:(Nat.ble args.length n&&Nat.ble n 1000000)=true)
  (h:ny args→vp P c ⟨n,II args 0,[]⟩ (AC2 P vars.toList rs)):Ctr P f args rs:=by
 subst hn
 subst hvars
 obtain⟨hlen0,hlim0⟩:=abg.1 hlen0
 have hlim:fn.ntmps≤1000000:=zy hlim0
 have hlen:args.length≤fn.ntmps:=zy hlen0
 refine⟨hin,fun w St vs hSt hrd=>?_⟩
 obtain⟨hvl,hva⟩:=Qe hrd
 refine calls_of_wp hf hb (wp_mono (eG (w0:=⟨w,fun _=>False,fun _=>Go.undef⟩) (St0:=St) hm fn.ntmps c hc ⟨fn.ntmps,II args 0,[]⟩ _ { tmps:=vs.toArray++Array.replicate (fn.ntmps-vs.toArray.size) Go.undef,defers:=[] } w rfl (h hrd.wf) ⟨St,fun _=>none, ?_⟩) ?_)
 ·exact {
   defers:=rfl
   size:=by simp; omega
   lim:=hlim
   env:=fun i=>by
    rw[X6 (by simp; omega) rfl]
    simp only[JY,ax,bD,aa9]
    rcases bI i args.length with hi | hi
    ·obtain⟨u,hu,hr⟩:=hva i args[i] (by simp[hi])
     have e1:args.getD i .un=args[i]:=by simp[hi]
     have e2:(vs.toArray++Array.replicate (fn.ntmps-vs.toArray.size) Go.undef).getD i Go.undef=u:=by
      have hiv:i<vs.length:=by omega
      simp only[aaw]
      rw[zx (by simpa using hiv)]
      simp[hu]
     rw[e1,e2]
     exact hr.toAVR
    ·have e1:args.getD i .un = .un:=by simp[hi]
     rw[e1]
     simp only[AVR]
   below:=BelowB.refl _ _
   st0:=fun _ _ h=>h
   stOld:=fun _ _ h _ _=>h
   stIn:=hSt
   obs:=fun l ob b hl=>by simp at hl
   nil:=fun l ob hl=>by simp at hl
   inj:=fun l l' ob ob' b hl=>by simp at hl
   sep:=fun l ob b o hl=>by simp at hl
   own:=⟨fun _ _ _=>False,fun l ob b k c hl=>by simp at hl,fun _ _ _ h=>h.elim,fun _ _ _ _ _ h=>h.elim⟩ }
 ·rintro e a' w' ⟨ex,s',rfl,hq,_,hs'⟩
  cases ex with
  | exit i=>exact hq.elim
  | normal =>
   obtain⟨us,bs,St',p1,p2,p3⟩:=XG hs' hq
   exact⟨p2,_,p1,us,bs,St',p3⟩
  | ret =>
   obtain⟨us,bs,St',p1,p2,p3⟩:=XG hs' hq
   exact⟨p2,_,p1,us,bs,St',p3⟩
def EndH (P:Program) (vars:List ResultVar) (rs:List Res) (e:Ex) (s:MS):Prop:=match e with
 | .exit _=>False
 | _=>∃ t,Head s t∧Post P vars rs t
theorem Ctr.mkH {f:FuncId} {fn:Func} {c:Code} {args:List AV} {rs:List Res} (hin:CallsIn P f) (hf:P.funcs[f]?=some fn) (hb:fn.body=some c) (hm:P.follows .mixedOrders=true) {n:Nat} (hn:fn.ntmps=n) {vars:Array ResultVar} (hvars:fn.results=vars) (hc:codeOk n c=true) (hlen0:(Nat.ble args.length n&&Nat.ble n 1000000)=true)
  (h:ny args→vp P c ⟨n,II args 0,[]⟩ (EndH P vars.toList rs)):Ctr P f args rs:=by
 subst hn
 subst hvars
 obtain⟨hlen0,hlim0⟩:=abg.1 hlen0
 have hlim:fn.ntmps≤1000000:=zy hlim0
 have hlen:args.length≤fn.ntmps:=zy hlen0
 refine⟨hin,fun w St vs hSt hrd=>?_⟩
 obtain⟨hvl,hva⟩:=Qe hrd
 refine calls_of_wp hf hb (wp_mono (eG (w0:=⟨w,fun _=>False,fun _=>Go.undef⟩) (St0:=St) hm fn.ntmps c hc ⟨fn.ntmps,II args 0,[]⟩ _ { tmps:=vs.toArray++Array.replicate (fn.ntmps-vs.toArray.size) Go.undef,defers:=[] } w rfl (h hrd.wf) ⟨St,fun _=>none, ?_⟩) ?_)
 ·exact {
   defers:=rfl
   size:=by simp; omega
   lim:=hlim
   env:=fun i=>by
    rw[X6 (by simp; omega) rfl]
    simp only[JY,ax,bD,aa9]
    rcases bI i args.length with hi | hi
    ·obtain⟨u,hu,hr⟩:=hva i args[i] (by simp[hi])
     have e1:args.getD i .un=args[i]:=by simp[hi]
     have e2:(vs.toArray++Array.replicate (fn.ntmps-vs.toArray.size) Go.undef).getD i Go.undef=u:=by
      have hiv:i<vs.length:=by omega
      simp only[aaw]
      rw[zx (by simpa using hiv)]
      simp[hu]
     rw[e1,e2]
     exact hr.toAVR
    ·have e1:args.getD i .un = .un:=by simp[hi]
     rw[e1]
     simp only[AVR]
   below:=BelowB.refl _ _
   st0:=fun _ _ h=>h
   stOld:=fun _ _ h _ _=>h
   stIn:=hSt
   obs:=fun l ob b hl=>by simp at hl
   nil:=fun l ob hl=>by simp at hl
   inj:=fun l l' ob ob' b hl=>by simp at hl
   sep:=fun l ob b o hl=>by simp at hl
   own:=⟨fun _ _ _=>False,fun l ob b k c hl=>by simp at hl,fun _ _ _ h=>h.elim,fun _ _ _ _ _ h=>h.elim⟩ }
 ·rintro e a' w' ⟨ex,s',rfl,hq,_,hs'⟩
  cases ex with
  | exit i=>exact hq.elim
  | normal =>
   obtain⟨t,hh,hq⟩:=hq
   obtain⟨St1,β1,hc1⟩:=hs'
   obtain⟨St2,β2,hc2⟩:=hh.2 _ _ _ _ _ _ hc1
   obtain⟨us,bs,St',p1,p2,p3⟩:=XG ⟨St2,β2,hc2⟩ hq
   exact⟨p2,_,p1,us,bs,St',p3⟩
  | ret =>
   obtain⟨t,hh,hq⟩:=hq
   obtain⟨St1,β1,hc1⟩:=hs'
   obtain⟨St2,β2,hc2⟩:=hh.2 _ _ _ _ _ _ hc1
   obtain⟨us,bs,St',p1,p2,p3⟩:=XG ⟨St2,β2,hc2⟩ hq
   exact⟨p2,_,p1,us,bs,St',p3⟩
theorem Core.tell (h:Core w0 St0 St β s a w) (i:Nat) {x:AV} (hx:AVR w St s.st β x (nm w0 a i)):Core w0 St0 St β ⟨s.n,(i,x)::s.env,s.st⟩ a w:=
 have he:∀ j,AVR w St s.st β (BZ ((i,x)::s.env) j) (nm w0 a j):=fun j=>by
  simp only[BZ]
  by_cases e:i=j
  ·subst e
   simpa using hx
  ·simpa [e] using h.env j
 { h with env:=he }
theorem wU {St':Nat→Nat→Prop}:∀ {xs:List AV} {us:List Value},xs.all yh=true→RdAs w St xs us→RdAs w St' xs us
 | [],us,_,h=>h
 | x::xs,us,hx,h=>by
  simp only[bK,ak] at hx
  obtain⟨y,ys,h1,h2,h3⟩:=h
  refine⟨y,ys,h1, ?_,wU hx.2 h3⟩
  cases x with
  | c c =>
   cases c with
   | v v=>exact h2
   | _=>simp[yh] at hx
  | _=>simp[yh] at hx
theorem ABT {g:Bool} {zs:List Cl} {us:List Value} {st:List Ob} (hg:g=true∨zs.length=1) (hg2:g=true∨us.length=1) (h:AVR w St st β (mkA g zs) (mkV g us)) :
  us.length=zs.length∧∀ (k:Nat) (c:Cl),zs[k]?=some c→∃ y,us[k]?=some y∧RdC w St st β c y:=by
 cases g with
 | true =>
  simp only[mkA,bD,AVR,mkV] at h
  obtain⟨us2,e1,e2,e3⟩:=h
  have:us=us2:=by
   simp only[Value.agg.injEq] at e1
   simpa using congrArg Array.toList e1
  subst this
  exact⟨e2,e3⟩
 | false =>
  have hz:zs.length=1:=by simpa using hg
  have hu:us.length=1:=by simpa using hg2
  match zs,us,hz,hu with
  | [z],[u],_,_ =>
   simp only[mkA,mkV,aC,aT,AVR,List.headD_cons] at h
   refine⟨rfl,fun k c hk=>?_⟩
   cases k with
   | zero=>simp only[aB,ah] at hk; subst hk; exact⟨u,rfl,h⟩
   | succ k=>simp at hk
theorem AEl {g:Bool} {zs:List Cl} {us:List Value} {st:List Ob} (hl:us.length=zs.length) (hg:g=true∨zs.length=1) (h:∀ (k:Nat) (c:Cl),zs[k]?=some c→∃ y,us[k]?=some y∧RdC w St st β c y):AVR w St st β (mkA g zs) (mkV g us):=by
 cases g with
 | true =>
  simp only[mkA,bD,AVR,mkV]
  exact⟨us,rfl,hl,h⟩
 | false =>
  have hz:zs.length=1:=by simpa using hg
  match zs,us,hz,hl with
  | [z],[u],_,_ =>
   simp only[mkA,mkV,aC,aT,AVR,List.headD_cons]
   obtain⟨y,hy,hr⟩:=h 0 z rfl
   simp only[aB,ah] at hy
   subst hy
   exact hr
def wV (P:Program) (vars:List ResultVar) (g:Bool) (us:List Value) (Q:List Cl→List AV→Prop) (s:MS):Prop:=
 ∃ zs cl' rs,BZ s.env 0 = .pin (mkA g zs) (mkV g us)∧(g=true∨zs.length=1)∧AU s.st zs cl' [] (fun _=>True)∧En cl'=true∧rs.all yh=true∧KI P s vars=some rs∧Q cl' rs
def AEm (P:Program) (vars:List ResultVar) (g:Bool) (us:List Value) (Q:List Cl→List AV→Prop) (e:Ex) (s:MS):Prop:=match e with
 | .exit _=>False
 | _=>wV P vars g us Q s
theorem oZ {w0:World} {fn:Func} {g:Bool} {us:List Value} {Q:List Cl→List AV→Prop} {G:Nat→Nat→Prop} (hg:g=true∨us.length=1) (hs:Sim ⟨w0,fun x=>∃ k,G k x,fun _=>Go.undef⟩ St0 s a w) (hp:wV P fn.results.toList g us Q s) :
  ∃ cl' rs rv,Q cl' rs∧(results fn a.tmps).run P w = .ok (Nc rv) w∧a.defers = []∧∃ G',Below 0 w0 w∧(∀ k,k<w0.heap.size→(∀ j,¬ G j k)→w.heap[k]?=w0.heap[k]?)∧(∀ k,k<w0.heap.size→Ui w k=Ui w0 k)∧RdAs w St0 rs rv∧RdL2 w St0 cl' us G'∧∀ k x,G' k x→(∃ j,G j x)∨(w0.heap.size≤x∧x<w.heap.size):=by
 obtain⟨St,β,h⟩:=hs
 obtain⟨zs,cl',rs,e0,hg2,ho,hclo,hrs,hret,hQ⟩:=hp
 have he:=h.env 0
 rw[PU (by decide)] at he
 rw[e0] at he
 simp only[AVR] at he
 obtain⟨he1,he2⟩:=he
 rw[he1] at he2
 obtain⟨hul,hur⟩:=ABT hg2 hg he2
 obtain⟨φ,hφ⟩:=h.own
 have hrd:=wo h hφ ho hul hur
 obtain⟨rv,h1,h2⟩:=Lc h fn.results.toList rs hret
 refine⟨cl',rs,rv,hQ, ?_,h.defers,_,h.below.rest,fun k hk hno=>h.below.blk k hk fun⟨j,hj⟩=>hno j hj,h.below.siz,wU hrs (jH hrs h1),⟨hrd.len,hrd.dis,fun k c hk=>?_⟩, ?_⟩
 ·rw[La,Sem.run_bind,aaZ,Sem.run_map,h2]
  simp only[Result.andThen_ok,Sem.run_pure]
  congr 1
  match rv with
  | []=>rfl
  | [u]=>rfl
  | u::u2::us=>simp[Nc]
 ·obtain⟨y,hy,hr⟩:=hrd.rd k c hk
  exact⟨y,hy,RdO.clo c y _ (Ph hclo c (aY hk)) hr⟩
 ·rintro k x ⟨l,q1,q2⟩
  obtain⟨_,ob,p1,p2,_⟩:=MW zs cl' [] _ ho k l q1
  obtain⟨r1,r2,r3⟩:=Qb h hφ q2 fun ob' hob'=>by
   obtain⟨p3,_⟩:=Aw p1
   rw[p3] at hob'; cases hob'; exact p2
  rcases r1 with r1 | ⟨j,hj⟩
  ·exact .inr ⟨r1,r2⟩
  ·exact .inl ⟨j,hj⟩
theorem MCtr.mk {f:FuncId} {fn:Func} {c:Code} {g:Bool} {cl:List Cl} {args:List AV} {Q:List Cl→List AV→Prop} (hin:CallsIn P f) (hf:P.funcs[f]?=some fn) (hb:fn.body=some c) (hm:P.follows .mixedOrders=true) {n:Nat} (hn:fn.ntmps=n) {vars:Array ResultVar} (hvars:fn.results=vars) (hc:codeOk n c=true) (hlen0:(Nat.ble (args.length+1) n&&Nat.ble n 1000000)=true)
  (hg:g=true∨cl.length=1)
  (h:∀ us:List Value,Rq cl→ny args→vp P c ⟨n,(0,.pin (mkA g (Ic 0 cl)) (mkV g us))::II args 1,F7 cl⟩ (AEm P vars.toList g us Q)):MCtr P f g cl args Q:=by
 subst hn
 subst hvars
 obtain⟨hlen0,hlim0⟩:=abg.1 hlen0
 have hlim:fn.ntmps≤1000000:=zy hlim0
 have hlen:args.length+1≤fn.ntmps:=zy hlen0
 refine⟨hin,hg,fun w St us G vs hSt hG hrd hvs=>?_⟩
 obtain⟨hvl,hva⟩:=Qe hvs
 have hcore0:Core ⟨w,fun x=>∃ k,G k x,fun _=>Go.undef⟩ St St (fun _=>none) ⟨fn.ntmps,II (.un::args) 0,[]⟩ { tmps:=(mkV g us::vs).toArray++Array.replicate (fn.ntmps-(mkV g us::vs).toArray.size) Go.undef,defers:=[] } w:={
  defers:=rfl
  size:=by simp; omega
  lim:=hlim
  env:=fun i=>by
   rw[X6 (by simp; omega) rfl]
   simp only[JY,ax,bD,aa9]
   cases i with
   | zero=>simp only[List.getD_cons_zero,AVR]
   | succ i =>
    simp only[List.getD_cons_succ]
    rcases bI i args.length with hi | hi
    ·obtain⟨u,hu,hr⟩:=hva i args[i] (by simp[hi])
     have e1:args.getD i .un=args[i]:=by simp[hi]
     have e2:((mkV g us::vs).toArray++Array.replicate (fn.ntmps-(mkV g us::vs).toArray.size) Go.undef).getD (i+1) Go.undef=u:=by
      have hiv:i<vs.length:=by omega
      simp only[aaw]
      rw[zx (by simpa using hiv)]
      simp[hu]
     rw[e1,e2]
     exact hr.toAVR
    ·have e1:args.getD i .un = .un:=by simp[hi]
     rw[e1]
     simp only[AVR]
  below:=BelowB.refl _ _
  st0:=fun _ _ h=>h
  stOld:=fun _ _ h _ _=>h
  stIn:=hSt
  obs:=fun l ob b hl=>by simp at hl
  nil:=fun l ob hl=>by simp at hl
  inj:=fun l l' ob ob' b hl=>by simp at hl
  sep:=fun l ob b o hl=>by simp at hl
  own:=⟨fun _ _ _=>False,fun l ob b k c hl=>by simp at hl,fun _ _ _ h=>h.elim,fun _ _ _ _ _ h=>h.elim⟩ }
 have hN:Own ⟨w,fun x=>∃ k,G k x,fun _=>Go.undef⟩ (fun x=>∃ k,G k x) w St [] (fun _=>none):=⟨fun _ _ _=>False,fun l ob b k c hl=>by simp at hl,fun _ _ _ h=>h.elim,fun _ _ _ _ _ h=>h.elim⟩
 obtain⟨β',q1,q2,q3,q4,q5,q6⟩:=TY (s:=⟨fn.ntmps,II (.un::args) 0,[]⟩) cl us G [] (fun _=>none) _ hcore0 hN hrd.len hrd.rd (fun k x hx=>⟨⟨k,hx⟩,.inr ⟨k,hx⟩,(hG k x hx).1,(hG k x hx).2,fun l o2 hl=>by simp at hl⟩) hrd.dis
 simp only[aI,X5] at q1 q3 q4
 have hgu:g=true∨us.length=1:=by rw[hrd.len]; exact hg
 have hval:=AEl (g:=g) (by rw[q4]; exact hrd.len) (by rw[q4]; exact hg) q3
 have hcore1:=q1.tell 0 (x:=.pin (mkA g (Ic 0 cl)) (mkV g us)) (by
  have:((mkV g us::vs).toArray++Array.replicate (fn.ntmps-(mkV g us::vs).toArray.size) Go.undef).getD 0 Go.undef=mkV g us:=by
   simp only[aaw]
   rw[zx (by simp)]
   simp
  simp only[AVR]
  rw[PU (by decide),this]
  exact⟨by first | trivial | rfl,hval⟩)
 have hcore2:=hcore1.congr (s':=⟨fn.ntmps,(0,.pin (mkA g (Ic 0 cl)) (mkV g us))::II args 1,F7 cl⟩) rfl rfl (fun t=>by
  simp only[BZ,II]
  by_cases e:0=t
  ·simp[e]
  ·simp[e])
 have hwf:Rq cl:=Rt cl fun k c hk=>by
  obtain⟨y,_,hr⟩:=hrd.rd k c hk
  exact RdO.wf c y _ hr
 refine calls_of_wp hf hb (wp_mono (eG (w0:=⟨w,fun x=>∃ k,G k x,fun _=>Go.undef⟩) (St0:=St) hm fn.ntmps c hc _ _ _ w rfl (h us hwf hvs.wf) ⟨St,β',hcore2⟩) ?_)
 rintro e a' w' ⟨ex,s',rfl,hq,_,hs'⟩
 cases ex with
 | exit i=>exact hq.elim
 | normal =>
  obtain⟨cl',rs,rv,p0,p1,p2,G',p3⟩:=oZ hgu hs' hq
  exact⟨p2,_,p1,cl',rs,rv,G',p0,rfl,p3⟩
 | ret =>
  obtain⟨cl',rs,rv,p0,p1,p2,G',p3⟩:=oZ hgu hs' hq
  exact⟨p2,_,p1,cl',rs,rv,G',p0,rfl,p3⟩
def wW (P:Program) (vars:List ResultVar) (b:Nat) (ty:TypeId) (cl':List Cl) (rs:List AV) (s:MS):Prop:=
 ∃ (l:Nat) (ob:Ob) (zs:List Cl) (xs:List AV) (st1 st2:List Ob),BZ s.env 0 = .pin (.lp l 0 0) (.pointer (some ⟨b,0,none⟩))∧CO s.st l=some ob∧ob.ty=ty∧ob.wr=true∧ob.xs = [zs]∧fzL s.st zs=some (cl',st1) ∧
  KI P s vars=some xs∧O6 st1 xs=some (rs,st2)∧CO st2 l=some ob
def AEn (P:Program) (vars:List ResultVar) (b:Nat) (ty:TypeId) (cl':List Cl) (rs:List AV) (e:Ex) (s:MS):Prop:=match e with
 | .exit _=>False
 | _=>wW P vars b ty cl' rs s
theorem og {w0:World} {fn:Func} {b:Nat} {ty:TypeId} {cl':List Cl} {rs:List AV} (hlt:b<w0.heap.size) (hs:Sim ⟨w0,fun x=>x=b,fun _=>Go.undef⟩ St0 s a w) (hp:wW P fn.results.toList b ty cl' rs s) :
  ∃ rv cs' St',(results fn a.tmps).run P w = .ok (Nc rv) w∧a.defers = []∧Below 0 w0 w∧(∀ k,k<w0.heap.size→k≠b→w.heap[k]?=w0.heap[k]?)∧(∀ b o,St0 b o→St' b o)∧(∀ b o,St' b o→b<w0.heap.size→St0 b o) ∧
   (∀ b o,St' b o→b<w.heap.size)∧w.heap[b]?=some (.cells cs' ty (0,0))∧(∀ k,k<w0.heap.size→Ui w k=Ui w0 k)∧(∀ (k:Nat) (c:Cl),cl'[k]?=some c→∃ y,cs'[k]?=some y∧RdD w St' c y)∧RdAs w St' rs rv:=by
 obtain⟨St,β,h⟩:=hs
 obtain⟨l,ob,zs,xs,st1,st2,e0,hob,hty,hwr,hxs,hfz,hret,hfs,hob2⟩:=hp
 have he:=h.env 0
 rw[PU (by decide)] at he
 rw[e0] at he
 obtain⟨hl,hlive⟩:=Aw hob
 simp only[AVR,hl] at he
 obtain⟨he1,he2⟩:=he
 try rw[he1] at he2
 obtain⟨b',hβ,hu⟩:=he2 hlive
 have hb':b'=b:=by
  simp only[Value.pointer.injEq,ah,Addr.mk.injEq] at hu
  have:=hu
  omega
 subst hb'
 obtain⟨rv,h1,h2⟩:=Lc h fn.results.toList xs hret
 obtain⟨St1,q1,q2,q3,q4,q5⟩:=jB zs s.st cl' st1 St h hfz
 have h1':=AVRs.mono q2 (fun _ _ _=>rfl) q3 (LY fun l ob hl=>XD hfz hl) xs rv h1
 obtain⟨St2,r1,r2,r3⟩:=MO xs rs st1 st2 St1 q1 hfs
 obtain⟨_,_,cs,g1,g2,g3⟩:=h.obs l ob b' hl hlive hβ
 obtain⟨hl2,hlive2⟩:=Aw hob2
 have hno:∀ o,¬ St2 b' o:=fun o ho=>by
  have:=(r1.sep l ob b' o hl2 hlive2 hβ ho).1
  rw[hwr] at this; cases this
 refine⟨rv,cs,St2, ?_,h.defers,h.below.rest,fun k hk hne=>h.below.blk k hk hne,fun b o hbo=>r2 b o (q2 b o (h.st0 b o hbo)),fun b o hbo hlt=>r1.stOld b o hbo hlt (fun e=>hno o (by have e:b=b':=e; rw[← e]; exact hbo)),r1.stIn,by rw[← hty]; exact g1,h.below.siz,fun k c hk=>?_,r3 rv h1'⟩
 ·rw[La,Sem.run_bind,aaZ,Sem.run_map,h2]
  simp only[Result.andThen_ok,Sem.run_pure]
  congr 1
  match rv with
  | []=>rfl
  | [u]=>rfl
  | u::u2::us=>simp[Nc]
 ·obtain⟨d,hd1,hd2⟩:=q5 k c hk
  obtain⟨y,hy,hr⟩:=g3 k d (by rw[hxs]; simpa using hd1)
  exact⟨y,hy,RdD.mono r2 (fun _ _ _=>rfl) _ _ (hd2 y hr)⟩
theorem PCtr.mk {f:FuncId} {fn:Func} {c:Code} {ty:TypeId} {cl cl':List Cl} {args rs:List AV} (hin:CallsIn P f) (hf:P.funcs[f]?=some fn) (hb:fn.body=some c) (hm:P.follows .mixedOrders=true) {n:Nat} (hn:fn.ntmps=n) {vars:Array ResultVar} (hvars:fn.results=vars) (hc:codeOk n c=true) (hlen0:(Nat.ble (args.length+1) n&&Nat.ble n 1000000)=true)
  (hlen':cl'.length=cl.length)
  (h:∀ b:Nat,Rq cl→ny args→vp P c ⟨n,(0,.pin (.lp 0 0 0) (.pointer (some ⟨b,0,none⟩)))::II args 1,[⟨ty,cl.length,[cl],true,true⟩]⟩ (AEn P vars.toList b ty cl' rs)):PCtr P f ty cl args cl' rs:=by
 subst hn
 subst hvars
 obtain⟨hlen0,hlim0⟩:=abg.1 hlen0
 have hlim:fn.ntmps≤1000000:=zy hlim0
 have hlen:args.length+1≤fn.ntmps:=zy hlen0
 refine⟨hin,hlen',fun w St b cs vs hSt hcs hno hcl hvs=>?_⟩
 obtain⟨hvl,hva⟩:=Qe hvs
 have hbl:b<w.heap.size:=by
  rcases bI b w.heap.size with h' | h'
  ·exact h'
  ·rw[Array.getElem?_eq_none h'] at hcs; cases hcs
 have hwf:Rq cl:=Rt cl fun k c hk=>by
  obtain⟨y,_,hr⟩:=hcl k c hk
  exact RdD.wf c y hr
 have hst0:∀ (l:Nat) (ob:Ob),[(⟨ty,cl.length,[cl],true,true⟩:Ob)][l]?=some ob→l=0∧ob=⟨ty,cl.length,[cl],true,true⟩:=fun l ob hl=>by
  cases l with
  | zero=>simp only[aB,ah] at hl; exact⟨rfl,hl.symm⟩
  | succ l=>simp at hl
 have hcore:Core ⟨w,fun x=>x=b,fun _=>Go.undef⟩ St St (fun l=>if l=0 then some b else none) ⟨fn.ntmps,(0,.pin (.lp 0 0 0) (.pointer (some ⟨b,0,none⟩)))::II args 1,[⟨ty,cl.length,[cl],true,true⟩]⟩
   { tmps:=(Value.pointer (some ⟨b,0,none⟩)::vs).toArray++Array.replicate (fn.ntmps-(Value.pointer (some ⟨b,0,none⟩)::vs).toArray.size) Go.undef,defers:=[] } w:={
  defers:=rfl
  size:=by simp; omega
  lim:=hlim
  env:=fun i=>by
   rw[X6 (by simp; omega) rfl]
   cases i with
   | zero =>
    have:((Value.pointer (some ⟨b,0,none⟩)::vs).toArray++Array.replicate (fn.ntmps-(Value.pointer (some ⟨b,0,none⟩)::vs).toArray.size) Go.undef).getD 0 Go.undef=Value.pointer (some ⟨b,0,none⟩):=by
     simp only[aaw]
     rw[zx (by simp)]
     simp
    rw[this]
    simp only[BZ,bD,AVR,aB]
    exact⟨by first | trivial | rfl,fun _=>⟨b,by simp,by simp⟩⟩
   | succ i =>
    have e0:BZ ((0,AV.pin (.lp 0 0 0) (.pointer (some ⟨b,0,none⟩)))::II args 1) (i+1)=args.getD i .un:=by
     simp only[BZ,JY]
     have h1:¬ 0=i+1:=by omega
     have h2:1≤i+1:=by omega
     simp only[h1,h2,aT,bD,Nat.add_sub_cancel]
    rw[e0]
    rcases bI i args.length with hi | hi
    ·obtain⟨u,hu,hr⟩:=hva i args[i] (by simp[hi])
     have e1:args.getD i .un=args[i]:=by simp[hi]
     have e2:((Value.pointer (some ⟨b,0,none⟩)::vs).toArray++Array.replicate (fn.ntmps-(Value.pointer (some ⟨b,0,none⟩)::vs).toArray.size) Go.undef).getD (i+1) Go.undef=u:=by
      have hiv:i<vs.length:=by omega
      simp only[aaw]
      rw[zx (by simpa using hiv)]
      simp[hu]
     rw[e1,e2]
     exact hr.toAVR
    ·have e1:args.getD i .un = .un:=by simp[hi]
     rw[e1]
     simp only[AVR]
  below:=BelowB.refl _ _
  st0:=fun _ _ h=>h
  stOld:=fun _ _ h _ _=>h
  stIn:=hSt
  obs:=fun l ob b2 hl hlive hβ=>by
   obtain⟨rfl,rfl⟩:=hst0 l ob hl
   simp only[bD,ah] at hβ
   subst hβ
   refine⟨.inr rfl,hbl,cs,hcs,by simp,fun k c hk=>?_⟩
   simp only[bT,Zh,bF] at hk
   obtain⟨y,hy,hr⟩:=hcl k c hk
   exact⟨y,hy,hr.toC.toB⟩
  nil:=fun l ob hl hlive hβ=>by
   obtain⟨rfl,rfl⟩:=hst0 l ob hl
   simp at hβ
  inj:=fun l l' ob ob' b2 hl hl' _ _ _ _=>by
   obtain⟨rfl,_⟩:=hst0 l ob hl
   obtain⟨rfl,_⟩:=hst0 l' ob' hl'
   rfl
  sep:=fun l ob b2 o hl hlive hβ hbo=>by
   obtain⟨rfl,rfl⟩:=hst0 l ob hl
   simp only[bD,ah] at hβ
   subst hβ
   exact absurd hbo (hno o)
  own:=by
   refine⟨fun _ _ _=>False,fun l ob b2 k c hl hlive hβ hk hcw=>?_,fun _ _ _ h=>h.elim,fun _ _ _ _ _ h=>h.elim⟩
   obtain⟨rfl,rfl⟩:=hst0 l ob hl
   simp only[bT,Zh,bF] at hk
   obtain⟨y,_,hr⟩:=hcl k c hk
   rw[(hr.toC (st:=[]) (β:=fun _=>none)).notOw] at hcw
   cases hcw }
 refine calls_of_wp hf hb (wp_mono (eG (w0:=⟨w,fun x=>x=b,fun _=>Go.undef⟩) (St0:=St) hm fn.ntmps c hc _ _ _ w rfl (h b hwf hvs.wf) ⟨St,_,hcore⟩) ?_)
 rintro e a' w' ⟨ex,s',rfl,hq,_,hs'⟩
 cases ex with
 | exit i=>exact hq.elim
 | normal =>
  obtain⟨rv,cs',St',p1,p2,p3⟩:=og hbl hs' hq
  exact⟨p2,_,p1,rv,cs',St',rfl,p3⟩
 | ret =>
  obtain⟨rv,cs',St',p1,p2,p3⟩:=og hbl hs' hq
  exact⟨p2,_,p1,rv,cs',St',rfl,p3⟩
end Go.Vm
