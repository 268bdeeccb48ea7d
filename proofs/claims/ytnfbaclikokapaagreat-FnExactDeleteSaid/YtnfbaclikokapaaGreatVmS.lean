/- A part. -/
import Derived.Test.YtnfbaclikokapaaGreatVmQ
set_option linter.unusedSimpArgs false
set_option linter.unusedVariables false
namespace Go.Vm
open Go.RowKit
variable {P:Program} {w0:Bs} {St0 St:Nat→Nat→Prop} {β:Nat→Option Nat} {s:MS} {a:Act} {w:World}
def jP (ops:Array Oper) (env:List (Nat×AV)) (g:Option (Nat×Bool)):Option Bool:=match g with
 | none=>some true
 | some (j,want)=>match (ops[j]?).bind (·.dst) with
  | some d=>match (if d<1000000 then BZ env d else .un) with
   | .c (.v (.bool t))=>some (t==want)
   | .undef=>some false
   | _=>none
  | none=>some false
theorem jQ (h:Core w0 St0 St β s a w) {ops:Array Oper} {o:Oper} {b:Bool} (hg:jP ops s.env o.guard=some b):Region.wanted o (yielded ops a.tmps)=b:=by
 unfold jP at hg
 unfold Region.wanted
 split at hg
 ·grind
 ·rename_i j want hn
  simp only[hn]
  unfold yielded
  split at hg
  ·rename_i d hd
   rw[hd]
   have henv:AVR w St s.st β (if d<1000000 then BZ s.env d else .un) (a.tmps.getD d undef):=by
    split
    ·have:=h.env d
     rwa [PU ‹_›] at this
    ·simp only[AVR]
   split at hg
   ·rename_i t hev
    simp only[ah] at hg
    subst hg
    rw[hev] at henv
    obtain⟨hv,_⟩:=Nb henv
    have hlt:d<a.tmps.size:=by
     rcases bI d a.tmps.size with h' | h'
     ·exact h'
     ·simp[h',undef] at hv
    simp_all
   ·rename_i hev
    simp only[ah] at hg
    subst hg
    rw[hev] at henv
    simp only[AVR] at henv
    simp only[abu]
    cases hq:a.tmps[d]? with
    | none=>simp
    | some v =>
     have:v=undef:=by simpa [hq] using henv
     subst this
     simp[undef]
   ·cases hg
  grind
def CondK (b:Bool) (x y:Prop):Prop:=(b=true→x)∧(b=false→y)
theorem JX {x y:Prop}:CondK true x y=x:=by simp[CondK]
theorem Jv {x y:Prop}:CondK false x y=y:=by simp[CondK]
theorem CondK.mk {b:Bool} {x y:Prop} (h1:b=true→x) (h2:b=false→y):CondK b x y:=⟨h1,h2⟩
def Q9 (x:Option (AV×List Ob)) (K:AV→List Ob→Prop):Prop:=match x with
 | some (y,st)=>K y st
 | none=>False
def oH (x:Option (List AV×List Ob)) (K:List AV→List Ob→Prop):Prop:=match x with
 | some (y,st)=>K y st
 | none=>False
def Q_ (x:Option Bool) (K:Bool→Prop):Prop:=match x with
 | some b=>K b
 | none=>False
def wM (x:AV) (K:Bool→Prop):Prop:=match x with
 | .c (.v (.bool b))=>K b
 | _=>False
theorem tV {y:AV} {st:List Ob} {K:AV→List Ob→Prop}:Q9 (some (y,st)) K=K y st:=rfl
theorem tX {y:List AV} {st:List Ob} {K:List AV→List Ob→Prop}:oH (some (y,st)) K=K y st:=rfl
theorem tY {b:Bool} {K:Bool→Prop}:Q_ (some b) K=K b:=rfl
theorem tZ {b:Bool} {K:Bool→Prop}:wM (.c (.v (.bool b))) K=K b:=rfl
def DrK (P:Program) (s:MS) (o:Op) (K:AV→Prop):Prop:=∃ r,Bj P s o r∧K r
def oI (s:MS) (dst:Option Nat) (K:MS→Prop) (r:AV):Prop:=K (s.put dst r)
def gD (P:Program) (o:Oper) (K:MS→Prop) (s:MS) (b:Bool):Prop:=CondK b (DrK P s o.op (oI s o.dst K)) (K (s.put o.dst .undef))
theorem ACq {P:Program} {o:Oper} {K:MS→Prop} {s:MS}:gD P o K s true=DrK P s o.op (oI s o.dst K):=JX
theorem ABA {P:Program} {o:Oper} {K:MS→Prop} {s:MS}:gD P o K s false=K (s.put o.dst .undef):=Jv
theorem gD.mk {P:Program} {o:Oper} {K:MS→Prop} {s:MS} {b:Bool} (h1:b=true→DrK P s o.op (oI s o.dst K)) (h2:b=false→K (s.put o.dst .undef)):gD P o K s b:=CondK.mk h1 h2
def vpD (P:Program) (ops:Array Oper) (K:MS→Prop):List Oper→MS→Prop
 | [],s=>K s
 | o::rest,s=>Q_ (jP ops s.env o.guard) (gD P o (vpD P ops K rest) s)
def BO (o:Oper) (i:Nat):Bool:=o.after.any fun e=>e.on==i&&Region.binds .any e
def Pj (ops:Array Oper) (o:Oper):List Nat:=
 (o.op.operands.toList.filterMap fun x=>match x with | .tmp t=>some t | _=>none)++(match o.guard with | some (j,_)=>((ops[j]?).bind (·.dst)).toList | none=>[])
def Tf (ops:Array Oper) (i j:Nat):Bool:=match ops[i]?,ops[j]? with
 | some oi,some oj=>match oi.dst with
  | some d=>(i==j||oj.dst != some d)&&(i==j || !(Pj ops oj).contains d||(if i<j then BO oj i else BO oi j))
  | none=>true
 | _,_=>true
def Eo (n:Nat) (ops:Array Oper):Bool:=
 ((List.range ops.size).all fun i=>(List.range ops.size).all fun j=>Tf ops i j) &&
 ((List.range ops.size).all fun i=>match ops[i]? with | some o=>(o.after.all fun e=>!Region.binds .any e||e.on<i)&&(match o.dst with | some d=>d<n | none=>true) | none=>true)
theorem Core.congr (h:Core w0 St0 St β s a w) {s':MS} (hn:s'.n=s.n) (hst:s'.st=s.st) (he:∀ t,BZ s'.env t=BZ s.env t):Core w0 St0 St β s' a w:={
 defers:=h.defers
 size:=by rw[hn]; exact h.size
 lim:=by rw[hn]; exact h.lim
 env:=fun i=>by rw[he,hst]; exact h.env i
 below:=h.below,st0:=h.st0,stOld:=h.stOld,stIn:=h.stIn
 obs:=by rw[hst]; exact h.obs
 nil:=by rw[hst]; exact h.nil
 inj:=by rw[hst]; exact h.inj
 sep:=by rw[hst]; exact h.sep
 own:=by rw[hst]; exact h.own }
section draw
variable (ops:Array Oper) (R:Nat→AV)
def BV (env:List (Nat×AV)) (X:Nat→Bool):Nat→List (Nat×AV)
 | 0=>env
 | k+1=>match (ops[k]?).bind (·.dst) with
  | some d=>if X k then(d,R k)::BV env X k else BV env X k
  | none=>BV env X k
variable {ops R}
theorem Eb {env:List (Nat×AV)} {X:Nat→Bool} (hd:∀ (i j d:Nat),(ops[i]?).bind (·.dst)=some d→(ops[j]?).bind (·.dst)=some d→i=j) {i d:Nat} (hi:(ops[i]?).bind (·.dst)=some d) (hX:X i=true) :
  ∀ k,i<k→BZ (BV ops R env X k) d=R i
 | 0,h=>by omega
 | k+1,h=>by
  simp only[BV]
  rcases bI i k with h' | h'
  ·have ih:=Eb (env:=env) (X:=X) hd hi hX k h'
   split
   ·rename_i d' hk
    split
    ·simp only[BZ]
     by_cases e:d'=d
     ·subst e
      have:=hd i k d' hi hk
      omega
     ·simp only[e,aT]; exact ih
    ·exact ih
   ·exact ih
  ·have:i=k:=by omega
   subst this
   simp only[hi,hX,bD,BZ]
theorem BM {env:List (Nat×AV)} {X:Nat→Bool} {d:Nat}:∀ k,(∀ (i:Nat),i<k→(ops[i]?).bind (·.dst)=some d→X i=false)→BZ (BV ops R env X k) d=BZ env d
 | 0,_=>rfl
 | k+1,hm=>by
  have ih:=BM (env:=env) (X:=X) k (fun i hi=>hm i (by omega))
  simp only[BV]
  split
  ·rename_i d' hk
   split
   ·rename_i hx
    simp only[BZ]
    by_cases e:d'=d
    ·subst e
     have:=hm k (by omega) hk
     rw[hx] at this; cases this
    ·simp only[e,aT]; exact ih
   ·exact ih
  ·exact ih
end draw
theorem Vu {n:Nat} {ops:Array Oper} (h:Eo n ops=true) {i j:Nat} (hi:i<ops.size) (hj:j<ops.size):Tf ops i j=true:=by
 simp only[Eo,ak] at h
 grind
theorem YE {n:Nat} {ops:Array Oper} (h:Eo n ops=true):∀ (i j d:Nat),(ops[i]?).bind (·.dst)=some d→(ops[j]?).bind (·.dst)=some d→i=j:=by
 intro i j d hi hj
 cases hoi:ops[i]? with
 | none=>grind
 | some oi =>
  cases hoj:ops[j]? with
  | none=>grind
  | some oj =>
   simp only[hoi,hoj,abu] at hi hj
   have:=Vu h (bH.1 hoi).1 (bH.1 hoj).1
   simp only[Tf,hoi,hoj,hi,ak,sV,ZZ,bne_iff_ne] at this
   grind
theorem MR {n:Nat} {ops:Array Oper} (h:Eo n ops=true) {i j d:Nat} {oi oj:Oper} (hoi:ops[i]?=some oi) (hoj:ops[j]?=some oj) (hd:oi.dst=some d) (hr:d∈Pj ops oj) (hne:i≠j) :
  (i<j→BO oj i=true)∧(j<i→BO oi j=true):=by
 have:=Vu h (bH.1 hoi).1 (bH.1 hoj).1
 simp only[Tf,hoi,hoj,hd,ak,sV,ZZ,bne_iff_ne] at this
 grind
theorem E_ {n:Nat} {ops:Array Oper} (h:Eo n ops=true) {i:Nat} {o:Oper} (ho:ops[i]?=some o):(∀ e∈o.after,Region.binds .any e=true→e.on<i)∧∀ d,o.dst=some d→d<n:=by
 simp only[Eo,ak] at h
 grind [aF,bH,Array.all_eq_true']
theorem CX {o:Oper} {i:Nat} {listed:Array Bool} (h:BO o i=true) (hall:∀ e∈o.after,Region.binds .any e=true→listed.getD e.on false=true):listed.getD i false=true:=by
 unfold BO at h
 grind
theorem YF {n:Nat} {ops:Array Oper} {K:MS→Prop} (hok:Eo n ops=true) (hn:s.n=n):∀ (l:List Oper) (k:Nat) (R0:Nat→AV),(∀ j,l[j]?=ops[k+j]?)→k+l.length=ops.size →
  vpD P ops K l ⟨s.n,BV ops R0 s.env (fun i=>decide (i<k)) k,s.st⟩ →
  ∃ R:Nat→AV,(∀ i,i<k→R i=R0 i)∧K ⟨s.n,BV ops R s.env (fun _=>true) ops.size,s.st⟩ ∧
   ∀ (i:Nat) (o:Oper),k≤i→ops[i]?=some o→∃ b,jP ops (BV ops R s.env (fun _=>true) i) o.guard=some b∧(b=true→Bj P ⟨s.n,BV ops R s.env (fun _=>true) i,s.st⟩ o.op (R i))∧(b=false→R i = .undef)
 | [],k,R0,hl,hk,h=>by
  simp only[X5,abB] at hk
  simp only[vpD] at h
  refine⟨R0,fun _ _=>rfl, ?_,fun i o hi ho=>?_⟩
  ·have key:∀ m,m≤k→BV ops R0 s.env (fun i=>decide (i<k)) m=BV ops R0 s.env (fun _=>true) m:=by
    intro m
    induction m with
    | zero=>intro _; rfl
    | succ m ih =>
     intro hm
     have hmk:m<k:=by omega
     simp only[BV,ih (by omega),hmk,decide_true]
   grind
  grind
 | o::l,k,R0,hl,hk,h=>by
  have ho:ops[k]?=some o:=by simpa using(hl 0).symm
  have key:∀ (R1:Nat→AV) (m:Nat),m≤k→BV ops R1 s.env (fun i=>decide (i<k)) m=BV ops R1 s.env (fun _=>true) m:=by
   intro R1 m
   induction m with
   | zero=>intro _; rfl
   | succ m ih =>
    intro hm
    have hmk:m<k:=by omega
    simp only[BV,ih (by omega),hmk,decide_true]
  have keyR:∀ (R1 R2:Nat→AV) (m:Nat),(∀ i,i<m→R1 i=R2 i)→BV ops R1 s.env (fun _=>true) m=BV ops R2 s.env (fun _=>true) m:=by
   intro R1 R2 m
   induction m with
   | zero=>intro _; rfl
   | succ m ih =>
    intro hm
    simp only[BV,ih (fun i hi=>hm i (by omega)),hm m (by omega)]
  simp only[vpD,Q_,gD,oI] at h
  have step:∀ r:AV,vpD P ops K l (MS.put ⟨s.n,BV ops R0 s.env (fun i=>decide (i<k)) k,s.st⟩ o.dst r) →
    ∃ R:Nat→AV,(∀ i,i<k→R i=R0 i)∧R k=r∧K ⟨s.n,BV ops R s.env (fun _=>true) ops.size,s.st⟩ ∧
     ∀ (i:Nat) (o:Oper),k+1≤i→ops[i]?=some o→∃ b,jP ops (BV ops R s.env (fun _=>true) i) o.guard=some b∧(b=true→Bj P ⟨s.n,BV ops R s.env (fun _=>true) i,s.st⟩ o.op (R i))∧(b=false→R i = .undef):=by
   intro r hr
   have e1:MS.put ⟨s.n,BV ops R0 s.env (fun i=>decide (i<k)) k,s.st⟩ o.dst r=⟨s.n,BV ops (fun i=>if i=k then r else R0 i) s.env (fun i=>decide (i<k+1)) (k+1),s.st⟩:=by
    have key2:∀ m,m≤k→BV ops (fun i=>if i=k then r else R0 i) s.env (fun i=>decide (i<k+1)) m=BV ops R0 s.env (fun i=>decide (i<k)) m:=by
     intro m
     induction m with
     | zero=>intro _; rfl
     | succ m ih =>
      intro hm
      have h1:m<k:=by omega
      have h2:m<k+1:=by omega
      have h3:¬ m=k:=by omega
      simp only[BV,ih (by omega),h1,h2,h3,decide_true,aT]
    simp only[BV,ho,abu,key2 k (aN _)]
    cases hd:o.dst with
    | none=>simp only[MS.put]
    | some d =>
     have:=(E_ hok ho).2 d hd
     have h2:k<k+1:=by omega
     simp[MS.put,hn,this,h2]
   rw[e1] at hr
   obtain⟨R,h1,h2,h3⟩:=YF hok hn l (k+1) _ (fun j=>by
    have:=hl (j+1)
    grind) (by grind) hr
   exact⟨R,fun i hi=>by grind,by grind,h2,h3⟩
  split at h
  ·rename_i b hb
   cases b with
   | true =>
    obtain⟨r,hr1,hr2⟩:=h.1 rfl
    obtain⟨R,h1,h2,h3,h4⟩:=step r hr2
    grind
   | false =>
    obtain⟨R,h1,h2,h3,h4⟩:=step _ (h.2 rfl)
    grind
  grind
theorem Sim.congr {s s':MS} (h:Sim w0 St0 s a w) (hn:s'.n=s.n) (hst:s'.st=s.st) (he:∀ t,BZ s'.env t=BZ s.env t):Sim w0 St0 s' a w:=by
 obtain⟨St,β,h⟩:=h
 exact⟨St,β,h.congr hn hst he⟩
theorem U7 {ops:Array Oper} {env env':List (Nat×AV)} {o:Oper} (h:∀ t∈Pj ops o,BZ env' t=BZ env t):jP ops env' o.guard=jP ops env o.guard:=by
 unfold jP
 split
 ·rfl
 ·rename_i j want hg
  split
  ·rename_i d hd
   rw[h d (by simp only[Pj,hg,hd,Option.toList]; simp)]
  ·rfl
theorem Hg {listed:Array Bool} {i j:Nat} (hi:i<listed.size):(listed.setIfInBounds i true).getD j false=if i=j then true else listed.getD j false:=by
 by_cases e:i=j
 ·simp_all
 simp_all
theorem Jw {ops:Array Oper} (h:(ops.toList.all fun o=>o.op.operands.toList.all Ar)=true) {i:Nat} {o:Oper} (ho:ops[i]?=some o):o.op.operands.toList.all Ar=true:=
 aF.1 h o (by
  grind)
theorem ABC {ops:Array Oper} {n:Nat} (hok:Eo n ops=true) (hops:(ops.toList.all fun o=>o.op.operands.toList.all Ar)=true) (env:List (Nat×AV)) (st:List Ob) (R:Nat→AV)
  (hR:∀ (i:Nat) (o:Oper),ops[i]?=some o→∃ b,jP ops (BV ops R env (fun _=>true) i) o.guard=some b∧(b=true→Bj P ⟨n,BV ops R env (fun _=>true) i,st⟩ o.op (R i))∧(b=false→R i = .undef))
  (Q:Exit→Act→World→Prop) (hQ:∀ a w,Sim w0 St0 ⟨n,BV ops R env (fun _=>true) ops.size,st⟩ a w→Q .normal a w) :
  ∀ (fuel:Nat) (listed:Array Bool) (a:Act) (w:World),listed.size=ops.size→listed.toList.countP (fun b=>!b)≤fuel →
   (∀ (i:Nat) (o:Oper),listed.getD i false=true→ops[i]?=some o→∀ e∈o.after,Region.binds .any e=true→listed.getD e.on false=true) →
   Sim w0 St0 ⟨n,BV ops R env (fun i=>listed.getD i false) ops.size,st⟩ a w→wpAny P .any ops Q fuel listed a w:=by
 have hdst:=YE hok
 have hall:∀ (listed:Array Bool) (a:Act) (w:World),(∀ i,i<ops.size→listed.getD i false=true)→Sim w0 St0 ⟨n,BV ops R env (fun i=>listed.getD i false) ops.size,st⟩ a w→Q .normal a w:=by
  intro listed a w hl hs
  refine hQ a w (hs.congr rfl rfl fun t=>?_)
  have key:∀ m,m≤ops.size→BV ops R env (fun _=>true) m=BV ops R env (fun i=>listed.getD i false) m:=by
   intro m
   induction m with
   | zero=>intro _; rfl
   | succ m ih=>intro hm; simp only[BV,ih (by omega),hl m (by omega)]
  rw[key ops.size (aN _)]
 have hready:∀ (listed:Array Bool),Region.ready .any ops listed = []→listed.size=ops.size→∀ i,i<ops.size→listed.getD i false=true:=by
  intro listed hr hsz i
  induction i using Nat.strongRecOn with
  | _ i ih =>
   intro hi
   cases hc:listed.getD i false with
   | true=>rfl
   | false =>
    exfalso
    have:i∈Region.ready .any ops listed:=by
     rw[mem_ready]
     refine⟨?_,ops[i],by simp[hi],fun e he hb=>?_⟩
     ·grind
     ·have:=(E_ hok (i:=i) (o:=ops[i]) (by simp[hi])).1 e he hb
      grind
    grind
 intro fuel
 induction fuel with
 | zero =>
  intro listed a w hsz hcnt hcl hs
  have hl:∀ i,i<ops.size→listed.getD i false=true:=by
   intro i hi
   have h0:listed.toList.countP (fun b=>!b)=0:=by omega
   rw[List.countP_eq_zero] at h0
   have hi':i<listed.size:=by omega
   have:=h0 listed[i] (by simp)
   simp[hi'] at this ⊢
   exact this
  refine⟨?_,hall listed a w hl hs⟩
  apply List.eq_nil_iff_forall_not_mem.2
  grind [mem_ready,bH]
 | succ fuel ih =>
  intro listed a w hsz hcnt hcl hs
  refine⟨fun hr=>hall listed a w (hready listed hr hsz) hs,fun i hi=>?_⟩
  rw[mem_ready] at hi
  obtain⟨hun,o,ho,hafter⟩:=hi
  have hi':i<ops.size:=(bH.1 ho).1
  have hi2:i<listed.size:=by omega
  have hun':listed.getD i false=false:=by
   simp[hi2] at hun ⊢
   exact hun
  have hread:∀ t∈Pj ops o,BZ (BV ops R env (fun i=>listed.getD i false) ops.size) t=BZ (BV ops R env (fun _=>true) i) t:=by
   intro t ht
   by_cases hj:∃ (j:Nat),(ops[j]?).bind (·.dst)=some t
   ·obtain⟨j,hj⟩:=hj
    cases hoj:ops[j]? with
    | none=>grind
    | some oj =>
     have hjd:oj.dst=some t:=by simpa [hoj] using hj
     have hjs:j<ops.size:=(bH.1 hoj).1
     rcases Nat.lt_trichotomy j i with h1 | h1 | h1
     ·have hb:=(MR hok hoj ho hjd ht (by omega)).1 h1
      grind [CX,Eb]
     ·grind [BM]
     ·have hb:=(MR hok hoj ho hjd ht (by omega)).2 h1
      grind [CX,BM]
   ·grind [BM]
  obtain⟨b,hb1,hb2,hb3⟩:=hR i o ho
  rw[← U7 hread] at hb1
  obtain⟨St,β,hcore⟩:=hs
  have hwant:=jQ hcore (o:=o) hb1
  have hnext:∀ (r:AV) (a':Act) (w':World),r=R i→Sim w0 St0 (MS.put ⟨n,BV ops R env (fun i=>listed.getD i false) ops.size,st⟩ o.dst r) a' w'→wpAny P .any ops Q fuel (listed.setIfInBounds i true) a' w':=by
   intro r a' w' hr hsim
   subst hr
   refine ih _ a' w' (by grind) ?_ ?_ ?_
   ·have hset:(listed.setIfInBounds i true).toList=listed.toList.set i true:=by simp
    rw[hset,List.countP_set (by omega)]
    have hv:listed.toList[i]'(by omega)=false:=by simpa [hi2] using hun'
    grind
   ·grind [Hg,ah]
   ·refine hsim.congr ?_ ?_ fun t=>?_
    ·cases o.dst<;>simp[MS.put]; split<;>rfl
    ·cases o.dst<;>simp[MS.put]; split<;>rfl
    ·have hX:(fun j=>(listed.setIfInBounds i true).getD j false)=fun j=>if i=j then true else listed.getD j false:=funext fun j=>Hg hi2
     rw[hX]
     cases hd:o.dst with
     | none =>
      simp only[MS.put]
      by_cases hj:∃ (j:Nat),(ops[j]?).bind (·.dst)=some t
      ·grind [bH,Eb,BM]
      grind [BM]
     | some d =>
      have hdn:=(E_ hok ho).2 d hd
      have hid:(ops[i]?).bind (·.dst)=some d:=by simp[ho,hd]
      simp only[MS.put,hdn,bD,BZ]
      grind [Eb,bH,rC,BM]
  unfold wpOp
  simp only[ho,hwant]
  cases b with
  | true =>
   simp only[bD]
   left
   have hstep:=OQ (P:=P) (s:=⟨n,BV ops R env (fun _=>true) i,st⟩) (s':=⟨n,BV ops R env (fun i=>listed.getD i false) ops.size,st⟩) rfl o.op (fun t ht=>hread t (by
    simp only[Pj,yU]
    grind)) (R i) (hb2 rfl)
   exact Oper.wp_mono (fun a' w' hs=>hnext (R i) a' w' rfl hs) (U6 hcore o (Jw hops ho) hstep Q)
  | false =>
   simp only[aC,aT]
   refine hnext .undef _ _ (hb3 rfl).symm ⟨St,β,hcore.put o.dst ?_⟩
   simp only[AVR]
theorem oJ {ops:Array Oper} (hok:Eo s.n ops=true) (hops:(ops.toList.all fun o=>o.op.operands.toList.all Ar)=true) (h:Core w0 St0 St β s a w) {K:MS→Prop} (hK:vpD P ops K ops.toList s) :
  wpAny P .any ops (fun e a' w'=>e = .normal∧∃ s',K s'∧s'.n=s.n∧Sim w0 St0 s' a' w') ops.size (Array.replicate ops.size false) a { w with drawn:=w.drawn+1 }:=by
 obtain⟨R,_,hKs,hR⟩:=YF (K:=K) hok rfl ops.toList 0 (fun _=>.un) (fun j=>by simp) (by simp) (by simpa [BV] using hK)
 have hgrow:Core w0 St0 St β s a { w with drawn:=w.drawn+1 }:=h.grow (w':={ w with drawn:=w.drawn+1 }) ⟨rfl,rfl,rfl,aN _,fun _ _=>rfl⟩ (fun _ _ h=>h) (fun _ _ h _=>h) h.stIn
 refine ABC (P:=P) (n:=s.n) hok hops s.env s.st R (fun i o ho=>hR i o (ax _) ho) _ (fun a w hs=>⟨rfl,_,hKs,rfl,hs⟩) ops.size (Array.replicate ops.size false) a _ (by simp) ?_ ?_ ?_
 ·grind [List.countP_le_length]
 ·intro i o hi
  have:(Array.replicate ops.size false).getD i false=false:=by
   simp[aa1]
   split<;>rfl
  grind
 ·refine⟨St,β,hgrow.congr rfl rfl fun t=>?_⟩
  rw[BM ops.size (fun k _ _=>by simp_all)]
end Go.Vm
