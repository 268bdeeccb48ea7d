/- A part. -/
import Derived.Test.YtnoldekcdlaahaaGreatVmJ
set_option linter.unusedSimpArgs false
set_option linter.unusedVariables false
namespace Go.Vm
open Go.RowKit
variable {P:Program} {w0:Bs} {St0 St:Nat→Nat→Prop} {β:Nat→Option Nat} {s:MS} {a:Act} {w:World}
def Ld (P:Program) (s:MS) (T:TypeId) (len:Nat) (ps:List (Nat×Operand)):Option (AV×List Ob):=match EO P T with
 | some e=>match Ae P e,VQ P e,VU (Ih s ps) 0 ((Ae P e).getD 0) with
  | some n,some zs,some rows=>if rows.length=len∧zs.length=n∧0<n∧len*n≤16777216 then some (.c (.ref s.st.length),s.st ++ [⟨e,n,rows,true,true⟩]) else none
  | _,_,_=>none
 | none=>none
theorem XG (h:Core w0 St0 St β s a w):∀ (ps:List (Nat×Operand)),ps.all (fun p=>Au p.2)=true→∀ (j:Nat) (p:Nat×AV),(Ih s ps)[j]?=some p →
  ∃ q:Nat×Value,(ps.map fun x=>(x.1,a.eval x.2))[j]?=some q∧q.1=p.1∧AVR w St s.st β p.2 q.2
 | [],_,j,p,hj=>by simp[Ih] at hj
 | q::ps,hc,j,p,hj=>by
  simp only[bC,ay] at hc
  simp only[Ih] at hj
  cases j with
  | zero =>
   simp only[aQ,ak] at hj
   subst hj
   exact⟨_,rfl,rfl,Cj h q.2 hc.1⟩
  | succ j =>
   simp only[aaN] at hj
   simpa using XG h ps hc.2 j p hj
theorem dR (ps:List (Nat×Operand)):(Ih s ps).length=ps.length:=by
 induction ps with
 | nil=>rfl
 | cons p ps ih=>simp[Ih,ih]
theorem kT:∀ (ps:List (Nat×AV)) (k n:Nat) (rows:List (List Cl)),VU ps k n=some rows→rows.length=ps.length∧∀ x∈rows,x.length=n
 | [],k,n,rows,h=>by simp[VU] at h; subst h; simp
 | (i,x)::ps,k,n,rows,h=>by
  simp only[VU] at h
  split at h
  ·rename_i cs rs hcs hrs
   split at h
   ·rename_i hik
    simp only[ak] at h
    subst h
    obtain⟨h1,h2⟩:=kT ps (k+1) n rs hrs
    exact⟨by simp[h1],fun y hy=>by
     rcases dh.1 hy with rfl | hy
     ·exact hik.2
     ·exact h2 y hy⟩
   ·cases h
  ·cases h
theorem jQ (h:Core w0 St0 St β s a w) (o:Oper) (T:TypeId) (len:Nat) (ps:Array (Nat×Operand)) (ho:o.op = .buildSlice T len ps) (hc:ps.toList.all (fun p=>Au p.2)=true) {y:AV} {st':List Ob} (hy:Ld P s T len ps.toList=some (y,st')):Does P a w w0 St0 s o y st':=by
 unfold Ld at hy
 split at hy
 ·rename_i e hte
  have ht:=NJ hte
  split at hy
  ·rename_i n cs0 rows hs hz0 hrows
   obtain⟨zs,hz,_,rfl⟩:=Q4 hz0
   split at hy
   ·rename_i hcond
    obtain⟨hlen,hzl0,hn,hmax⟩:=hcond
    have hzl:zs.length=n:=AP5
    simp only[ak,bK] at hy
    obtain⟨rfl,rfl⟩:=hy
    rw[hs] at hrows
    simp only[aI] at hrows
    obtain⟨r1,r2⟩:=kT _ _ _ _ hrows
    obtain⟨z,hz1,hz2⟩:=VS hz w
    have hzs:z.cells.size=n:=by rw[← hzl,← hz2]; simp
    have hpl:=dR (s:=s) ps.toList
    let A:Array Value:=if len*n=0 then #[] else(Array.range (len*n)).map (z.cells[· % z.cells.size]!)
    have hAs:A.size=len*n:=by
     show (if len*n=0 then #[] else(Array.range (len*n)).map (z.cells[· % z.cells.size]!):Array Value).size=len*n
     split
     ·rename_i h0; simp[h0]
     ·simp
    obtain⟨B,b1,b2,_,_,b5⟩:=kS (w:=w) (St:=St) (β:=β) (st:=s.st) n hn (Ih s ps.toList) (ps.toList.map fun x=>(x.1,a.eval x.2)) 0 rows A (by simp[hpl]) (XG h ps.toList hc) hrows (by rw[hAs,← hlen,r1]; simp)
    simp only[Nat.zero_mul,uX] at b5
    obtain⟨β',q1,q2,q3⟩:=h.newCells e n rows B r2 b5
    refine⟨_,.slice (some ⟨w.heap.size,0,none⟩) len len,_,St,β', ?_,.inl rfl,q1, ?_⟩
    ·have hmap:(ps.map fun(x:Nat×Operand)=>(x.1,a.eval x.2)).toList=ps.toList.map fun x=>(x.1,a.eval x.2):=by simp
     have hnm:¬ (16777216<len*n):=AOh
     by_cases h0:len*n=0
     ·have hA0:A = #[]:=by show (if len*n=0 then #[] else _)=_; rw[bu h0]
      rw[hA0] at b1
      have h00:len=0∨n=0:=Nat.mul_eq_zero.1 h0
      simp only[execOp,ho,Instr.buildSlice,Sem.run_bind,run_underlying ht,Result.andThen_ok,Ig hs]
      have hr0:(Array.range 0).map (fun i=>(#[]:Array Value)[i%(#[]:Array Value).size]!) = #[]:=AOi
      simp only[gt_iff_lt,Nat.reducePow,h0,aX,aZ (Nat.not_lt_zero 16777216),Sem.run_bind,Sem.run_pure,Result.andThen_ok,hmap,hr0,b1,newRow,run_newObj,World.alloc_eq]
     ·have hA1:A=(Array.range (len*n)).map (z.cells[· % z.cells.size]!):=by show (if len*n=0 then #[] else _)=_; rw[aZ h0]
      rw[hA1] at b1
      simp only[execOp,ho,Instr.buildSlice,Sem.run_bind,run_underlying ht,Result.andThen_ok,Ig hs]
      simp only[gt_iff_lt,Nat.reducePow,aZ hnm,aZ h0,Sem.run_bind,hz1,Sem.run_pure,Result.andThen_ok,hmap,b1,newRow,run_newObj,World.alloc_eq]
    ·simp only[AVR,RdC,BN]
     rw[aY (aT _)]
     simp only[jP,aQ,q2]
     refine⟨rfl,fun _=>⟨len,B,by rw[hlen],AOh, ?_,alloc_at w _,by rw[b2,hAs]⟩⟩
     have:len≤len*n:=Nat.le_mul_of_pos_right _ hn
     simp only[maxLen]; omega
   ·cases hy
  ·cases hy
 ·cases hy
def UQ (P:Program) (s:MS) (T:TypeId) (ps:List (Nat×Operand)):Option (AV×List Ob):=match VQ P T with
 | some z=>match kR P T z (Ih s ps) with
  | some cs=>some (.agg cs,s.st)
  | none=>none
 | none=>none
theorem YK {T:TypeId} {fs:Array Field} (hu:P.underlying T=some (.struct fs)) {st:List Ob} (places:Array (Nat×Nat)) (hpl:∀ (i off:Nat) (ft:TypeId) (n:Nat),AC P T i=some (off,ft)→Ae P ft=some n→places[i]?=some (off,n)) :
  ∀ (ps:List (Nat×AV)) (vs:List (Nat×Value)) (F F':List Cl) (A:Array Value),
  vs.length=ps.length→(∀ (j:Nat) (p:Nat×AV),ps[j]?=some p→∃ q:Nat×Value,vs[j]?=some q∧q.1=p.1∧AVR w St st β p.2 q.2)→kR P T F ps=some F'→A.size=F.length →
  (∀ (k:Nat) (c:Cl),F[k]?=some c→∃ u,A.toList[k]?=some u∧RdC w St st β c u) →
  ∃ B:Array Value,Instr.fill (places[·]?) A vs=some B∧B.size=F'.length∧(∀ (k:Nat) (c:Cl),F'[k]?=some c→∃ u,B.toList[k]?=some u∧RdC w St st β c u)
 | [],vs,F,F',A,hl,_,hf,hA,hc=>by
  simp only[kR,ak] at hf
  subst hf
  have:vs = []:=aai APR
  subst this
  exact⟨A,rfl,hA,hc⟩
 | (i,x)::ps,vs,F,F',A,hl,hvs,hf,hA,hc=>by
  cases vs with
  | nil=>simp at hl
  | cons v vs =>
   obtain⟨q,hq1,hq2,hq3⟩:=hvs 0 (i,x) rfl
   simp only[aQ,ak] at hq1
   subst hq1
   obtain⟨vi,vv⟩:=v
   simp only at hq2 hq3
   subst hq2
   simp only[kR] at hf
   split at hf
   ·rename_i off ft cs hfi hcs
    split at hf
    ·rename_i n hn
     split at hf
     ·rename_i hcond
      obtain⟨hcl,hle⟩:=hcond
      obtain⟨c1,c2⟩:=Sv hq3 hcs
      have hvl:vv.cells.toList.length=n:=AOh
      have hvsz:vv.cells.size=n:=by simpa using hvl
      have hAl:A.toList.length=A.size:=AOi
      obtain⟨B,b1,b2,b3⟩:=YK hu places hpl ps vs _ F' (A.toList.take off++(vv.cells.toList++A.toList.drop (off+n))).toArray APR
       (fun j p hj=>by simpa using hvs (j+1) p (by simpa using hj)) hf (by simp only[abf,bn,bz,aaP]; omega)
       (fun k c hk=>by simpa using YJ hc hle hcl hvl c2 AOh k c hk)
      exact⟨B,by rw[kQ _ A vi off n vv vs (hpl vi off ft n hfi hn) hvsz AOh]; exact b1,b2,b3⟩
     ·cases hf
    ·cases hf
   ·cases hf
theorem run_places {fs:Array Field} (hall:∀ x∈fs.toList,∃ n,Ae P x.type=some n) (w:World) :
  (fs.mapM fun(f:Field)=>(do pure (f.offset,← sizeOf f.type):Sem (Nat×Nat))).run P w = .ok (fs.map fun f=>(f.offset,(Ae P f.type).getD 0)) w:=by
 rw[abl]
 have key:∀ (l:List Field),(∀ x∈l,∃ n,Ae P x.type=some n)→(l.mapM fun(f:Field)=>(do pure (f.offset,← sizeOf f.type):Sem (Nat×Nat))).run P w = .ok (l.map fun f=>(f.offset,(Ae P f.type).getD 0)) w:=by
  intro l
  induction l with
  | nil=>intro _; simp
  | cons x l ih =>
   intro hl
   obtain⟨n,hn⟩:=hl x AOi
   have:=ih (fun y hy=>hl y AP1)
   simp only[List.mapM_cons,Sem.run_bind,Ig hn,Result.andThen_ok,Sem.run_pure,this,YG,hn,aI]
 rw[Sem.run_map,key _ hall]
 simp only[Result.andThen_ok]
 congr 1
 apply abq
 simp
def EF (P:Program) (T:TypeId):Bool:=match P.underlying T with
 | some (.struct fs)=>fs.toList.all fun x=>(Ae P x.type).isSome
 | _=>false
theorem AD0 (h:Core w0 St0 St β s a w) (o:Oper) (T:TypeId) (ps:Array (Nat×Operand)) (ho:o.op = .build T ps) (hfo:EF P T=true) (hc:ps.toList.all (fun p=>Au p.2)=true) {y:AV} {st':List Ob} (hy:UQ P s T ps.toList=some (y,st')):Does P a w w0 St0 s o y st':=by
 unfold EF at hfo
 split at hfo
 ·rename_i fs hu
  unfold UQ at hy
  split at hy
  ·rename_i z0 hz0
   obtain⟨zs,hz,hwf,rfl⟩:=Q4 hz0
   ·split at hy
    ·rename_i cs hcs
     simp only[ak,bK] at hy
     obtain⟨rfl,rfl⟩:=hy
     obtain⟨z,hz1,hz2⟩:=VS hz w
     have hall:∀ x∈fs.toList,∃ n,Ae P x.type=some n:=fun x hx=>Option.isSome_iff_exists.1 (aP.1 hfo x hx)
     have hpl:=dR (s:=s) ps.toList
     obtain⟨B,b1,b2,b3⟩:=YK (w:=w) (St:=St) (β:=β) (st:=s.st) hu (fs.map fun f=>(f.offset,(Ae P f.type).getD 0)) (fun i off ft n h1 h2=>by
      obtain⟨fs',x,q1,q2,q3,q4⟩:=UO h1
      rw[hu] at q1
      simp only[ak,TypeDesc.struct.injEq] at q1
      subst q1
      simp[q2,q3,q4,h2]) (Ih s ps.toList) (ps.toList.map fun x=>(x.1,a.eval x.2)) (zs.map .v) cs z.cells (by simp[hpl]) (XG h ps.toList hc) hcs (by rw[ae,← hz2]; simp) (fun k c hk=>by
       simp only[qp,yx] at hk
       obtain⟨v,hv,rfl⟩:=hk
       refine⟨v,by rw[hz2]; exact hv, ?_⟩
       simp only[RdC,RdD,true_and]
       exact aP.1 hwf v (bF hv))
     have hmap:(ps.map fun(x:Nat×Operand)=>(x.1,a.eval x.2)).toList=ps.toList.map fun x=>(x.1,a.eval x.2):=AOi
     refine⟨_,.agg B,_,St,β, ?_,.inl rfl,h, ?_⟩
     ·simp only[execOp,ho,Instr.build,Sem.run_bind,hz1,run_underlying hu,Result.andThen_ok,run_places hall,hmap]
      simp only[b1,Sem.run_pure,Result.andThen_ok,Sem.run_bind]
     ·simp only[AVR]
      exact⟨B.toList,AOi,by simpa using b2,b3⟩
    ·cases hy
  ·cases hy
 ·cases hfo
def RdA (w:World) (St:Nat→Nat→Prop):AV→Value→Prop
 | .c x,u=>RdD w St x u
 | .agg xs,u=>∃ us:List Value,u = .agg us.toArray∧us.length=xs.length∧∀ (k:Nat) (c:Cl),xs[k]?=some c→∃ y,us[k]?=some y∧RdD w St c y
 | .clo f xs,u=>∃ us:List Value,u = .func (.func f) #[] us.toArray∧us.length=xs.length∧∀ (k:Nat) (c:List Cl),xs[k]?=some c→∃ b off,us[k]?=some (.pointer (some ⟨b,off,none⟩))∧RdL w St c b off
 | .ip xs,u=>∃ b off,u = .pointer (some ⟨b,off,none⟩)∧RdL w St xs b off
 | _,_=>False
theorem RdA.mono {w w':World} {St St':Nat→Nat→Prop} (hS:∀ b o,St b o→St' b o) (hw:∀ b o,St b o→w'.cell? ⟨b,o,none⟩=w.cell? ⟨b,o,none⟩) {x:AV} {u:Value} (h:RdA w St x u):RdA w' St' x u:=by
 cases x with
 | c x=>exact RdD.mono hS hw _ _ h
 | agg xs =>
  obtain⟨us,h1,h2,h3⟩:=h
  refine⟨us,h1,h2,fun k c hk=>?_⟩
  grind [RdD.mono]
 | clo f xs =>
  obtain⟨us,h1,h2,h3⟩:=h
  refine⟨us,h1,h2,fun k c hk=>?_⟩
  grind [RdL.mono]
 | ip xs =>
  obtain⟨b,off,h1,h2⟩:=h
  exact⟨b,off,h1,RdL.mono hS hw _ _ _ h2⟩
 | _=>exact h.elim
theorem RdA.toAVR {w:World} {St:Nat→Nat→Prop} {st:List Ob} {β:Nat→Option Nat} {x:AV} {u:Value} (h:RdA w St x u):AVR w St st β x u:=by
 cases x with
 | c x=>simp only[AVR]; exact RdD.toC h
 | agg xs =>
  obtain⟨us,h1,h2,h3⟩:=h
  simp only[AVR]
  grind [RdD.toC]
 | clo f xs=>simp only[AVR]; exact h
 | ip xs=>simp only[AVR]; exact h
 | _=>exact h.elim
mutual
def uj:Cl→Prop
 | .v x=>QZ x=true
 | .ref _=>True
 | .ow _ _ xs=>xs.length≤maxLen∧kU xs
 | .sl xs=>xs.length≤maxLen∧kU xs
def kU:List (List Cl)→Prop
 | []=>True
 | x::xs=>XH x∧kU xs
def XH:List Cl→Prop
 | []=>True
 | c::cs=>uj c∧XH cs
end
def WfA:AV→Prop
 | .c x=>uj x
 | .agg xs=>XH xs
 | _=>True
mutual
theorem RdD.wf {w:World} {St:Nat→Nat→Prop}:∀ (c:Cl) (u:Value),RdD w St c u→uj c
 | .v x,u,h=>by simp only[RdD] at h; simp only[uj]; exact h.2
 | .ref _,_,h=>by simp[RdD] at h
 | .ow _ _ _,_,h=>by simp[RdD] at h
 | .sl xs,u,h=>by
  simp only[RdD] at h
  simp only[uj]
  obtain⟨a,cap,h1,h2,h3,h4,h5⟩:=h
  refine⟨AOh, ?_⟩
  rcases h5 with rfl | ⟨b,off,_,h6⟩
  ·simp[kU]
  ·exact RdE.wf xs b off h6
theorem RdE.wf {w:World} {St:Nat→Nat→Prop}:∀ (xs:List (List Cl)) (b off:Nat),RdE w St xs b off→kU xs
 | [],_,_,_=>by simp[kU]
 | x::xs,b,off,h=>by
  simp only[RdE] at h
  simp only[kU]
  exact⟨RdL.wf x b off h.1,RdE.wf xs b _ h.2⟩
theorem RdL.wf {w:World} {St:Nat→Nat→Prop}:∀ (cs:List Cl) (b off:Nat),RdL w St cs b off→XH cs
 | [],_,_,_=>by simp[XH]
 | c::cs,b,off,h=>by
  simp only[RdL] at h
  simp only[XH]
  obtain⟨⟨_,u,_,h3⟩,h4⟩:=h
  exact⟨RdD.wf c u h3,RdL.wf cs b _ h4⟩
end
theorem dS:∀ (cs:List Cl),(∀ (k:Nat) (c:Cl),cs[k]?=some c→uj c)→XH cs
 | [],_=>by simp[XH]
 | c::cs,h=>by
  simp only[XH]
  exact⟨h 0 c rfl,dS cs fun k c hk=>h (k+1) c APN⟩
theorem RdA.wf {w:World} {St:Nat→Nat→Prop} {x:AV} {u:Value} (h:RdA w St x u):WfA x:=by
 cases x with
 | c x=>exact RdD.wf _ _ h
 | agg xs =>
  obtain⟨us,_,_,h3⟩:=h
  refine dS xs fun k c hk=>?_
  grind [RdD.wf]
 | clo f xs=>exact trivial
 | ip xs=>exact trivial
 | _=>exact h.elim
theorem ZG:∀ {xs:List (List Cl)},kU xs→∀ x∈xs,XH x
 | [],_,x,h=>AO_
 | y::xs,h,x,hx=>by
  simp only[kU] at h
  rcases dh.1 hx with rfl | hx
  ·exact h.1
  ·exact ZG h.2 x hx
theorem AD1:∀ (xs:List (List Cl)),(∀ x∈xs,XH x)→kU xs
 | [],_=>by simp[kU]
 | y::xs,h=>by
  simp only[kU]
  exact⟨h y AOi,AD1 xs fun x hx=>h x APe⟩
def fzL (st:List Ob):List Cl→Option (List Cl×List Ob)
 | []=>some ([],st)
 | c::cs=>match fzC st c,fzL (uY st c) cs with
  | some c',some (cs',st')=>some (c'::cs',st')
  | _,_=>none
def fzA (st:List Ob):AV→Option (AV×List Ob)
 | .c x=>match fzC st x with
  | some y=>some (.c y,uY st x)
  | none=>none
 | .agg xs=>match fzL st xs with
  | some (ys,st')=>some (.agg ys,st')
  | none=>none
 | .clo f xs=>some (.clo f xs,st)
 | .ip xs=>some (.ip xs,st)
 | _=>none
def XI (st:List Ob):List AV→Option (List AV×List Ob)
 | []=>some ([],st)
 | x::xs=>match fzA st x with
  | some (y,st')=>match XI st' xs with
   | some (ys,st'')=>some (y::ys,st'')
   | none=>none
  | none=>none
theorem oZ (h:Core w0 St0 St β s a w) {c c':Cl} (hc:fzC s.st c=some c') :
  ∃ St',Core w0 St0 St' β ⟨s.n,s.env,uY s.st c⟩ a w∧(∀ b o,St b o→St' b o)∧(∀ l u,BN w s.st β l u→BN w (uY s.st c) β l u)∧∀ u,RdB w St s.st β c u→RdD w St' c' u:=by
 unfold fzC at hc
 split at hc
 ·simp only[ak] at hc
  subst hc
  refine⟨St,h,fun _ _ h=>h,fun _ _ h=>h,fun u hu=>?_⟩
  simp only[RdB,RdC,RdD] at hu ⊢
  obtain⟨rfl,_⟩:=hu
  exact⟨none,0,rfl,AOi,by simp[maxLen],⟨0,AOi⟩,.inl trivial⟩
 ·cases hc
 ·exact AN7
 ·exact AN7
 ·rename_i l
  split at hc
  ·rename_i ob hob
   split at hc
   ·rename_i hp
    simp only[ak] at hc
    subst hc
    obtain⟨St',h1,h2,h3,_⟩:=h.freeze l hob hp
    exact⟨St',h1,h2,fun l' u hu=>(XE l' u).2 hu,h3⟩
   ·cases hc
  ·cases hc
 ·cases hc
theorem AD2:∀ (cs:List Cl) (st:List Ob) (cs':List Cl) (st':List Ob) (St:Nat→Nat→Prop),Core w0 St0 St β ⟨s.n,s.env,st⟩ a w→fzL st cs=some (cs',st') →
  ∃ St',Core w0 St0 St' β ⟨s.n,s.env,st'⟩ a w∧(∀ b o,St b o→St' b o)∧(∀ l u,BN w st β l u→BN w st' β l u)∧cs'.length=cs.length∧∀ (k:Nat) (c:Cl),cs'[k]?=some c→∃ d,cs[k]?=some d∧∀ u,RdB w St st β d u→RdD w St' c u
 | [],st,cs',st',St,h,hf=>by
  simp only[fzL,ak,bK] at hf
  obtain⟨rfl,rfl⟩:=hf
  exact⟨St,h,fun _ _ h=>h,fun _ _ h=>h,rfl,fun k c hk=>APM⟩
 | c::cs,st,cs',st',St,h,hf=>by
  simp only[fzL] at hf
  split at hf
  ·rename_i c1 cs1 st1 hc1 hcs1
   simp only[ak,bK] at hf
   obtain⟨rfl,rfl⟩:=hf
   obtain⟨St1,q1,q2,q3,q4⟩:=oZ h hc1
   obtain⟨St2,r1,r2,r3,r4,r5⟩:=AD2 cs (uY st c) cs1 st1 St1 q1 hcs1
   refine⟨St2,r1,fun b o hbo=>r2 b o (q2 b o hbo),fun l u hu=>r3 l u (q3 l u hu),by simp[r4],fun k d hk=>?_⟩
   cases k with
   | zero =>
    simp only[aQ,ak] at hk
    subst hk
    exact⟨c,rfl,fun u hu=>RdD.mono r2 (fun _ _ _=>rfl) _ _ (q4 u hu)⟩
   | succ k =>
    obtain⟨d',hd1,hd2⟩:=r5 k d APN
    exact⟨d',by simpa using hd1,fun u hu=>hd2 u (RdB.mono q2 (fun _ _ _=>rfl) q3 _ _ hu)⟩
  ·cases hf
theorem UR {st st':List Ob} (hlen:∀ (l:Nat) (ob:Ob),st[l]?=some ob→∃ ob':Ob,st'[l]?=some ob'∧ob'.sz=ob.sz∧(ob'.live=true→ob.live=true)) {St St':Nat→Nat→Prop} {w w':World} :
  ∀ l i off u,AVR w St st β (.lp l i off) u→AVR w' St' st' β (.lp l i off) u:=by
 intro l i off u hu
 simp only[AVR] at hu ⊢
 grind
theorem AD3 {x y:AV} {st st':List Ob} {St:Nat→Nat→Prop} (h:Core w0 St0 St β ⟨s.n,s.env,st⟩ a w) (hf:fzA st x=some (y,st')) :
  ∃ St',Core w0 St0 St' β ⟨s.n,s.env,st'⟩ a w∧(∀ b o,St b o→St' b o)∧(∀ l u,BN w st β l u→BN w st' β l u)∧∀ u,AVR w St st β x u→RdA w St' y u:=by
 unfold fzA at hf
 split at hf
 ·rename_i c
  split at hf
  ·rename_i c' hc
   simp only[ak,bK] at hf
   obtain⟨rfl,rfl⟩:=hf
   obtain⟨St',q1,q2,q3,q4⟩:=oZ h hc
   exact⟨St',q1,q2,q3,fun u hu=>q4 u (RdC.toB (by simpa only[AVR] using hu))⟩
  ·cases hf
 ·rename_i xs
  split at hf
  ·rename_i ys st1 hl
   simp only[ak,bK] at hf
   obtain⟨rfl,rfl⟩:=hf
   obtain⟨St',q1,q2,q3,q4,q5⟩:=AD2 xs st ys st1 St h hl
   refine⟨St',q1,q2,q3,fun u hu=>?_⟩
   simp only[AVR] at hu
   obtain⟨us,h1,h2,h3⟩:=hu
   refine⟨us,h1,by rw[h2,q4],fun k c hk=>?_⟩
   obtain⟨d,hd1,hd2⟩:=q5 k c hk
   obtain⟨u,hu1,hu2⟩:=h3 k d hd1
   exact⟨u,hu1,hd2 u hu2.toB⟩
  ·cases hf
 ·exact AM1
 ·exact AM1
 ·cases hf
theorem uk {st:List Ob} {l l':Nat} {ob:Ob} (h:st[l']?=some ob):∃ ob',(Qi st l)[l']?=some ob'∧ob'.sz=ob.sz∧(ob'.live=true→ob.live=true):=by
 unfold Qi
 grind
theorem ul {st:List Ob} {c:Cl} {l':Nat} {ob:Ob} (h:st[l']?=some ob):∃ ob',(uY st c)[l']?=some ob'∧ob'.sz=ob.sz∧(ob'.live=true→ob.live=true):=by
 cases c with
 | ref l=>exact uk h
 | _=>exact⟨ob,h,rfl,id⟩
theorem AAq:∀ {cs cs':List Cl} {st st':List Ob},fzL st cs=some (cs',st')→∀ {l':Nat} {ob:Ob},st[l']?=some ob→∃ ob',st'[l']?=some ob'∧ob'.sz=ob.sz∧(ob'.live=true→ob.live=true)
 | [],cs',st,st',hf,l',ob,h=>by
  simp only[fzL,ak,bK] at hf
  obtain⟨_,rfl⟩:=hf
  exact⟨ob,h,rfl,id⟩
 | c::cs,cs',st,st',hf,l',ob,h=>by
  simp only[fzL] at hf
  split at hf
  ·rename_i c1 cs1 st1 hc1 hcs1
   simp only[ak,bK] at hf
   obtain⟨_,rfl⟩:=hf
   obtain⟨o1,p1,p2,p3⟩:=ul (c:=c) h
   obtain⟨o2,r1,r2,r3⟩:=AAq hcs1 p1
   exact⟨o2,r1,r2.trans p2,fun hl=>p3 (r3 hl)⟩
  ·cases hf
theorem AAr {x y:AV} {st st':List Ob} (hf:fzA st x=some (y,st')) {l':Nat} {ob:Ob} (h:st[l']?=some ob):∃ ob',st'[l']?=some ob'∧ob'.sz=ob.sz∧(ob'.live=true→ob.live=true):=by
 unfold fzA at hf
 split at hf
 ·split at hf
  ·simp only[ak,bK] at hf
   obtain⟨_,rfl⟩:=hf
   exact ul h
  ·cases hf
 ·grind [ak,bK,AAq]
 ·grind
 ·grind
 ·cases hf
def RdAs (w:World) (St:Nat→Nat→Prop):List AV→List Value→Prop
 | [],us=>us = []
 | x::xs,us=>∃ y ys,us=y::ys∧RdA w St x y∧RdAs w St xs ys
theorem RdAs.mono {w w':World} {St St':Nat→Nat→Prop} (hS:∀ b o,St b o→St' b o) (hw:∀ b o,St b o→w'.cell? ⟨b,o,none⟩=w.cell? ⟨b,o,none⟩):∀ {xs:List AV} {us:List Value},RdAs w St xs us→RdAs w' St' xs us
 | [],_,h=>h
 | x::xs,us,h=>by
  obtain⟨y,ys,h1,h2,h3⟩:=h
  exact⟨y,ys,h1,h2.mono hS hw,RdAs.mono hS hw h3⟩
def ACA:List AV→Prop
 | []=>True
 | x::xs=>WfA x∧ACA xs
theorem dU {w:World} {St:Nat→Nat→Prop}:∀ {xs ys:List AV} {us vs:List Value},RdAs w St xs us→RdAs w St ys vs→RdAs w St (xs++ys) (us++vs)
 | [],ys,us,vs,h1,h2=>by simp only[RdAs] at h1; subst h1; exact h2
 | x::xs,ys,us,vs,h1,h2=>by
  obtain⟨y,zs,rfl,h3,h4⟩:=h1
  exact⟨y,zs++vs,rfl,h3,dU h4 h2⟩
theorem XJ {w:World} {St:Nat→Nat→Prop}:∀ {xs:List (List Cl)} {us:List Value},us.length=xs.length→(∀ (k:Nat) (c:List Cl),xs[k]?=some c→∃ b off,us[k]?=some (.pointer (some ⟨b,off,none⟩))∧RdL w St c b off)→RdAs w St (xs.map AV.ip) us
 | [],us,hl,_=>aai APR
 | x::xs,[],hl,_=>APw
 | x::xs,u::us,hl,h=>by
  obtain⟨b,off,hy,hr⟩:=h 0 x rfl
  simp only[aQ,ak] at hy
  exact⟨u,us,rfl,⟨b,off,hy,hr⟩,XJ APR fun k c hk=>by simpa using h (k+1) c APN⟩
theorem RdAs.wf {w:World} {St:Nat→Nat→Prop}:∀ {xs:List AV} {us:List Value},RdAs w St xs us→ACA xs
 | [],_,_=>trivial
 | x::xs,us,h=>by
  obtain⟨y,ys,h1,h2,h3⟩:=h
  exact⟨h2.wf,h3.wf⟩
theorem VV:∀ (xs ys:List AV) (st st':List Ob) (St:Nat→Nat→Prop),Core w0 St0 St β ⟨s.n,s.env,st⟩ a w→XI st xs=some (ys,st') →
  ∃ St',Core w0 St0 St' β ⟨s.n,s.env,st'⟩ a w∧(∀ b o,St b o→St' b o)∧∀ us,AVRs w St st β xs us→RdAs w St' ys us
 | [],ys,st,st',St,h,hf=>by
  simp only[XI,ak,bK] at hf
  obtain⟨rfl,rfl⟩:=hf
  exact⟨St,h,fun _ _ h=>h,fun us hu=>by simpa only[AVRs,RdAs] using hu⟩
 | x::xs,ys,st,st',St,h,hf=>by
  simp only[XI] at hf
  split at hf
  ·rename_i y st1 hy
   split at hf
   ·rename_i ys1 st2 hys
    simp only[ak,bK] at hf
    obtain⟨rfl,rfl⟩:=hf
    obtain⟨St1,q1,q2,q3,q4⟩:=AD3 h hy
    obtain⟨St2,r1,r2,r3⟩:=VV xs ys1 st1 st2 St1 q1 hys
    refine⟨St2,r1,fun b o hbo=>r2 b o (q2 b o hbo),fun us hu=>?_⟩
    simp only[AVRs] at hu
    obtain⟨u,us',rfl,h1,h2⟩:=hu
    refine⟨u,us',rfl,(q4 u h1).mono r2 (fun _ _ _=>rfl),r3 us' ?_⟩
    exact AVRs.mono q2 (fun _ _ _=>rfl) q3 (UR fun l ob hl=>AAr hy hl) xs us' h2
   ·cases hf
  ·cases hf
end Go.Vm
