/- A part. -/
import Derived.Test.YtnfbaclikokapaaGreatVmI
import Derived.Laws.MakeOwn
set_option linter.unusedSimpArgs false
set_option linter.unusedVariables false
namespace Go.Vm
open Go.RowKit
variable {P:Program} {w0:Bs} {St0 St:Nat→Nat→Prop} {β:Nat→Option Nat} {s:MS} {a:Act} {w:World}
def EE (P:Program) (t:TypeId):Option Nat:=(P.info? t).map (·.bytes)
def nY (P:Program) (s:MS) (T:TypeId) (l c:AV):Option (AV×List Ob):=match DZ P T with
 | some e=>match AZ P e,TQ P e,EE P e with
  | some n,some cs,some by'=>match l,c with
   | .c (.v (.int .i64 nl)),.c (.v (.int .i64 nc))=>if cs.length=n∧0<n∧by'≤65536∧0≤nl∧nl≤nc∧nc≤2147483648
    then some (.c (.ref s.st.length),s.st ++ [⟨e,n,List.replicate nl.toNat cs,true,true⟩]) else none
   | _,_=>none
  | _,_,_=>none
 | none=>none
theorem iy (zs:Array Value) (n k:Nat) (hk:k<n) (hz:0<zs.size):(madeCells zs n)[k]?=zs[k%zs.size]?:=by
 have hm:k%zs.size<zs.size:=Nat.mod_lt _ hz
 simp[madeCells,hk,hm]
theorem Pe {z:List Cl} {n:Nat} {k:Nat} {c:Cl} (hz:0<z.length) (h:(List.replicate n z).flatten[k]?=some c):z[k%z.length]?=some c∧k<n*z.length:=by
 have hl:∀ x∈List.replicate n z,x.length=z.length:=fun x hx=>by grind
 have hlen:=Dp hl
 have hk:k<n*z.length:=by
  rcases bI k (n*z.length) with h' | h'
  ·exact h'
  ·grind
 refine⟨?_,hk⟩
 have hi:k/z.length<n:=Nat.div_lt_of_lt_mul (by grind)
 have hj:k%z.length<z.length:=Nat.mod_lt _ hz
 have:=EL hl (k/z.length) (k%z.length) z _ (by simp[hi]) (aA hj)
 grind [Nat.mul_comm,Nat.div_add_mod,aA]
theorem ACh (h:Core w0 St0 St β s a w) (o:Oper) (T:TypeId) (l c:Operand) (ho:o.op = .makeSlice T l c) (hc:Ar l=true) (hc2:Ar c=true) {y:AV} {st':List Ob} (hy:nY P s T (EC s l) (EC s c)=some (y,st')):Does P a w w0 St0 s o y st':=by
 have hl:=Bl h l hc
 have hcc:=Bl h c hc2
 unfold nY at hy
 split at hy
 ·rename_i e hte
  have ht:=LJ hte
  split at hy
  ·rename_i n cs0 by' hs hz0 hb
   obtain⟨zs,hz,hwf,rfl⟩:=PW hz0
   split at hy
   ·rename_i nl nc hev1 hev2
    split at hy
    ·rename_i hcond
     obtain⟨hzl0,hn,hby,h0,h1,h2⟩:=hcond
     have hzl:zs.length=n:=by simpa using hzl0
     simp only[ah,bJ] at hy
     obtain⟨rfl,rfl⟩:=hy
     rw[hev1] at hl
     rw[hev2] at hcc
     obtain⟨hv1,_⟩:=Nb hl
     obtain⟨hv2,_⟩:=Nb hcc
     unfold AZ at hs
     unfold PV at hz
     unfold EE at hb
     cases hi:P.info? e with
     | none=>grind
     | some i =>
      cases hiz:i.zero with
      | none=>grind
      | some z =>
       simp[hi] at hs hb
       simp[hi,hiz] at hz
       have hzs:z.cells.size=n:=by rw[← hzl,← hz]; simp
       have hrun:=run_make (P:=P) w T e i z ht hi hiz .i64 .i64 nl nc h0 h1 (by rw[hb]; have:(by':Int)*nc≤65536*2147483648:=Int.mul_le_mul (by omega) h2 (by omega) (by omega); omega) (by omega)
       have hmc:(madeCells z.cells (nc.toNat*i.size)).size=nc.toNat*i.size:=size_madeCells _ _
       obtain⟨β',q1,q2,q3⟩:=h.newCells e n (List.replicate nl.toNat (zs.map .v)) (madeCells z.cells (nc.toNat*i.size)) (fun x hx=>by grind) (fun k cl hk=>by
        have hzl':(zs.map Cl.v).length=n:=by simpa using hzl
        obtain⟨r1,r2⟩:=Pe (by omega) hk
        rw[hzl'] at r1 r2
        simp only[lD,yQ] at r1
        obtain⟨v,hv,rfl⟩:=r1
        have hkn:k<nc.toNat*i.size:=by
         rw[hs]
         exact bn r2 (aaE _ (by omega))
        refine⟨v, ?_, ?_⟩
        ·grind [iy]
        ·simp only[RdC,RdD,true_and]
         exact aF.1 hwf v (aY hv))
       refine⟨_,.slice (some ⟨w.heap.size,0,none⟩) nl.toNat nc.toNat,_,St,β', ?_,.inl rfl,q1, ?_⟩
       ·simp[execOp,ho,hv1,hv2,hrun]
       ·simp only[AVR,RdC,A_]
        rw[aX (aN _)]
        simp only[dM,aB,q2]
        refine⟨rfl,fun _=>⟨nc.toNat,_, ?_, ?_, ?_,alloc_at w _, ?_⟩⟩
        ·simp
        ·simp; omega
        ·simp only[maxLen]; omega
        grind
    ·cases hy
   ·cases hy
  ·cases hy
 ·cases hy
theorem foldl_set:∀ (vs:List Value) (off k:Nat) (A:Array Value),off+k+vs.length≤A.size →
  (vs.zipIdx k).foldl (fun cs (x:Value×Nat)=>cs.setIfInBounds (off+x.2) x.1) A=(A.toList.take (off+k)++vs++A.toList.drop (off+k+vs.length)).toArray
 | [],off,k,A,_=>by simp
 | v::vs,off,k,A,h=>by
  simp only[bU] at h
  simp only[List.zipIdx_cons,abn]
  rw[foldl_set vs off (k+1) (A.setIfInBounds (off+k) v) (by simp; omega)]
  congr 1
  have:=list_seg_step A.toList (off+k) v vs (by simp; omega)
  simp only[Array.toList_setIfInBounds]
  rw[show off+(k+1)=off+k+1 by omega,this]
  simp
theorem dO (place:Nat→Option (Nat×Nat)) (A:Array Value) (i off size:Nat) (v:Value) (rest:List (Nat×Value)) (hp:place i=some (off,size)) (hv:v.cells.size=size) (hle:off+size≤A.size) :
  Instr.fill place A ((i,v)::rest)=Instr.fill place (A.toList.take off++(v.cells.toList++A.toList.drop (off+size))).toArray rest:=by
 have h1:¬ ((decide (v.cells.size≠size)||decide (off+v.cells.size>A.size))=true):=by simp; omega
 have hfl:=foldl_set v.cells.toList off 0 A (by simp; omega)
 simp only[abB] at hfl
 have e:v.cells.zipIdx.foldl (fun cs (x:Value×Nat)=>cs.setIfInBounds (off+x.2) x.1) A=(A.toList.take off++(v.cells.toList++A.toList.drop (off+size))).toArray:=by
  rw[← Array.foldl_toList]
  rw[Array.toList_zipIdx,hfl]
  simp[hv]
 simp only[Instr.fill,hp]
 rw[aV h1]
 exact congrArg (fun B=>Instr.fill place B rest) e
def He (s:MS) (ps:List (Nat×Operand)):List (Nat×AV):=match ps with
 | []=>[]
 | p::r=>(p.1,EC s p.2)::He s r
def TU:List (Nat×AV)→Nat→Nat→Option (List (List Cl))
 | [],_,_=>some []
 | (i,x)::r,k,n=>match cellsA x,TU r (k+1) n with
  | some cs,some rs=>if i=k∧cs.length=n then some (cs::rs) else none
  | _,_=>none
def dP (P:Program) (T:TypeId) (F:List Cl):List (Nat×AV)→Option (List Cl)
 | []=>some F
 | (i,x)::r=>match AB P T i,cellsA x with
  | some (off,ft),some cs=>match AZ P ft with
   | some n=>if cs.length=n∧off+n≤F.length then dP P T (F.take off++(cs++F.drop (off+n))) r else none
   | none=>none
  | _,_=>none
theorem dQ (n:Nat) {st:List Ob} (hn:0<n):∀ (ps:List (Nat×AV)) (vs:List (Nat×Value)) (k:Nat) (rows:List (List Cl)) (A:Array Value),
  vs.length=ps.length→(∀ (j:Nat) (p:Nat×AV),ps[j]?=some p→∃ q:Nat×Value,vs[j]?=some q∧q.1=p.1∧AVR w St st β p.2 q.2)→TU ps k n=some rows→(k+ps.length)*n≤A.size →
  ∃ B:Array Value,Instr.fill (fun i=>some (i*n,n)) A vs=some B∧B.size=A.size∧(∀ j,j<k*n→B[j]?=A[j]?)∧(∀ j,(k+ps.length)*n≤j→B[j]?=A[j]?) ∧
   ∀ (j:Nat) (c:Cl),rows.flatten[j]?=some c→∃ u,B[k*n+j]?=some u∧RdC w St st β c u
 | [],vs,k,rows,A,hl,_,hr,_=>by
  simp only[TU,ah] at hr
  subst hr
  have:vs = []:=zu (by simpa using hl)
  subst this
  exact⟨A,rfl,rfl,fun _ _=>rfl,fun _ _=>rfl,fun j c hj=>by simp at hj⟩
 | (i,x)::ps,vs,k,rows,A,hl,hvs,hr,hA=>by
  cases vs with
  | nil=>simp at hl
  | cons v vs =>
   obtain⟨q,hq1,hq2,hq3⟩:=hvs 0 (i,x) rfl
   simp only[aB,ah] at hq1
   subst hq1
   simp only[TU] at hr
   split at hr
   ·rename_i cs rs hcs hrs
    split at hr
    ·rename_i hik
     obtain⟨hik,hcl⟩:=hik
     simp only[ah] at hr
     subst hr
     subst hik
     obtain⟨c1,c2⟩:=Qa hq3 hcs
     obtain⟨vi,vv⟩:=v
     simp only at hq2 hq3 c1 c2
     subst hq2
     have hvsz:vv.cells.size=n:=by
      have:vv.cells.toList.length=vv.cells.size:=by simp
      omega
     simp only[bU] at hA
     have hA':vi*n+n≤A.size:=by
      have:(vi+1)*n≤(vi+(ps.length+1))*n:=aaE _ (by omega)
      rw[iW] at this; omega
     have hsz:(A.toList.take (vi*n)++(vv.cells.toList++A.toList.drop (vi*n+n))).toArray.size=A.size:=by
      have:A.toList.length=A.size:=by simp
      have:vv.cells.toList.length=vv.cells.size:=by simp
      simp only[abk,aW,bC,yT]
      omega
     obtain⟨B,b1,b2,b3,b4,b5⟩:=dQ n hn ps vs (vi+1) rs (A.toList.take (vi*n)++(vv.cells.toList++A.toList.drop (vi*n+n))).toArray (by simpa using hl)
      (fun j p hj=>by simpa using hvs (j+1) p (by simpa using hj)) hrs (by rw[hsz]; rw[show vi+1+ps.length=vi+(ps.length+1) by omega]; exact hA)
     have hAl:A.toList.length=A.size:=by simp
     have htl:(A.toList.take (vi*n)).length=vi*n:=by simp; omega
     have hvl:vv.cells.toList.length=n:=by simpa using hvsz
     refine⟨B, ?_,by rw[b2,hsz],fun j hj=>?_,fun j hj=>?_,fun j c hj=>?_⟩
     ·rw[dO _ A vi (vi*n) n vv vs rfl hvsz hA']; exact b1
     ·rw[b3 j (by rw[iW]; omega)]
      simp only[aa8]
      rw[aZ (by omega),yS,bz hj]
      simp
     ·simp only[bU] at hj
      rw[b4 j (by rw[show vi+1+ps.length=vi+(ps.length+1) by omega]; exact hj)]
      have hj2:vi*n+n≤j:=by
       have:(vi+1)*n≤(vi+(ps.length+1))*n:=aaE _ (by omega)
       rw[iW] at this; omega
      simp only[aa8]
      rw[aX (by omega),aX (by omega),aba,htl,hvl]
      rw[show vi*n+n+(j-vi*n-n)=j by omega]
      simp
     ·simp only[bT] at hj
      rcases bI j n with h1 | h1
      ·rw[aZ (by omega)] at hj
       obtain⟨u,hu,hc⟩:=c2 j c hj
       refine⟨u, ?_,hc⟩
       rw[b3 _ (by rw[iW]; omega)]
       simp only[aa8]
       rw[aX (by omega),htl,show vi*n+j-vi*n=j by omega,aZ (by omega)]
       exact hu
      ·rw[aX (by omega),hcl] at hj
       obtain⟨u,hu,hc⟩:=b5 (j-n) c hj
       refine⟨u, ?_,hc⟩
       rw[iW] at hu
       rw[show vi*n+1*n+(j-n)=vi*n+j by omega] at hu
       exact hu
    ·cases hr
   ·cases hr
def Ju (P:Program) (s:MS) (T:TypeId) (len:Nat) (ps:List (Nat×Operand)):Option (AV×List Ob):=match DZ P T with
 | some e=>match AZ P e,TQ P e,TU (He s ps) 0 ((AZ P e).getD 0) with
  | some n,some zs,some rows=>if rows.length=len∧zs.length=n∧0<n∧len*n≤16777216 then some (.c (.ref s.st.length),s.st ++ [⟨e,n,rows,true,true⟩]) else none
  | _,_,_=>none
 | none=>none
theorem U3 (h:Core w0 St0 St β s a w):∀ (ps:List (Nat×Operand)),ps.all (fun p=>Ar p.2)=true→∀ (j:Nat) (p:Nat×AV),(He s ps)[j]?=some p →
  ∃ q:Nat×Value,(ps.map fun x=>(x.1,a.eval x.2))[j]?=some q∧q.1=p.1∧AVR w St s.st β p.2 q.2
 | [],_,j,p,hj=>by simp[He] at hj
 | q::ps,hc,j,p,hj=>by
  simp only[bK,ak] at hc
  simp only[He] at hj
  cases j with
  | zero =>
   simp only[aB,ah] at hj
   subst hj
   exact⟨_,rfl,rfl,Bl h q.2 hc.1⟩
  | succ j =>
   simp only[aaX] at hj
   simpa using U3 h ps hc.2 j p hj
theorem X9 (ps:List (Nat×Operand)):(He s ps).length=ps.length:=by
 induction ps with
 | nil=>rfl
 | cons p ps ih=>simp[He,ih]
theorem dR:∀ (ps:List (Nat×AV)) (k n:Nat) (rows:List (List Cl)),TU ps k n=some rows→rows.length=ps.length∧∀ x∈rows,x.length=n
 | [],k,n,rows,h=>by simp[TU] at h; subst h; simp
 | (i,x)::ps,k,n,rows,h=>by
  simp only[TU] at h
  split at h
  ·rename_i cs rs hcs hrs
   split at h
   ·rename_i hik
    simp only[ah] at h
    subst h
    obtain⟨h1,h2⟩:=dR ps (k+1) n rs hrs
    exact⟨by simp[h1],fun y hy=>by
     rcases cZ.1 hy with rfl | hy
     ·exact hik.2
     ·exact h2 y hy⟩
   ·cases h
  ·cases h
theorem Zk (h:Core w0 St0 St β s a w) (o:Oper) (T:TypeId) (len:Nat) (ps:Array (Nat×Operand)) (ho:o.op = .buildSlice T len ps) (hc:ps.toList.all (fun p=>Ar p.2)=true) {y:AV} {st':List Ob} (hy:Ju P s T len ps.toList=some (y,st')):Does P a w w0 St0 s o y st':=by
 unfold Ju at hy
 split at hy
 ·rename_i e hte
  have ht:=LJ hte
  split at hy
  ·rename_i n cs0 rows hs hz0 hrows
   obtain⟨zs,hz,_,rfl⟩:=PW hz0
   split at hy
   ·rename_i hcond
    obtain⟨hlen,hzl0,hn,hmax⟩:=hcond
    have hzl:zs.length=n:=by simpa using hzl0
    simp only[ah,bJ] at hy
    obtain⟨rfl,rfl⟩:=hy
    rw[hs] at hrows
    simp only[aJ] at hrows
    obtain⟨r1,r2⟩:=dR _ _ _ _ hrows
    obtain⟨z,hz1,hz2⟩:=TS hz w
    have hzs:z.cells.size=n:=by rw[← hzl,← hz2]; simp
    have hpl:=X9 (s:=s) ps.toList
    let A:Array Value:=if len*n=0 then #[] else(Array.range (len*n)).map (z.cells[· % z.cells.size]!)
    have hAs:A.size=len*n:=by
     show (if len*n=0 then #[] else(Array.range (len*n)).map (z.cells[· % z.cells.size]!):Array Value).size=len*n
     split
     ·rename_i h0; simp[h0]
     ·simp
    obtain⟨B,b1,b2,_,_,b5⟩:=dQ (w:=w) (St:=St) (β:=β) (st:=s.st) n hn (He s ps.toList) (ps.toList.map fun x=>(x.1,a.eval x.2)) 0 rows A (by simp[hpl]) (U3 h ps.toList hc) hrows (by rw[hAs,← hlen,r1]; simp)
    simp only[Nat.zero_mul,Zj] at b5
    obtain⟨β',q1,q2,q3⟩:=h.newCells e n rows B r2 b5
    refine⟨_,.slice (some ⟨w.heap.size,0,none⟩) len len,_,St,β', ?_,.inl rfl,q1, ?_⟩
    ·have hmap:(ps.map fun(x:Nat×Operand)=>(x.1,a.eval x.2)).toList=ps.toList.map fun x=>(x.1,a.eval x.2):=by simp
     have hnm:¬ (16777216<len*n):=by omega
     by_cases h0:len*n=0
     ·have hA0:A = #[]:=by show (if len*n=0 then #[] else _)=_; rw[bz h0]
      rw[hA0] at b1
      have h00:len=0∨n=0:=Nat.mul_eq_zero.1 h0
      simp only[execOp,ho,Instr.buildSlice,Sem.run_bind,run_underlying ht,Result.andThen_ok,Ha hs]
      have hr0:(Array.range 0).map (fun i=>(#[]:Array Value)[i%(#[]:Array Value).size]!) = #[]:=by simp
      simp only[gt_iff_lt,Nat.reducePow,h0,bD,aV (Nat.not_lt_zero 16777216),Sem.run_bind,Sem.run_pure,Result.andThen_ok,hmap,hr0,b1,newRow,run_newObj,World.alloc_eq]
     ·have hA1:A=(Array.range (len*n)).map (z.cells[· % z.cells.size]!):=by show (if len*n=0 then #[] else _)=_; rw[aV h0]
      rw[hA1] at b1
      simp only[execOp,ho,Instr.buildSlice,Sem.run_bind,run_underlying ht,Result.andThen_ok,Ha hs]
      simp only[gt_iff_lt,Nat.reducePow,aV hnm,aV h0,Sem.run_bind,hz1,Sem.run_pure,Result.andThen_ok,hmap,b1,newRow,run_newObj,World.alloc_eq]
    ·simp only[AVR,RdC,A_]
     rw[aX (aN _)]
     simp only[dM,aB,q2]
     refine⟨rfl,fun _=>⟨len,B,by rw[hlen],by omega, ?_,alloc_at w _,by rw[b2,hAs]⟩⟩
     have:len≤len*n:=Nat.le_mul_of_pos_right _ hn
     simp only[maxLen]; omega
   ·cases hy
  ·cases hy
 ·cases hy
def Ro (P:Program) (s:MS) (T:TypeId) (ps:List (Nat×Operand)):Option (AV×List Ob):=match TQ P T with
 | some z=>match dP P T z (He s ps) with
  | some cs=>some (.agg cs,s.st)
  | none=>none
 | none=>none
theorem Vt {T:TypeId} {fs:Array Field} (hu:P.underlying T=some (.struct fs)) {st:List Ob} (places:Array (Nat×Nat)) (hpl:∀ (i off:Nat) (ft:TypeId) (n:Nat),AB P T i=some (off,ft)→AZ P ft=some n→places[i]?=some (off,n)) :
  ∀ (ps:List (Nat×AV)) (vs:List (Nat×Value)) (F F':List Cl) (A:Array Value),
  vs.length=ps.length→(∀ (j:Nat) (p:Nat×AV),ps[j]?=some p→∃ q:Nat×Value,vs[j]?=some q∧q.1=p.1∧AVR w St st β p.2 q.2)→dP P T F ps=some F'→A.size=F.length →
  (∀ (k:Nat) (c:Cl),F[k]?=some c→∃ u,A.toList[k]?=some u∧RdC w St st β c u) →
  ∃ B:Array Value,Instr.fill (places[·]?) A vs=some B∧B.size=F'.length∧(∀ (k:Nat) (c:Cl),F'[k]?=some c→∃ u,B.toList[k]?=some u∧RdC w St st β c u)
 | [],vs,F,F',A,hl,_,hf,hA,hc=>by
  simp only[dP,ah] at hf
  subst hf
  have:vs = []:=zu (by simpa using hl)
  subst this
  exact⟨A,rfl,hA,hc⟩
 | (i,x)::ps,vs,F,F',A,hl,hvs,hf,hA,hc=>by
  cases vs with
  | nil=>simp at hl
  | cons v vs =>
   obtain⟨q,hq1,hq2,hq3⟩:=hvs 0 (i,x) rfl
   simp only[aB,ah] at hq1
   subst hq1
   obtain⟨vi,vv⟩:=v
   simp only at hq2 hq3
   subst hq2
   simp only[dP] at hf
   split at hf
   ·rename_i off ft cs hfi hcs
    split at hf
    ·rename_i n hn
     split at hf
     ·rename_i hcond
      obtain⟨hcl,hle⟩:=hcond
      obtain⟨c1,c2⟩:=Qa hq3 hcs
      have hvl:vv.cells.toList.length=n:=by omega
      have hvsz:vv.cells.size=n:=by simpa using hvl
      have hAl:A.toList.length=A.size:=by simp
      obtain⟨B,b1,b2,b3⟩:=Vt hu places hpl ps vs _ F' (A.toList.take off++(vv.cells.toList++A.toList.drop (off+n))).toArray (by simpa using hl)
       (fun j p hj=>by simpa using hvs (j+1) p (by simpa using hj)) hf (by simp only[abk,aW,bC,yT]; omega)
       (fun k c hk=>by simpa using Vs hc hle hcl hvl c2 (by omega) k c hk)
      exact⟨B,by rw[dO _ A vi off n vv vs (hpl vi off ft n hfi hn) hvsz (by omega)]; exact b1,b2,b3⟩
     ·cases hf
    ·cases hf
   ·cases hf
theorem run_places {fs:Array Field} (hall:∀ x∈fs.toList,∃ n,AZ P x.type=some n) (w:World) :
  (fs.mapM fun(f:Field)=>(do pure (f.offset,← sizeOf f.type):Sem (Nat×Nat))).run P w = .ok (fs.map fun f=>(f.offset,(AZ P f.type).getD 0)) w:=by
 rw[aaZ]
 have key:∀ (l:List Field),(∀ x∈l,∃ n,AZ P x.type=some n)→(l.mapM fun(f:Field)=>(do pure (f.offset,← sizeOf f.type):Sem (Nat×Nat))).run P w = .ok (l.map fun f=>(f.offset,(AZ P f.type).getD 0)) w:=by
  intro l
  induction l with
  | nil=>intro _; simp
  | cons x l ih =>
   intro hl
   obtain⟨n,hn⟩:=hl x (by simp)
   have:=ih (fun y hy=>hl y (by simp[hy]))
   simp only[List.mapM_cons,Sem.run_bind,Ha hn,Result.andThen_ok,Sem.run_pure,this,XA,hn,aJ]
 rw[Sem.run_map,key _ hall]
 simp only[Result.andThen_ok]
 congr 1
 apply wC
 simp
def Dk (P:Program) (T:TypeId):Bool:=match P.underlying T with
 | some (.struct fs)=>fs.toList.all fun x=>(AZ P x.type).isSome
 | _=>false
theorem AA1 (h:Core w0 St0 St β s a w) (o:Oper) (T:TypeId) (ps:Array (Nat×Operand)) (ho:o.op = .build T ps) (hfo:Dk P T=true) (hc:ps.toList.all (fun p=>Ar p.2)=true) {y:AV} {st':List Ob} (hy:Ro P s T ps.toList=some (y,st')):Does P a w w0 St0 s o y st':=by
 unfold Dk at hfo
 split at hfo
 ·rename_i fs hu
  unfold Ro at hy
  split at hy
  ·rename_i z0 hz0
   obtain⟨zs,hz,hwf,rfl⟩:=PW hz0
   ·split at hy
    ·rename_i cs hcs
     simp only[ah,bJ] at hy
     obtain⟨rfl,rfl⟩:=hy
     obtain⟨z,hz1,hz2⟩:=TS hz w
     have hall:∀ x∈fs.toList,∃ n,AZ P x.type=some n:=fun x hx=>Option.isSome_iff_exists.1 (aF.1 hfo x hx)
     have hpl:=X9 (s:=s) ps.toList
     obtain⟨B,b1,b2,b3⟩:=Vt (w:=w) (St:=St) (β:=β) (st:=s.st) hu (fs.map fun f=>(f.offset,(AZ P f.type).getD 0)) (fun i off ft n h1 h2=>by
      obtain⟨fs',x,q1,q2,q3,q4⟩:=Rn h1
      rw[hu] at q1
      simp only[ah,TypeDesc.struct.injEq] at q1
      subst q1
      simp[q2,q3,q4,h2]) (He s ps.toList) (ps.toList.map fun x=>(x.1,a.eval x.2)) (zs.map .v) cs z.cells (by simp[hpl]) (U3 h ps.toList hc) hcs (by rw[ae,← hz2]; simp) (fun k c hk=>by
       simp only[lD,yQ] at hk
       obtain⟨v,hv,rfl⟩:=hk
       refine⟨v,by rw[hz2]; exact hv, ?_⟩
       simp only[RdC,RdD,true_and]
       exact aF.1 hwf v (aY hv))
     have hmap:(ps.map fun(x:Nat×Operand)=>(x.1,a.eval x.2)).toList=ps.toList.map fun x=>(x.1,a.eval x.2):=by simp
     refine⟨_,.agg B,_,St,β, ?_,.inl rfl,h, ?_⟩
     ·simp only[execOp,ho,Instr.build,Sem.run_bind,hz1,run_underlying hu,Result.andThen_ok,run_places hall,hmap]
      simp only[b1,Sem.run_pure,Result.andThen_ok,Sem.run_bind]
     ·simp only[AVR]
      exact⟨B.toList,by simp,by simpa using b2,b3⟩
    ·cases hy
  ·cases hy
 ·cases hfo
def RdA (w:World) (St:Nat→Nat→Prop):AV→Value→Prop
 | .c x,u=>RdD w St x u
 | .agg xs,u=>∃ us:List Value,u = .agg us.toArray∧us.length=xs.length∧∀ (k:Nat) (c:Cl),xs[k]?=some c→∃ y,us[k]?=some y∧RdD w St c y
 | .clo f xs,u=>∃ us:List Value,u = .func (.func f) #[] us.toArray∧us.length=xs.length∧∀ (k:Nat) (c:List Cl),xs[k]?=some c→∃ b off,us[k]?=some (.pointer (some ⟨b,off,none⟩))∧RdL w St c b off
 | .ip xs,u=>∃ b off,u = .pointer (some ⟨b,off,none⟩)∧RdL w St xs b off
 | _,_=>False
theorem RdA.mono {w w':World} {St St':Nat→Nat→Prop} (hS:∀ b o,St b o→St' b o) (hw:∀ b o,St b o→w'.cell? ⟨b,o,none⟩=w.cell? ⟨b,o,none⟩) {x:AV} {u:Value} (h:RdA w St x u):RdA w' St' x u:=by
 cases x with
 | c x=>exact RdD.mono hS hw _ _ h
 | agg xs =>
  obtain⟨us,h1,h2,h3⟩:=h
  refine⟨us,h1,h2,fun k c hk=>?_⟩
  grind [RdD.mono]
 | clo f xs =>
  obtain⟨us,h1,h2,h3⟩:=h
  refine⟨us,h1,h2,fun k c hk=>?_⟩
  grind [RdL.mono]
 | ip xs =>
  obtain⟨b,off,h1,h2⟩:=h
  exact⟨b,off,h1,RdL.mono hS hw _ _ _ h2⟩
 | _=>exact h.elim
theorem RdA.toAVR {w:World} {St:Nat→Nat→Prop} {st:List Ob} {β:Nat→Option Nat} {x:AV} {u:Value} (h:RdA w St x u):AVR w St st β x u:=by
 cases x with
 | c x=>simp only[AVR]; exact RdD.toC h
 | agg xs =>
  obtain⟨us,h1,h2,h3⟩:=h
  simp only[AVR]
  grind [RdD.toC]
 | clo f xs=>simp only[AVR]; exact h
 | ip xs=>simp only[AVR]; exact h
 | _=>exact h.elim
mutual
def nZ:Cl→Prop
 | .v x=>O9 x=true
 | .ref _=>True
 | .ow _ _ xs=>xs.length≤maxLen∧dS xs
 | .sl xs=>xs.length≤maxLen∧dS xs
def dS:List (List Cl)→Prop
 | []=>True
 | x::xs=>Rq x∧dS xs
def Rq:List Cl→Prop
 | []=>True
 | c::cs=>nZ c∧Rq cs
end
def WfA:AV→Prop
 | .c x=>nZ x
 | .agg xs=>Rq xs
 | _=>True
mutual
theorem RdD.wf {w:World} {St:Nat→Nat→Prop}:∀ (c:Cl) (u:Value),RdD w St c u→nZ c
 | .v x,u,h=>by simp only[RdD] at h; simp only[nZ]; exact h.2
 | .ref _,_,h=>by simp[RdD] at h
 | .ow _ _ _,_,h=>by simp[RdD] at h
 | .sl xs,u,h=>by
  simp only[RdD] at h
  simp only[nZ]
  obtain⟨a,cap,h1,h2,h3,h4,h5⟩:=h
  refine⟨by omega, ?_⟩
  rcases h5 with rfl | ⟨b,off,_,h6⟩
  ·simp[dS]
  ·exact RdE.wf xs b off h6
theorem RdE.wf {w:World} {St:Nat→Nat→Prop}:∀ (xs:List (List Cl)) (b off:Nat),RdE w St xs b off→dS xs
 | [],_,_,_=>by simp[dS]
 | x::xs,b,off,h=>by
  simp only[RdE] at h
  simp only[dS]
  exact⟨RdL.wf x b off h.1,RdE.wf xs b _ h.2⟩
theorem RdL.wf {w:World} {St:Nat→Nat→Prop}:∀ (cs:List Cl) (b off:Nat),RdL w St cs b off→Rq cs
 | [],_,_,_=>by simp[Rq]
 | c::cs,b,off,h=>by
  simp only[RdL] at h
  simp only[Rq]
  obtain⟨⟨_,u,_,h3⟩,h4⟩:=h
  exact⟨RdD.wf c u h3,RdL.wf cs b _ h4⟩
end
theorem Rt:∀ (cs:List Cl),(∀ (k:Nat) (c:Cl),cs[k]?=some c→nZ c)→Rq cs
 | [],_=>by simp[Rq]
 | c::cs,h=>by
  simp only[Rq]
  exact⟨h 0 c rfl,Rt cs fun k c hk=>h (k+1) c (by simpa using hk)⟩
theorem RdA.wf {w:World} {St:Nat→Nat→Prop} {x:AV} {u:Value} (h:RdA w St x u):WfA x:=by
 cases x with
 | c x=>exact RdD.wf _ _ h
 | agg xs =>
  obtain⟨us,_,_,h3⟩:=h
  refine Rt xs fun k c hk=>?_
  grind [RdD.wf]
 | clo f xs=>exact trivial
 | ip xs=>exact trivial
 | _=>exact h.elim
theorem XC:∀ {xs:List (List Cl)},dS xs→∀ x∈xs,Rq x
 | [],_,x,h=>by simp at h
 | y::xs,h,x,hx=>by
  simp only[dS] at h
  rcases cZ.1 hx with rfl | hx
  ·exact h.1
  ·exact XC h.2 x hx
theorem AA2:∀ (xs:List (List Cl)),(∀ x∈xs,Rq x)→dS xs
 | [],_=>by simp[dS]
 | y::xs,h=>by
  simp only[dS]
  exact⟨h y (by simp),AA2 xs fun x hx=>h x (by simp[hx])⟩
def fzL (st:List Ob):List Cl→Option (List Cl×List Ob)
 | []=>some ([],st)
 | c::cs=>match fzC st c,fzL (nS st c) cs with
  | some c',some (cs',st')=>some (c'::cs',st')
  | _,_=>none
def fzA (st:List Ob):AV→Option (AV×List Ob)
 | .c x=>match fzC st x with
  | some y=>some (.c y,nS st x)
  | none=>none
 | .agg xs=>match fzL st xs with
  | some (ys,st')=>some (.agg ys,st')
  | none=>none
 | .clo f xs=>some (.clo f xs,st)
 | .ip xs=>some (.ip xs,st)
 | _=>none
def O6 (st:List Ob):List AV→Option (List AV×List Ob)
 | []=>some ([],st)
 | x::xs=>match fzA st x with
  | some (y,st')=>match O6 st' xs with
   | some (ys,st'')=>some (y::ys,st'')
   | none=>none
  | none=>none
theorem jA (h:Core w0 St0 St β s a w) {c c':Cl} (hc:fzC s.st c=some c') :
  ∃ St',Core w0 St0 St' β ⟨s.n,s.env,nS s.st c⟩ a w∧(∀ b o,St b o→St' b o)∧(∀ l u,A_ w s.st β l u→A_ w (nS s.st c) β l u)∧∀ u,RdB w St s.st β c u→RdD w St' c' u:=by
 unfold fzC at hc
 split at hc
 ·simp only[ah] at hc
  subst hc
  refine⟨St,h,fun _ _ h=>h,fun _ _ h=>h,fun u hu=>?_⟩
  simp only[RdB,RdC,RdD] at hu ⊢
  obtain⟨rfl,_⟩:=hu
  exact⟨none,0,rfl,by simp,by simp[maxLen],⟨0,by simp⟩,.inl trivial⟩
 ·cases hc
 ·simp only[ah] at hc
  subst hc
  exact⟨St,h,fun _ _ h=>h,fun _ _ h=>h,fun u hu=>hu⟩
 ·simp only[ah] at hc
  subst hc
  exact⟨St,h,fun _ _ h=>h,fun _ _ h=>h,fun u hu=>hu⟩
 ·rename_i l
  split at hc
  ·rename_i ob hob
   split at hc
   ·rename_i hp
    simp only[ah] at hc
    subst hc
    obtain⟨St',h1,h2,h3,_⟩:=h.freeze l hob hp
    exact⟨St',h1,h2,fun l' u hu=>(U1 l' u).2 hu,h3⟩
   ·cases hc
  ·cases hc
 ·cases hc
theorem jB:∀ (cs:List Cl) (st:List Ob) (cs':List Cl) (st':List Ob) (St:Nat→Nat→Prop),Core w0 St0 St β ⟨s.n,s.env,st⟩ a w→fzL st cs=some (cs',st') →
  ∃ St',Core w0 St0 St' β ⟨s.n,s.env,st'⟩ a w∧(∀ b o,St b o→St' b o)∧(∀ l u,A_ w st β l u→A_ w st' β l u)∧cs'.length=cs.length∧∀ (k:Nat) (c:Cl),cs'[k]?=some c→∃ d,cs[k]?=some d∧∀ u,RdB w St st β d u→RdD w St' c u
 | [],st,cs',st',St,h,hf=>by
  simp only[fzL,ah,bJ] at hf
  obtain⟨rfl,rfl⟩:=hf
  exact⟨St,h,fun _ _ h=>h,fun _ _ h=>h,rfl,fun k c hk=>by simp at hk⟩
 | c::cs,st,cs',st',St,h,hf=>by
  simp only[fzL] at hf
  split at hf
  ·rename_i c1 cs1 st1 hc1 hcs1
   simp only[ah,bJ] at hf
   obtain⟨rfl,rfl⟩:=hf
   obtain⟨St1,q1,q2,q3,q4⟩:=jA h hc1
   obtain⟨St2,r1,r2,r3,r4,r5⟩:=jB cs (nS st c) cs1 st1 St1 q1 hcs1
   refine⟨St2,r1,fun b o hbo=>r2 b o (q2 b o hbo),fun l u hu=>r3 l u (q3 l u hu),by simp[r4],fun k d hk=>?_⟩
   cases k with
   | zero =>
    simp only[aB,ah] at hk
    subst hk
    exact⟨c,rfl,fun u hu=>RdD.mono r2 (fun _ _ _=>rfl) _ _ (q4 u hu)⟩
   | succ k =>
    obtain⟨d',hd1,hd2⟩:=r5 k d (by simpa using hk)
    exact⟨d',by simpa using hd1,fun u hu=>hd2 u (RdB.mono q2 (fun _ _ _=>rfl) q3 _ _ hu)⟩
  ·cases hf
theorem LY {st st':List Ob} (hlen:∀ (l:Nat) (ob:Ob),st[l]?=some ob→∃ ob':Ob,st'[l]?=some ob'∧ob'.sz=ob.sz∧(ob'.live=true→ob.live=true)) {St St':Nat→Nat→Prop} {w w':World} :
  ∀ l i off u,AVR w St st β (.lp l i off) u→AVR w' St' st' β (.lp l i off) u:=by
 intro l i off u hu
 simp only[AVR] at hu ⊢
 grind
theorem AA3 {x y:AV} {st st':List Ob} {St:Nat→Nat→Prop} (h:Core w0 St0 St β ⟨s.n,s.env,st⟩ a w) (hf:fzA st x=some (y,st')) :
  ∃ St',Core w0 St0 St' β ⟨s.n,s.env,st'⟩ a w∧(∀ b o,St b o→St' b o)∧(∀ l u,A_ w st β l u→A_ w st' β l u)∧∀ u,AVR w St st β x u→RdA w St' y u:=by
 unfold fzA at hf
 split at hf
 ·rename_i c
  split at hf
  ·rename_i c' hc
   simp only[ah,bJ] at hf
   obtain⟨rfl,rfl⟩:=hf
   obtain⟨St',q1,q2,q3,q4⟩:=jA h hc
   exact⟨St',q1,q2,q3,fun u hu=>q4 u (RdC.toB (by simpa only[AVR] using hu))⟩
  ·cases hf
 ·rename_i xs
  split at hf
  ·rename_i ys st1 hl
   simp only[ah,bJ] at hf
   obtain⟨rfl,rfl⟩:=hf
   obtain⟨St',q1,q2,q3,q4,q5⟩:=jB xs st ys st1 St h hl
   refine⟨St',q1,q2,q3,fun u hu=>?_⟩
   simp only[AVR] at hu
   obtain⟨us,h1,h2,h3⟩:=hu
   refine⟨us,h1,by rw[h2,q4],fun k c hk=>?_⟩
   obtain⟨d,hd1,hd2⟩:=q5 k c hk
   obtain⟨u,hu1,hu2⟩:=h3 k d hd1
   exact⟨u,hu1,hd2 u hu2.toB⟩
  ·cases hf
 ·simp only[ah,bJ] at hf
  obtain⟨rfl,rfl⟩:=hf
  exact⟨St,h,fun _ _ h=>h,fun _ _ h=>h,fun u hu=>by simp only[AVR] at hu; exact hu⟩
 ·simp only[ah,bJ] at hf
  obtain⟨rfl,rfl⟩:=hf
  exact⟨St,h,fun _ _ h=>h,fun _ _ h=>h,fun u hu=>by simp only[AVR] at hu; exact hu⟩
 ·cases hf
theorem ng {st:List Ob} {l l':Nat} {ob:Ob} (h:st[l']?=some ob):∃ ob',(O5 st l)[l']?=some ob'∧ob'.sz=ob.sz∧(ob'.live=true→ob.live=true):=by
 unfold O5
 grind
theorem ni {st:List Ob} {c:Cl} {l':Nat} {ob:Ob} (h:st[l']?=some ob):∃ ob',(nS st c)[l']?=some ob'∧ob'.sz=ob.sz∧(ob'.live=true→ob.live=true):=by
 cases c with
 | ref l=>exact ng h
 | _=>exact⟨ob,h,rfl,id⟩
theorem XD:∀ {cs cs':List Cl} {st st':List Ob},fzL st cs=some (cs',st')→∀ {l':Nat} {ob:Ob},st[l']?=some ob→∃ ob',st'[l']?=some ob'∧ob'.sz=ob.sz∧(ob'.live=true→ob.live=true)
 | [],cs',st,st',hf,l',ob,h=>by
  simp only[fzL,ah,bJ] at hf
  obtain⟨_,rfl⟩:=hf
  exact⟨ob,h,rfl,id⟩
 | c::cs,cs',st,st',hf,l',ob,h=>by
  simp only[fzL] at hf
  split at hf
  ·rename_i c1 cs1 st1 hc1 hcs1
   simp only[ah,bJ] at hf
   obtain⟨_,rfl⟩:=hf
   obtain⟨o1,p1,p2,p3⟩:=ni (c:=c) h
   obtain⟨o2,r1,r2,r3⟩:=XD hcs1 p1
   exact⟨o2,r1,r2.trans p2,fun hl=>p3 (r3 hl)⟩
  ·cases hf
theorem wH {x y:AV} {st st':List Ob} (hf:fzA st x=some (y,st')) {l':Nat} {ob:Ob} (h:st[l']?=some ob):∃ ob',st'[l']?=some ob'∧ob'.sz=ob.sz∧(ob'.live=true→ob.live=true):=by
 unfold fzA at hf
 split at hf
 ·split at hf
  ·simp only[ah,bJ] at hf
   obtain⟨_,rfl⟩:=hf
   exact ni h
  ·cases hf
 ·grind [ah,bJ,XD]
 ·grind
 ·grind
 ·cases hf
def RdAs (w:World) (St:Nat→Nat→Prop):List AV→List Value→Prop
 | [],us=>us = []
 | x::xs,us=>∃ y ys,us=y::ys∧RdA w St x y∧RdAs w St xs ys
theorem RdAs.mono {w w':World} {St St':Nat→Nat→Prop} (hS:∀ b o,St b o→St' b o) (hw:∀ b o,St b o→w'.cell? ⟨b,o,none⟩=w.cell? ⟨b,o,none⟩):∀ {xs:List AV} {us:List Value},RdAs w St xs us→RdAs w' St' xs us
 | [],_,h=>h
 | x::xs,us,h=>by
  obtain⟨y,ys,h1,h2,h3⟩:=h
  exact⟨y,ys,h1,h2.mono hS hw,RdAs.mono hS hw h3⟩
def ny:List AV→Prop
 | []=>True
 | x::xs=>WfA x∧ny xs
theorem X_ {w:World} {St:Nat→Nat→Prop}:∀ {xs ys:List AV} {us vs:List Value},RdAs w St xs us→RdAs w St ys vs→RdAs w St (xs++ys) (us++vs)
 | [],ys,us,vs,h1,h2=>by simp only[RdAs] at h1; subst h1; exact h2
 | x::xs,ys,us,vs,h1,h2=>by
  obtain⟨y,zs,rfl,h3,h4⟩:=h1
  exact⟨y,zs++vs,rfl,h3,X_ h4 h2⟩
theorem U4 {w:World} {St:Nat→Nat→Prop}:∀ {xs:List (List Cl)} {us:List Value},us.length=xs.length→(∀ (k:Nat) (c:List Cl),xs[k]?=some c→∃ b off,us[k]?=some (.pointer (some ⟨b,off,none⟩))∧RdL w St c b off)→RdAs w St (xs.map AV.ip) us
 | [],us,hl,_=>zu (by simpa using hl)
 | x::xs,[],hl,_=>by simp at hl
 | x::xs,u::us,hl,h=>by
  obtain⟨b,off,hy,hr⟩:=h 0 x rfl
  simp only[aB,ah] at hy
  exact⟨u,us,rfl,⟨b,off,hy,hr⟩,U4 (by simpa using hl) fun k c hk=>by simpa using h (k+1) c (by simpa using hk)⟩
theorem RdAs.wf {w:World} {St:Nat→Nat→Prop}:∀ {xs:List AV} {us:List Value},RdAs w St xs us→ny xs
 | [],_,_=>trivial
 | x::xs,us,h=>by
  obtain⟨y,ys,h1,h2,h3⟩:=h
  exact⟨h2.wf,h3.wf⟩
theorem MO:∀ (xs ys:List AV) (st st':List Ob) (St:Nat→Nat→Prop),Core w0 St0 St β ⟨s.n,s.env,st⟩ a w→O6 st xs=some (ys,st') →
  ∃ St',Core w0 St0 St' β ⟨s.n,s.env,st'⟩ a w∧(∀ b o,St b o→St' b o)∧∀ us,AVRs w St st β xs us→RdAs w St' ys us
 | [],ys,st,st',St,h,hf=>by
  simp only[O6,ah,bJ] at hf
  obtain⟨rfl,rfl⟩:=hf
  exact⟨St,h,fun _ _ h=>h,fun us hu=>by simpa only[AVRs,RdAs] using hu⟩
 | x::xs,ys,st,st',St,h,hf=>by
  simp only[O6] at hf
  split at hf
  ·rename_i y st1 hy
   split at hf
   ·rename_i ys1 st2 hys
    simp only[ah,bJ] at hf
    obtain⟨rfl,rfl⟩:=hf
    obtain⟨St1,q1,q2,q3,q4⟩:=AA3 h hy
    obtain⟨St2,r1,r2,r3⟩:=MO xs ys1 st1 st2 St1 q1 hys
    refine⟨St2,r1,fun b o hbo=>r2 b o (q2 b o hbo),fun us hu=>?_⟩
    simp only[AVRs] at hu
    obtain⟨u,us',rfl,h1,h2⟩:=hu
    refine⟨u,us',rfl,(q4 u h1).mono r2 (fun _ _ _=>rfl),r3 us' ?_⟩
    exact AVRs.mono q2 (fun _ _ _=>rfl) q3 (LY fun l ob hl=>wH hy hl) xs us' h2
   ·cases hf
  ·cases hf
end Go.Vm
