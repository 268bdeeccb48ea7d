/- A part. -/
import Derived.Test.YtnoldekcdlaahaaGreatPVmI
import Derived.Laws.MakeOwn
import Derived.Laws.AppendOwn
set_option linter.unusedSimpArgs false
set_option linter.unusedVariables false
namespace Go.Vm
open Go.RowKit
variable {P:Program} {w0:Bs} {St0 St:Nat→Nat→Prop} {β:Nat→Option Nat} {s:MS} {a:Act} {w:World}
def EQ (P:Program) (t:TypeId):Option Nat:=(P.info? t).map (·.bytes)
def sQ (P:Program) (s:MS) (T:TypeId) (l c:AV):Option (AV×List Ob):=match D_ P T with
 | some e=>match Ac P e,Tt P e,EQ P e with
  | some n,some cs,some by'=>match l,c with
   | .c (.v (.int .i64 nl)),.c (.v (.int .i64 nc))=>if cs.length=n∧0<n∧by'≤65536∧0≤nl∧nl≤nc∧nc≤2147483648
    then some (.c (.ref s.st.length),s.st ++ [⟨e,n,List.replicate nl.toNat cs,true,true⟩]) else none
   | _,_=>none
  | _,_,_=>none
 | none=>none
theorem m_ (zs:Array Value) (n k:Nat) (hk:k<n) (hz:0<zs.size):(madeCells zs n)[k]?=zs[k%zs.size]?:=by
 have hm:k%zs.size<zs.size:=Nat.mod_lt _ hz
 simp[madeCells,hk,hm]
theorem Qk {z:List Cl} {n:Nat} {k:Nat} {c:Cl} (hz:0<z.length) (h:(List.replicate n z).flatten[k]?=some c):z[k%z.length]?=some c∧k<n*z.length:=by
 have hl:∀ x∈List.replicate n z,x.length=z.length:=fun x hx=>AOT
 have hlen:=EK hl
 have hk:k<n*z.length:=by
  rcases bV k (n*z.length) with h' | h'
  ·exact h'
  ·grind
 refine⟨?_,hk⟩
 have hi:k/z.length<n:=Nat.div_lt_of_lt_mul AOT
 have hj:k%z.length<z.length:=Nat.mod_lt _ hz
 have:=Fh hl (k/z.length) (k%z.length) z _ AP1 (au hj)
 grind [Nat.mul_comm,Nat.div_add_mod,au]
theorem AE5 (h:Core w0 St0 St β s a w) (o:Oper) (T:TypeId) (l c:Operand) (ho:o.op = .makeSlice T l c) (hc:Ak l=true) (hc2:Ak c=true) {y:AV} {st':List Ob} (hy:sQ P s T (Ei s l) (Ei s c)=some (y,st')):Does P a w w0 St0 s o y st':=by
 have hl:=CO h l hc
 have hcc:=CO h c hc2
 unfold sQ at hy
 split at hy
 ·rename_i e hte
  have ht:=Ja hte
  split at hy
  ·rename_i n cs0 by' hs hz0 hb
   obtain⟨zs,hz,hwf,rfl⟩:=OL hz0
   split at hy
   ·rename_i nl nc hev1 hev2
    split at hy
    ·rename_i hcond
     obtain⟨hzl0,hn,hby,h0,h1,h2⟩:=hcond
     have hzl:zs.length=n:=APb
     simp only[ak,bK] at hy
     obtain⟨rfl,rfl⟩:=hy
     rw[hev1] at hl
     rw[hev2] at hcc
     obtain⟨hv1,_⟩:=OO hl
     obtain⟨hv2,_⟩:=OO hcc
     unfold Ac at hs
     unfold OJ at hz
     unfold EQ at hb
     cases hi:P.info? e with
     | none=>grind
     | some i =>
      cases hiz:i.zero with
      | none=>grind
      | some z =>
       simp[hi] at hs hb
       simp[hi,hiz] at hz
       have hzs:z.cells.size=n:=by rw[← hzl,← hz]; simp
       have hrun:=run_make (P:=P) w T e i z ht hi hiz .i64 .i64 nl nc h0 h1 (by rw[hb]; have:(by':Int)*nc≤65536*2147483648:=Int.mul_le_mul AOQ h2 AOQ AOQ; omega) AOQ
       have hmc:(madeCells z.cells (nc.toNat*i.size)).size=nc.toNat*i.size:=size_madeCells _ _
       obtain⟨β',q1,q2,q3⟩:=h.newCells e n (List.replicate nl.toNat (zs.map .v)) (madeCells z.cells (nc.toNat*i.size)) (fun x hx=>AOT) (fun k cl hk=>by
        have hzl':(zs.map Cl.v).length=n:=by simpa using hzl
        obtain⟨r1,r2⟩:=Qk AOQ hk
        rw[hzl'] at r1 r2
        simp only[mW,zf] at r1
        obtain⟨v,hv,rfl⟩:=r1
        have hkn:k<nc.toNat*i.size:=by
         rw[hs]
         exact cO r2 (aaE _ AOQ)
        refine⟨v, ?_, ?_⟩
        ·grind [m_]
        ·simp only[RdC,RdD,true_and]
         exact aJ.1 hwf v (bC hv))
       refine⟨_,.slice (some ⟨w.heap.size,0,none⟩) nl.toNat nc.toNat,_,St,β', ?_,.inl rfl,q1, ?_⟩
       ·simp[execOp,ho,hv1,hv2,hrun]
       ·simp only[AVR,RdC,BM]
        rw[bn (aT _)]
        simp only[jV,aV,q2]
        refine⟨rfl,fun _=>⟨nc.toNat,_, ?_, ?_, ?_,alloc_at w _, ?_⟩⟩
        ·simp
        ·simp; omega
        ·simp only[maxLen]; omega
        grind
    ·cases hy
   ·cases hy
  ·cases hy
 ·cases hy
theorem foldl_set:∀ (vs:List Value) (off k:Nat) (A:Array Value),off+k+vs.length≤A.size →
  (vs.zipIdx k).foldl (fun cs (x:Value×Nat)=>cs.setIfInBounds (off+x.2) x.1) A=(A.toList.take (off+k)++vs++A.toList.drop (off+k+vs.length)).toArray
 | [],off,k,A,_=>AOR
 | v::vs,off,k,A,h=>by
  simp only[aI] at h
  simp only[List.zipIdx_cons,abB]
  rw[foldl_set vs off (k+1) (A.setIfInBounds (off+k) v) AOS]
  congr 1
  have:=list_seg_step A.toList (off+k) v vs AOS
  simp only[Array.toList_setIfInBounds]
  rw[show off+(k+1)=off+k+1 from AOQ,this]
  simp
theorem jX (place:Nat→Option (Nat×Nat)) (A:Array Value) (i off size:Nat) (v:Value) (rest:List (Nat×Value)) (hp:place i=some (off,size)) (hv:v.cells.size=size) (hle:off+size≤A.size) :
  Instr.fill place A ((i,v)::rest)=Instr.fill place (A.toList.take off++(v.cells.toList++A.toList.drop (off+size))).toArray rest:=by
 have h1:¬ ((decide (v.cells.size≠size)||decide (off+v.cells.size>A.size))=true):=AOS
 have hfl:=foldl_set v.cells.toList off 0 A AOS
 simp only[abA] at hfl
 have e:v.cells.zipIdx.foldl (fun cs (x:Value×Nat)=>cs.setIfInBounds (off+x.2) x.1) A=(A.toList.take off++(v.cells.toList++A.toList.drop (off+size))).toArray:=by
  rw[← Array.foldl_toList]
  rw[Array.toList_zipIdx,hfl]
  simp[hv]
 simp only[Instr.fill,hp]
 rw[bz h1]
 exact congrArg (fun B=>Instr.fill place B rest) e
def Ib (s:MS) (ps:List (Nat×Operand)):List (Nat×AV):=match ps with
 | []=>[]
 | p::r=>(p.1,Ei s p.2)::Ib s r
def VA:List (Nat×AV)→Nat→Nat→Option (List (List Cl))
 | [],_,_=>some []
 | (i,x)::r,k,n=>match cellsA x,VA r (k+1) n with
  | some cs,some rs=>if i=k∧cs.length=n then some (cs::rs) else none
  | _,_=>none
def jY (P:Program) (T:TypeId) (F:List Cl):List (Nat×AV)→Option (List Cl)
 | []=>some F
 | (i,x)::r=>match AC P T i,cellsA x with
  | some (off,ft),some cs=>match Ac P ft with
   | some n=>if cs.length=n∧off+n≤F.length then jY P T (F.take off++(cs++F.drop (off+n))) r else none
   | none=>none
  | _,_=>none
theorem jZ (n:Nat) {st:List Ob} (hn:0<n):∀ (ps:List (Nat×AV)) (vs:List (Nat×Value)) (k:Nat) (rows:List (List Cl)) (A:Array Value),
  vs.length=ps.length→(∀ (j:Nat) (p:Nat×AV),ps[j]?=some p→∃ q:Nat×Value,vs[j]?=some q∧q.1=p.1∧AVR w St st β p.2 q.2)→VA ps k n=some rows→(k+ps.length)*n≤A.size →
  ∃ B:Array Value,Instr.fill (fun i=>some (i*n,n)) A vs=some B∧B.size=A.size∧(∀ j,j<k*n→B[j]?=A[j]?)∧(∀ j,(k+ps.length)*n≤j→B[j]?=A[j]?) ∧
   ∀ (j:Nat) (c:Cl),rows.flatten[j]?=some c→∃ u,B[k*n+j]?=some u∧RdC w St st β c u
 | [],vs,k,rows,A,hl,_,hr,_=>by
  simp only[VA,ak] at hr
  subst hr
  have:vs = []:=aam APF
  subst this
  exact⟨A,rfl,rfl,fun _ _=>rfl,fun _ _=>rfl,fun j c hj=>by simp at hj⟩
 | (i,x)::ps,vs,k,rows,A,hl,hvs,hr,hA=>by
  cases vs with
  | nil=>simp at hl
  | cons v vs =>
   obtain⟨q,hq1,hq2,hq3⟩:=hvs 0 (i,x) rfl
   simp only[aV,ak] at hq1
   subst hq1
   simp only[VA] at hr
   split at hr
   ·rename_i cs rs hcs hrs
    split at hr
    ·rename_i hik
     obtain⟨hik,hcl⟩:=hik
     simp only[ak] at hr
     subst hr
     subst hik
     obtain⟨c1,c2⟩:=SL hq3 hcs
     obtain⟨vi,vv⟩:=v
     simp only at hq2 hq3 c1 c2
     subst hq2
     have hvsz:vv.cells.size=n:=by
      have:vv.cells.toList.length=vv.cells.size:=AOR
      omega
     simp only[aI] at hA
     have hA':vi*n+n≤A.size:=by
      exact AN2
     have hsz:(A.toList.take (vi*n)++(vv.cells.toList++A.toList.drop (vi*n+n))).toArray.size=A.size:=by
      have:A.toList.length=A.size:=AOR
      have:vv.cells.toList.length=vv.cells.size:=AOR
      simp only[aa8,bu,bI,aaN]
      omega
     obtain⟨B,b1,b2,b3,b4,b5⟩:=jZ n hn ps vs (vi+1) rs (A.toList.take (vi*n)++(vv.cells.toList++A.toList.drop (vi*n+n))).toArray APF
      (fun j p hj=>by simpa using hvs (j+1) p (by simpa using hj)) hrs (by rw[hsz]; rw[show vi+1+ps.length=vi+(ps.length+1) from AOQ]; exact hA)
     have hAl:A.toList.length=A.size:=AOR
     have htl:(A.toList.take (vi*n)).length=vi*n:=AOS
     have hvl:vv.cells.toList.length=n:=by simpa using hvsz
     refine⟨B, ?_,by rw[b2,hsz],fun j hj=>?_,fun j hj=>?_,fun j c hj=>?_⟩
     ·rw[jX _ A vi (vi*n) n vv vs rfl hvsz hA']; exact b1
     ·rw[b3 j (by rw[Zm]; omega)]
      simp only[aa4]
      rw[bH AOQ,aaB,bF hj]
      simp
     ·simp only[aI] at hj
      rw[b4 j (by rw[show vi+1+ps.length=vi+(ps.length+1) from AOQ]; exact hj)]
      have hj2:vi*n+n≤j:=by
       exact AN2
      simp only[aa4]
      rw[bn AOQ,bn AOQ,aaY,htl,hvl]
      rw[show vi*n+n+(j-vi*n-n)=j from AOQ]
      simp
     ·simp only[df] at hj
      rcases bV j n with h1 | h1
      ·rw[bH AOQ] at hj
       obtain⟨u,hu,hc⟩:=c2 j c hj
       refine⟨u, ?_,hc⟩
       rw[b3 _ (by rw[Zm]; omega)]
       simp only[aa4]
       rw[bn AOQ,htl,show vi*n+j-vi*n=j from AOQ,bH AOQ]
       exact hu
      ·rw[bn AOQ,hcl] at hj
       obtain⟨u,hu,hc⟩:=b5 (j-n) c hj
       refine⟨u, ?_,hc⟩
       rw[Zm] at hu
       rw[show vi*n+1*n+(j-n)=vi*n+j from AOQ] at hu
       exact hu
    ·cases hr
   ·cases hr
def LW (P:Program) (s:MS) (T:TypeId) (len:Nat) (ps:List (Nat×Operand)):Option (AV×List Ob):=match D_ P T with
 | some e=>match Ac P e,Tt P e,VA (Ib s ps) 0 ((Ac P e).getD 0) with
  | some n,some zs,some rows=>if rows.length=len∧zs.length=n∧0<n∧len*n≤16777216 then some (.c (.ref s.st.length),s.st ++ [⟨e,n,rows,true,true⟩]) else none
  | _,_,_=>none
 | none=>none
theorem WY (h:Core w0 St0 St β s a w):∀ (ps:List (Nat×Operand)),ps.all (fun p=>Ak p.2)=true→∀ (j:Nat) (p:Nat×AV),(Ib s ps)[j]?=some p →
  ∃ q:Nat×Value,(ps.map fun x=>(x.1,a.eval x.2))[j]?=some q∧q.1=p.1∧AVR w St s.st β p.2 q.2
 | [],_,j,p,hj=>by simp[Ib] at hj
 | q::ps,hc,j,p,hj=>by
  simp only[bi,ay] at hc
  simp only[Ib] at hj
  cases j with
  | zero =>
   simp only[aV,ak] at hj
   subst hj
   exact⟨_,rfl,rfl,CO h q.2 hc.1⟩
  | succ j =>
   simp only[aaW] at hj
   simpa using WY h ps hc.2 j p hj
theorem Zp (ps:List (Nat×Operand)):(Ib s ps).length=ps.length:=by
 induction ps with
 | nil=>rfl
 | cons p ps ih=>simp[Ib,ih]
theorem ja:∀ (ps:List (Nat×AV)) (k n:Nat) (rows:List (List Cl)),VA ps k n=some rows→rows.length=ps.length∧∀ x∈rows,x.length=n
 | [],k,n,rows,h=>by simp[VA] at h; subst h; simp
 | (i,x)::ps,k,n,rows,h=>by
  simp only[VA] at h
  split at h
  ·rename_i cs rs hcs hrs
   split at h
   ·rename_i hik
    simp only[ak] at h
    subst h
    obtain⟨h1,h2⟩:=ja ps (k+1) n rs hrs
    exact⟨by simp[h1],fun y hy=>by
     rcases SK.1 hy with rfl | hy
     ·exact hik.2
     ·exact h2 y hy⟩
   ·cases h
  ·cases h
theorem iQ (h:Core w0 St0 St β s a w) (o:Oper) (T:TypeId) (len:Nat) (ps:Array (Nat×Operand)) (ho:o.op = .buildSlice T len ps) (hc:ps.toList.all (fun p=>Ak p.2)=true) {y:AV} {st':List Ob} (hy:LW P s T len ps.toList=some (y,st')):Does P a w w0 St0 s o y st':=by
 unfold LW at hy
 split at hy
 ·rename_i e hte
  have ht:=Ja hte
  split at hy
  ·rename_i n cs0 rows hs hz0 hrows
   obtain⟨zs,hz,_,rfl⟩:=OL hz0
   split at hy
   ·rename_i hcond
    obtain⟨hlen,hzl0,hn,hmax⟩:=hcond
    have hzl:zs.length=n:=APb
    simp only[ak,bK] at hy
    obtain⟨rfl,rfl⟩:=hy
    rw[hs] at hrows
    simp only[aH] at hrows
    obtain⟨r1,r2⟩:=ja _ _ _ _ hrows
    obtain⟨z,hz1,hz2⟩:=U9 hz w
    have hzs:z.cells.size=n:=by rw[← hzl,← hz2]; simp
    have hpl:=Zp (s:=s) ps.toList
    let A:Array Value:=if len*n=0 then #[] else(Array.range (len*n)).map (z.cells[· % z.cells.size]!)
    have hAs:A.size=len*n:=by
     show (if len*n=0 then #[] else(Array.range (len*n)).map (z.cells[· % z.cells.size]!):Array Value).size=len*n
     split
     ·rename_i h0; simp[h0]
     ·simp
    obtain⟨B,b1,b2,_,_,b5⟩:=jZ (w:=w) (St:=St) (β:=β) (st:=s.st) n hn (Ib s ps.toList) (ps.toList.map fun x=>(x.1,a.eval x.2)) 0 rows A (by simp[hpl]) (WY h ps.toList hc) hrows (by rw[hAs,← hlen,r1]; simp)
    simp only[Nat.zero_mul,sF] at b5
    obtain⟨β',q1,q2,q3⟩:=h.newCells e n rows B r2 b5
    refine⟨_,.slice (some ⟨w.heap.size,0,none⟩) len len,_,St,β', ?_,.inl rfl,q1, ?_⟩
    ·have hmap:(ps.map fun(x:Nat×Operand)=>(x.1,a.eval x.2)).toList=ps.toList.map fun x=>(x.1,a.eval x.2):=by simp
     have hnm:¬ (16777216<len*n):=AOQ
     by_cases h0:len*n=0
     ·have hA0:A = #[]:=by show (if len*n=0 then #[] else _)=_; rw[bF h0]
      rw[hA0] at b1
      have h00:len=0∨n=0:=Nat.mul_eq_zero.1 h0
      simp only[execOp,ho,Instr.buildSlice,Sem.run_bind,run_underlying ht,Result.andThen_ok,IB hs]
      have hr0:(Array.range 0).map (fun i=>(#[]:Array Value)[i%(#[]:Array Value).size]!) = #[]:=AOR
      simp only[gt_iff_lt,Nat.reducePow,h0,bf,bz (Nat.not_lt_zero 16777216),Sem.run_bind,Sem.run_pure,Result.andThen_ok,hmap,hr0,b1,newRow,run_newObj,World.alloc_eq]
     ·have hA1:A=(Array.range (len*n)).map (z.cells[· % z.cells.size]!):=by show (if len*n=0 then #[] else _)=_; rw[bz h0]
      rw[hA1] at b1
      simp only[execOp,ho,Instr.buildSlice,Sem.run_bind,run_underlying ht,Result.andThen_ok,IB hs]
      simp only[gt_iff_lt,Nat.reducePow,bz hnm,bz h0,Sem.run_bind,hz1,Sem.run_pure,Result.andThen_ok,hmap,b1,newRow,run_newObj,World.alloc_eq]
    ·simp only[AVR,RdC,BM]
     rw[bn (aT _)]
     simp only[jV,aV,q2]
     refine⟨rfl,fun _=>⟨len,B,by rw[hlen],AOQ, ?_,alloc_at w _,by rw[b2,hAs]⟩⟩
     have:len≤len*n:=Nat.le_mul_of_pos_right _ hn
     simp only[maxLen]; omega
   ·cases hy
  ·cases hy
 ·cases hy
def Tz (P:Program) (s:MS) (T:TypeId) (ps:List (Nat×Operand)):Option (AV×List Ob):=match Tt P T with
 | some z=>match jY P T z (Ib s ps) with
  | some cs=>some (.agg cs,s.st)
  | none=>none
 | none=>none
theorem Xp {T:TypeId} {fs:Array Field} (hu:P.underlying T=some (.struct fs)) {st:List Ob} (places:Array (Nat×Nat)) (hpl:∀ (i off:Nat) (ft:TypeId) (n:Nat),AC P T i=some (off,ft)→Ac P ft=some n→places[i]?=some (off,n)) :
  ∀ (ps:List (Nat×AV)) (vs:List (Nat×Value)) (F F':List Cl) (A:Array Value),
  vs.length=ps.length→(∀ (j:Nat) (p:Nat×AV),ps[j]?=some p→∃ q:Nat×Value,vs[j]?=some q∧q.1=p.1∧AVR w St st β p.2 q.2)→jY P T F ps=some F'→A.size=F.length →
  (∀ (k:Nat) (c:Cl),F[k]?=some c→∃ u,A.toList[k]?=some u∧RdC w St st β c u) →
  ∃ B:Array Value,Instr.fill (places[·]?) A vs=some B∧B.size=F'.length∧(∀ (k:Nat) (c:Cl),F'[k]?=some c→∃ u,B.toList[k]?=some u∧RdC w St st β c u)
 | [],vs,F,F',A,hl,_,hf,hA,hc=>by
  simp only[jY,ak] at hf
  subst hf
  have:vs = []:=aam APF
  subst this
  exact⟨A,rfl,hA,hc⟩
 | (i,x)::ps,vs,F,F',A,hl,hvs,hf,hA,hc=>by
  cases vs with
  | nil=>simp at hl
  | cons v vs =>
   obtain⟨q,hq1,hq2,hq3⟩:=hvs 0 (i,x) rfl
   simp only[aV,ak] at hq1
   subst hq1
   obtain⟨vi,vv⟩:=v
   simp only at hq2 hq3
   subst hq2
   simp only[jY] at hf
   split at hf
   ·rename_i off ft cs hfi hcs
    split at hf
    ·rename_i n hn
     split at hf
     ·rename_i hcond
      obtain⟨hcl,hle⟩:=hcond
      obtain⟨c1,c2⟩:=SL hq3 hcs
      have hvl:vv.cells.toList.length=n:=AOQ
      have hvsz:vv.cells.size=n:=by simpa using hvl
      have hAl:A.toList.length=A.size:=AOR
      obtain⟨B,b1,b2,b3⟩:=Xp hu places hpl ps vs _ F' (A.toList.take off++(vv.cells.toList++A.toList.drop (off+n))).toArray APF
       (fun j p hj=>by simpa using hvs (j+1) p (by simpa using hj)) hf (by simp only[aa8,bu,bI,aaN]; omega)
       (fun k c hk=>by simpa using Xo hc hle hcl hvl c2 AOQ k c hk)
      exact⟨B,by rw[jX _ A vi off n vv vs (hpl vi off ft n hfi hn) hvsz AOQ]; exact b1,b2,b3⟩
     ·cases hf
    ·cases hf
   ·cases hf
theorem run_places {fs:Array Field} (hall:∀ x∈fs.toList,∃ n,Ac P x.type=some n) (w:World) :
  (fs.mapM fun(f:Field)=>(do pure (f.offset,← sizeOf f.type):Sem (Nat×Nat))).run P w = .ok (fs.map fun f=>(f.offset,(Ac P f.type).getD 0)) w:=by
 rw[abp]
 have key:∀ (l:List Field),(∀ x∈l,∃ n,Ac P x.type=some n)→(l.mapM fun(f:Field)=>(do pure (f.offset,← sizeOf f.type):Sem (Nat×Nat))).run P w = .ok (l.map fun f=>(f.offset,(Ac P f.type).getD 0)) w:=by
  intro l
  induction l with
  | nil=>intro _; simp
  | cons x l ih =>
   intro hl
   obtain⟨n,hn⟩:=hl x AOR
   have:=ih (fun y hy=>hl y APi)
   simp only[List.mapM_cons,Sem.run_bind,IB hn,Result.andThen_ok,Sem.run_pure,this,YR,hn,aH]
 rw[Sem.run_map,key _ hall]
 simp only[Result.andThen_ok]
 congr 1
 apply abl
 simp
def EX (P:Program) (T:TypeId):Bool:=match P.underlying T with
 | some (.struct fs)=>fs.toList.all fun x=>(Ac P x.type).isSome
 | _=>false
theorem ADC (h:Core w0 St0 St β s a w) (o:Oper) (T:TypeId) (ps:Array (Nat×Operand)) (ho:o.op = .build T ps) (hfo:EX P T=true) (hc:ps.toList.all (fun p=>Ak p.2)=true) {y:AV} {st':List Ob} (hy:Tz P s T ps.toList=some (y,st')):Does P a w w0 St0 s o y st':=by
 unfold EX at hfo
 split at hfo
 ·rename_i fs hu
  unfold Tz at hy
  split at hy
  ·rename_i z0 hz0
   obtain⟨zs,hz,hwf,rfl⟩:=OL hz0
   ·split at hy
    ·rename_i cs hcs
     simp only[ak,bK] at hy
     obtain⟨rfl,rfl⟩:=hy
     obtain⟨z,hz1,hz2⟩:=U9 hz w
     have hall:∀ x∈fs.toList,∃ n,Ac P x.type=some n:=fun x hx=>Option.isSome_iff_exists.1 (aJ.1 hfo x hx)
     have hpl:=Zp (s:=s) ps.toList
     obtain⟨B,b1,b2,b3⟩:=Xp (w:=w) (St:=St) (β:=β) (st:=s.st) hu (fs.map fun f=>(f.offset,(Ac P f.type).getD 0)) (fun i off ft n h1 h2=>by
      obtain⟨fs',x,q1,q2,q3,q4⟩:=Tv h1
      rw[hu] at q1
      simp only[ak,TypeDesc.struct.injEq] at q1
      subst q1
      simp[q2,q3,q4,h2]) (Ib s ps.toList) (ps.toList.map fun x=>(x.1,a.eval x.2)) (zs.map .v) cs z.cells (by simp[hpl]) (WY h ps.toList hc) hcs (by rw[ae,← hz2]; simp) (fun k c hk=>by
       simp only[mW,zf] at hk
       obtain⟨v,hv,rfl⟩:=hk
       refine⟨v,by rw[hz2]; exact hv, ?_⟩
       simp only[RdC,RdD,true_and]
       exact aJ.1 hwf v (bC hv))
     have hmap:(ps.map fun(x:Nat×Operand)=>(x.1,a.eval x.2)).toList=ps.toList.map fun x=>(x.1,a.eval x.2):=AOR
     refine⟨_,.agg B,_,St,β, ?_,.inl rfl,h, ?_⟩
     ·simp only[execOp,ho,Instr.build,Sem.run_bind,hz1,run_underlying hu,Result.andThen_ok,run_places hall,hmap]
      simp only[b1,Sem.run_pure,Result.andThen_ok,Sem.run_bind]
     ·simp only[AVR]
      exact⟨B.toList,AOR,by simpa using b2,b3⟩
    ·cases hy
  ·cases hy
 ·cases hfo
def RdA (w:World) (St:Nat→Nat→Prop):AV→Value→Prop
 | .c x,u=>RdD w St x u
 | .agg xs,u=>∃ us:List Value,u = .agg us.toArray∧us.length=xs.length∧∀ (k:Nat) (c:Cl),xs[k]?=some c→∃ y,us[k]?=some y∧RdD w St c y
 | .clo f xs,u=>∃ us:List Value,u = .func (.func f) #[] us.toArray∧us.length=xs.length∧∀ (k:Nat) (c:List Cl),xs[k]?=some c→∃ b off,us[k]?=some (.pointer (some ⟨b,off,none⟩))∧RdL w St c b off
 | .ip xs,u=>∃ b off,u = .pointer (some ⟨b,off,none⟩)∧RdL w St xs b off
 | _,_=>False
theorem RdA.mono {w w':World} {St St':Nat→Nat→Prop} (hS:∀ b o,St b o→St' b o) (hw:∀ b o,St b o→w'.cell? ⟨b,o,none⟩=w.cell? ⟨b,o,none⟩) {x:AV} {u:Value} (h:RdA w St x u):RdA w' St' x u:=by
 cases x with
 | c x=>exact RdD.mono hS hw _ _ h
 | agg xs =>
  obtain⟨us,h1,h2,h3⟩:=h
  refine⟨us,h1,h2,fun k c hk=>?_⟩
  grind [RdD.mono]
 | clo f xs =>
  obtain⟨us,h1,h2,h3⟩:=h
  refine⟨us,h1,h2,fun k c hk=>?_⟩
  grind [RdL.mono]
 | ip xs =>
  obtain⟨b,off,h1,h2⟩:=h
  exact⟨b,off,h1,RdL.mono hS hw _ _ _ h2⟩
 | _=>exact h.elim
theorem RdA.toAVR {w:World} {St:Nat→Nat→Prop} {st:List Ob} {β:Nat→Option Nat} {x:AV} {u:Value} (h:RdA w St x u):AVR w St st β x u:=by
 cases x with
 | c x=>simp only[AVR]; exact RdD.toC h
 | agg xs =>
  obtain⟨us,h1,h2,h3⟩:=h
  simp only[AVR]
  grind [RdD.toC]
 | clo f xs=>simp only[AVR]; exact h
 | ip xs=>simp only[AVR]; exact h
 | _=>exact h.elim
mutual
def sS:Cl→Prop
 | .v x=>QN x=true
 | .ref _=>True
 | .ow _ _ xs=>xs.length≤maxLen∧jc xs
 | .sl xs=>xs.length≤maxLen∧jc xs
def jc:List (List Cl)→Prop
 | []=>True
 | x::xs=>WZ x∧jc xs
def WZ:List Cl→Prop
 | []=>True
 | c::cs=>sS c∧WZ cs
end
def WfA:AV→Prop
 | .c x=>sS x
 | .agg xs=>WZ xs
 | _=>True
mutual
theorem RdD.wf {w:World} {St:Nat→Nat→Prop}:∀ (c:Cl) (u:Value),RdD w St c u→sS c
 | .v x,u,h=>by simp only[RdD] at h; simp only[sS]; exact h.2
 | .ref _,_,h=>by simp[RdD] at h
 | .ow _ _ _,_,h=>by simp[RdD] at h
 | .sl xs,u,h=>by
  simp only[RdD] at h
  simp only[sS]
  obtain⟨a,cap,h1,h2,h3,h4,h5⟩:=h
  refine⟨AOQ, ?_⟩
  rcases h5 with rfl | ⟨b,off,_,h6⟩
  ·simp[jc]
  ·exact RdE.wf xs b off h6
theorem RdE.wf {w:World} {St:Nat→Nat→Prop}:∀ (xs:List (List Cl)) (b off:Nat),RdE w St xs b off→jc xs
 | [],_,_,_=>by simp[jc]
 | x::xs,b,off,h=>by
  simp only[RdE] at h
  simp only[jc]
  exact⟨RdL.wf x b off h.1,RdE.wf xs b _ h.2⟩
theorem RdL.wf {w:World} {St:Nat→Nat→Prop}:∀ (cs:List Cl) (b off:Nat),RdL w St cs b off→WZ cs
 | [],_,_,_=>by simp[WZ]
 | c::cs,b,off,h=>by
  simp only[RdL] at h
  simp only[WZ]
  obtain⟨⟨_,u,_,h3⟩,h4⟩:=h
  exact⟨RdD.wf c u h3,RdL.wf cs b _ h4⟩
end
theorem Zq:∀ (cs:List Cl),(∀ (k:Nat) (c:Cl),cs[k]?=some c→sS c)→WZ cs
 | [],_=>by simp[WZ]
 | c::cs,h=>by
  simp only[WZ]
  exact⟨h 0 c rfl,Zq cs fun k c hk=>h (k+1) c AO1⟩
theorem RdA.wf {w:World} {St:Nat→Nat→Prop} {x:AV} {u:Value} (h:RdA w St x u):WfA x:=by
 cases x with
 | c x=>exact RdD.wf _ _ h
 | agg xs =>
  obtain⟨us,_,_,h3⟩:=h
  refine Zq xs fun k c hk=>?_
  grind [RdD.wf]
 | clo f xs=>exact trivial
 | ip xs=>exact trivial
 | _=>exact h.elim
theorem Yk:∀ {xs:List (List Cl)},jc xs→∀ x∈xs,WZ x
 | [],_,x,h=>AOx
 | y::xs,h,x,hx=>by
  simp only[jc] at h
  rcases SK.1 hx with rfl | hx
  ·exact h.1
  ·exact Yk h.2 x hx
theorem ADE:∀ (xs:List (List Cl)),(∀ x∈xs,WZ x)→jc xs
 | [],_=>by simp[jc]
 | y::xs,h=>by
  simp only[jc]
  exact⟨h y AOR,ADE xs fun x hx=>h x APc⟩
def fzL (st:List Ob):List Cl→Option (List Cl×List Ob)
 | []=>some ([],st)
 | c::cs=>match fzC st c,fzL (sH st c) cs with
  | some c',some (cs',st')=>some (c'::cs',st')
  | _,_=>none
def fzA (st:List Ob):AV→Option (AV×List Ob)
 | .c x=>match fzC st x with
  | some y=>some (.c y,sH st x)
  | none=>none
 | .agg xs=>match fzL st xs with
  | some (ys,st')=>some (.agg ys,st')
  | none=>none
 | .clo f xs=>some (.clo f xs,st)
 | .ip xs=>some (.ip xs,st)
 | _=>none
def We (st:List Ob):List AV→Option (List AV×List Ob)
 | []=>some ([],st)
 | x::xs=>match fzA st x with
  | some (y,st')=>match We st' xs with
   | some (ys,st'')=>some (y::ys,st'')
   | none=>none
  | none=>none
theorem nC (h:Core w0 St0 St β s a w) {c c':Cl} (hc:fzC s.st c=some c') :
  ∃ St',Core w0 St0 St' β ⟨s.n,s.env,sH s.st c⟩ a w∧(∀ b o,St b o→St' b o)∧(∀ l u,BM w s.st β l u→BM w (sH s.st c) β l u)∧∀ u,RdB w St s.st β c u→RdD w St' c' u:=by
 unfold fzC at hc
 split at hc
 ·simp only[ak] at hc
  subst hc
  refine⟨St,h,fun _ _ h=>h,fun _ _ h=>h,fun u hu=>?_⟩
  simp only[RdB,RdC,RdD] at hu ⊢
  obtain⟨rfl,_⟩:=hu
  exact⟨none,0,rfl,AOR,by simp[maxLen],⟨0,AOR⟩,.inl trivial⟩
 ·cases hc
 ·exact ANr
 ·exact ANr
 ·rename_i l
  split at hc
  ·rename_i ob hob
   split at hc
   ·rename_i hp
    simp only[ak] at hc
    subst hc
    obtain⟨St',h1,h2,h3,_⟩:=h.freeze l hob hp
    exact⟨St',h1,h2,fun l' u hu=>(WW l' u).2 hu,h3⟩
   ·cases hc
  ·cases hc
 ·cases hc
theorem ADF:∀ (cs:List Cl) (st:List Ob) (cs':List Cl) (st':List Ob) (St:Nat→Nat→Prop),Core w0 St0 St β ⟨s.n,s.env,st⟩ a w→fzL st cs=some (cs',st') →
  ∃ St',Core w0 St0 St' β ⟨s.n,s.env,st'⟩ a w∧(∀ b o,St b o→St' b o)∧(∀ l u,BM w st β l u→BM w st' β l u)∧cs'.length=cs.length∧∀ (k:Nat) (c:Cl),cs'[k]?=some c→∃ d,cs[k]?=some d∧∀ u,RdB w St st β d u→RdD w St' c u
 | [],st,cs',st',St,h,hf=>by
  simp only[fzL,ak,bK] at hf
  obtain⟨rfl,rfl⟩:=hf
  exact⟨St,h,fun _ _ h=>h,fun _ _ h=>h,rfl,fun k c hk=>APA⟩
 | c::cs,st,cs',st',St,h,hf=>by
  simp only[fzL] at hf
  split at hf
  ·rename_i c1 cs1 st1 hc1 hcs1
   simp only[ak,bK] at hf
   obtain⟨rfl,rfl⟩:=hf
   obtain⟨St1,q1,q2,q3,q4⟩:=nC h hc1
   obtain⟨St2,r1,r2,r3,r4,r5⟩:=ADF cs (sH st c) cs1 st1 St1 q1 hcs1
   refine⟨St2,r1,fun b o hbo=>r2 b o (q2 b o hbo),fun l u hu=>r3 l u (q3 l u hu),by simp[r4],fun k d hk=>?_⟩
   cases k with
   | zero =>
    simp only[aV,ak] at hk
    subst hk
    exact⟨c,rfl,fun u hu=>RdD.mono r2 (fun _ _ _=>rfl) _ _ (q4 u hu)⟩
   | succ k =>
    obtain⟨d',hd1,hd2⟩:=r5 k d AO1
    exact⟨d',by simpa using hd1,fun u hu=>hd2 u (RdB.mono q2 (fun _ _ _=>rfl) q3 _ _ hu)⟩
  ·cases hf
theorem T_ {st st':List Ob} (hlen:∀ (l:Nat) (ob:Ob),st[l]?=some ob→∃ ob':Ob,st'[l]?=some ob'∧ob'.sz=ob.sz∧(ob'.live=true→ob.live=true)) {St St':Nat→Nat→Prop} {w w':World} :
  ∀ l i off u,AVR w St st β (.lp l i off) u→AVR w' St' st' β (.lp l i off) u:=by
 intro l i off u hu
 simp only[AVR] at hu ⊢
 grind
theorem ADG {x y:AV} {st st':List Ob} {St:Nat→Nat→Prop} (h:Core w0 St0 St β ⟨s.n,s.env,st⟩ a w) (hf:fzA st x=some (y,st')) :
  ∃ St',Core w0 St0 St' β ⟨s.n,s.env,st'⟩ a w∧(∀ b o,St b o→St' b o)∧(∀ l u,BM w st β l u→BM w st' β l u)∧∀ u,AVR w St st β x u→RdA w St' y u:=by
 unfold fzA at hf
 split at hf
 ·rename_i c
  split at hf
  ·rename_i c' hc
   simp only[ak,bK] at hf
   obtain⟨rfl,rfl⟩:=hf
   obtain⟨St',q1,q2,q3,q4⟩:=nC h hc
   exact⟨St',q1,q2,q3,fun u hu=>q4 u (RdC.toB (by simpa only[AVR] using hu))⟩
  ·cases hf
 ·rename_i xs
  split at hf
  ·rename_i ys st1 hl
   simp only[ak,bK] at hf
   obtain⟨rfl,rfl⟩:=hf
   obtain⟨St',q1,q2,q3,q4,q5⟩:=ADF xs st ys st1 St h hl
   refine⟨St',q1,q2,q3,fun u hu=>?_⟩
   simp only[AVR] at hu
   obtain⟨us,h1,h2,h3⟩:=hu
   refine⟨us,h1,by rw[h2,q4],fun k c hk=>?_⟩
   obtain⟨d,hd1,hd2⟩:=q5 k c hk
   obtain⟨u,hu1,hu2⟩:=h3 k d hd1
   exact⟨u,hu1,hd2 u hu2.toB⟩
  ·cases hf
 ·exact AMe
 ·exact AMe
 ·cases hf
theorem sU {st:List Ob} {l l':Nat} {ob:Ob} (h:st[l']?=some ob):∃ ob',(QO st l)[l']?=some ob'∧ob'.sz=ob.sz∧(ob'.live=true→ob.live=true):=by
 unfold QO
 grind
theorem sV {st:List Ob} {c:Cl} {l':Nat} {ob:Ob} (h:st[l']?=some ob):∃ ob',(sH st c)[l']?=some ob'∧ob'.sz=ob.sz∧(ob'.live=true→ob.live=true):=by
 cases c with
 | ref l=>exact sU h
 | _=>exact⟨ob,h,rfl,id⟩
theorem zk:∀ {cs cs':List Cl} {st st':List Ob},fzL st cs=some (cs',st')→∀ {l':Nat} {ob:Ob},st[l']?=some ob→∃ ob',st'[l']?=some ob'∧ob'.sz=ob.sz∧(ob'.live=true→ob.live=true)
 | [],cs',st,st',hf,l',ob,h=>by
  simp only[fzL,ak,bK] at hf
  obtain⟨_,rfl⟩:=hf
  exact⟨ob,h,rfl,id⟩
 | c::cs,cs',st,st',hf,l',ob,h=>by
  simp only[fzL] at hf
  split at hf
  ·rename_i c1 cs1 st1 hc1 hcs1
   simp only[ak,bK] at hf
   obtain⟨_,rfl⟩:=hf
   obtain⟨o1,p1,p2,p3⟩:=sV (c:=c) h
   obtain⟨o2,r1,r2,r3⟩:=zk hcs1 p1
   exact⟨o2,r1,r2.trans p2,fun hl=>p3 (r3 hl)⟩
  ·cases hf
theorem zl {x y:AV} {st st':List Ob} (hf:fzA st x=some (y,st')) {l':Nat} {ob:Ob} (h:st[l']?=some ob):∃ ob',st'[l']?=some ob'∧ob'.sz=ob.sz∧(ob'.live=true→ob.live=true):=by
 unfold fzA at hf
 split at hf
 ·split at hf
  ·simp only[ak,bK] at hf
   obtain⟨_,rfl⟩:=hf
   exact sV h
  ·cases hf
 ·grind [ak,bK,zk]
 ·grind
 ·grind
 ·cases hf
def RdAs (w:World) (St:Nat→Nat→Prop):List AV→List Value→Prop
 | [],us=>us = []
 | x::xs,us=>∃ y ys,us=y::ys∧RdA w St x y∧RdAs w St xs ys
theorem RdAs.mono {w w':World} {St St':Nat→Nat→Prop} (hS:∀ b o,St b o→St' b o) (hw:∀ b o,St b o→w'.cell? ⟨b,o,none⟩=w.cell? ⟨b,o,none⟩):∀ {xs:List AV} {us:List Value},RdAs w St xs us→RdAs w' St' xs us
 | [],_,h=>h
 | x::xs,us,h=>by
  obtain⟨y,ys,h1,h2,h3⟩:=h
  exact⟨y,ys,h1,h2.mono hS hw,RdAs.mono hS hw h3⟩
def ABP:List AV→Prop
 | []=>True
 | x::xs=>WfA x∧ABP xs
theorem Zr {w:World} {St:Nat→Nat→Prop}:∀ {xs ys:List AV} {us vs:List Value},RdAs w St xs us→RdAs w St ys vs→RdAs w St (xs++ys) (us++vs)
 | [],ys,us,vs,h1,h2=>by simp only[RdAs] at h1; subst h1; exact h2
 | x::xs,ys,us,vs,h1,h2=>by
  obtain⟨y,zs,rfl,h3,h4⟩:=h1
  exact⟨y,zs++vs,rfl,h3,Zr h4 h2⟩
theorem Wh {w:World} {St:Nat→Nat→Prop}:∀ {xs:List (List Cl)} {us:List Value},us.length=xs.length→(∀ (k:Nat) (c:List Cl),xs[k]?=some c→∃ b off,us[k]?=some (.pointer (some ⟨b,off,none⟩))∧RdL w St c b off)→RdAs w St (xs.map AV.ip) us
 | [],us,hl,_=>aam APF
 | x::xs,[],hl,_=>APr
 | x::xs,u::us,hl,h=>by
  obtain⟨b,off,hy,hr⟩:=h 0 x rfl
  simp only[aV,ak] at hy
  exact⟨u,us,rfl,⟨b,off,hy,hr⟩,Wh APF fun k c hk=>by simpa using h (k+1) c AO1⟩
theorem RdAs.wf {w:World} {St:Nat→Nat→Prop}:∀ {xs:List AV} {us:List Value},RdAs w St xs us→ABP xs
 | [],_,_=>trivial
 | x::xs,us,h=>by
  obtain⟨y,ys,h1,h2,h3⟩:=h
  exact⟨h2.wf,h3.wf⟩
theorem VB:∀ (xs ys:List AV) (st st':List Ob) (St:Nat→Nat→Prop),Core w0 St0 St β ⟨s.n,s.env,st⟩ a w→We st xs=some (ys,st') →
  ∃ St',Core w0 St0 St' β ⟨s.n,s.env,st'⟩ a w∧(∀ b o,St b o→St' b o)∧∀ us,AVRs w St st β xs us→RdAs w St' ys us
 | [],ys,st,st',St,h,hf=>by
  simp only[We,ak,bK] at hf
  obtain⟨rfl,rfl⟩:=hf
  exact⟨St,h,fun _ _ h=>h,fun us hu=>by simpa only[AVRs,RdAs] using hu⟩
 | x::xs,ys,st,st',St,h,hf=>by
  simp only[We] at hf
  split at hf
  ·rename_i y st1 hy
   split at hf
   ·rename_i ys1 st2 hys
    simp only[ak,bK] at hf
    obtain⟨rfl,rfl⟩:=hf
    obtain⟨St1,q1,q2,q3,q4⟩:=ADG h hy
    obtain⟨St2,r1,r2,r3⟩:=VB xs ys1 st1 st2 St1 q1 hys
    refine⟨St2,r1,fun b o hbo=>r2 b o (q2 b o hbo),fun us hu=>?_⟩
    simp only[AVRs] at hu
    obtain⟨u,us',rfl,h1,h2⟩:=hu
    refine⟨u,us',rfl,(q4 u h1).mono r2 (fun _ _ _=>rfl),r3 us' ?_⟩
    exact AVRs.mono q2 (fun _ _ _=>rfl) q3 (T_ fun l ob hl=>zl hy hl) xs us' h2
   ·cases hf
  ·cases hf
mutual
def er:Cl→Cl
 | .ow _ _ xs=>.sl (QG xs)
 | .v x=>.v x
 | .sl xs=>.sl xs
 | .ref l=>.ref l
def QG:List (List Cl)→List (List Cl)
 | []=>[]
 | x::xs=>KA x::QG xs
def KA:List Cl→List Cl
 | []=>[]
 | c::cs=>er c::KA cs
end
theorem VC:∀ (cs:List Cl),(KA cs).length=cs.length
 | []=>rfl
 | c::cs=>by simp[KA,VC cs]
theorem nD:∀ (xs:List (List Cl)),(QG xs).length=xs.length
 | []=>rfl
 | x::xs=>by simp[QG,nD xs]
theorem xe:∀ {cs:List Cl} {k:Nat} {c:Cl},(KA cs)[k]?=some c→∃ d,cs[k]?=some d∧c=er d
 | [],k,c,h=>by simp[KA] at h
 | d::cs,0,c,h=>by simp only[KA,aV,ak] at h; exact⟨d,rfl,h.symm⟩
 | d::cs,k+1,c,h=>by simp only[KA,aaW] at h ⊢; exact xe h
theorem nG:∀ {xs:List (List Cl)} {k:Nat} {x:List Cl},(QG xs)[k]?=some x→∃ y,xs[k]?=some y∧x=KA y
 | [],k,c,h=>by simp[QG] at h
 | d::cs,0,c,h=>by simp only[QG,aV,ak] at h; exact⟨d,rfl,h.symm⟩
 | d::cs,k+1,c,h=>by simp only[QG,aaW] at h ⊢; exact nG h
theorem nH {α:Type} (f:α→List Cl):∀ (l:List α),QG (l.map f)=l.map fun x=>KA (f x)
 | []=>rfl
 | x::l=>by simp[QG,nH f l]
mutual
theorem RdO.frz {w:World} {St:Nat→Nat→Prop}:∀ (c:Cl) (u:Value) (F:Nat→Prop),RdO w St c u F→RdD w (fun b o=>St b o∨F b) (er c) u
 | .v x,u,F,h=>by simp only[RdO,er,RdD] at h ⊢; exact h
 | .ref _,u,F,h=>by simp[RdO] at h
 | .sl xs,u,F,h=>by simp only[RdO,er] at h ⊢; exact RdD.mono (fun _ _ h=>.inl h) (fun _ _ _=>rfl) _ _ h
 | .ow ty sz xs,u,F,h=>by
  simp only[RdO] at h
  simp only[er,RdD,nD]
  rcases h with ⟨rfl,rfl⟩ | ⟨b,cap,cs,G,rfl,h2,h3,h4,h5,h6,h7,h8,h9,h10⟩
  ·exact⟨none,0,rfl,AOR,by simp[maxLen],⟨0,by simp[QG]⟩,.inl (by simp[QG])⟩
  ·refine⟨some ⟨b,0,none⟩,cap,rfl,h2,h3,⟨sz,fun x hx=>?_⟩,.inr ⟨b,0,rfl, ?_⟩⟩
   ·obtain⟨k,hk⟩:=abb.1 hx
    obtain⟨y,hy,rfl⟩:=nG hk
    rw[VC]; exact h6 y (bC hy)
   ·have:=RdOE.frz (w:=w) (St:=St) (b:=b) (ty:=ty) h4 xs 0 G h10
    exact RdE.mono (fun b' o hbo=>by
     rcases hbo with hbo | rfl | ⟨k,hk⟩
     ·exact .inl hbo
     ·exact .inr h7
     ·exact .inr (h8 k b' hk).1) (fun _ _ _=>rfl) _ _ _ this
theorem RdOE.frz {w:World} {St:Nat→Nat→Prop} {b:Nat} {ty:TypeId} {cs:Array Value} (hb:w.heap[b]?=some (.cells cs ty (0,0))):∀ (xs:List (List Cl)) (n:Nat) (G:Nat→Nat→Prop),RdOE w St xs n cs G→RdE w (fun b' o=>St b' o∨b'=b∨∃ k,G k b') (QG xs) b n
 | [],_,_,_=>by simp[QG,RdE]
 | x::xs,n,G,h=>by
  simp only[RdOE,QG,RdE,VC] at h ⊢
  exact⟨RdOL.frz hb x n G h.1,RdOE.frz hb xs _ G h.2⟩
theorem RdOL.frz {w:World} {St:Nat→Nat→Prop} {b:Nat} {ty:TypeId} {cs:Array Value} (hb:w.heap[b]?=some (.cells cs ty (0,0))):∀ (cl:List Cl) (n:Nat) (G:Nat→Nat→Prop),RdOL w St cl n cs G→RdL w (fun b' o=>St b' o∨b'=b∨∃ k,G k b') (KA cl) b n
 | [],_,_,_=>by simp[KA,RdL]
 | c::cl,n,G,h=>by
  simp only[RdOL,KA,RdL] at h ⊢
  obtain⟨⟨y,h1,h2⟩,h3⟩:=h
  exact⟨⟨.inr (.inl trivial),y,by simp[World.cell?,hb,h1],RdD.mono (fun b' o hbo=>by
   rcases hbo with hbo | hbo
   ·exact .inl hbo
   ·exact .inr (.inr ⟨n,hbo⟩)) (fun _ _ _=>rfl) _ _ (RdO.frz c y (G n) h2)⟩,RdOL.frz hb cl _ G h3⟩
end
theorem RdOL.at {w:World} {St:Nat→Nat→Prop} {cs:Array Value} {G:Nat→Nat→Prop}:∀ {cl:List Cl} {n:Nat},RdOL w St cl n cs G→∀ {k:Nat} {c:Cl},cl[k]?=some c→∃ y,cs[n+k]?=some y∧RdO w St c y (G (n+k))
 | [],_,_,k,c,hk=>APA
 | d::cl,n,h,0,c,hk=>by
  simp only[RdOL] at h
  simp only[aV,ak] at hk
  subst hk
  exact h.1
 | d::cl,n,h,k+1,c,hk=>by
  simp only[RdOL] at h
  have:=RdOL.at h.2 (k:=k) (c:=c) AO1
  rwa [show n+1+k=n+(k+1) from AOQ] at this
theorem RdOE.at {w:World} {St:Nat→Nat→Prop} {cs:Array Value} {G:Nat→Nat→Prop}:∀ {xs:List (List Cl)} {n:Nat},RdOE w St xs n cs G→∀ {k:Nat} {c:Cl},xs.flatten[k]?=some c→∃ y,cs[n+k]?=some y∧RdO w St c y (G (n+k))
 | [],_,_,k,c,hk=>APA
 | x::xs,n,h,k,c,hk=>by
  simp only[RdOE] at h
  simp only[df] at hk
  rcases bV k x.length with h' | h'
  ·rw[bH h'] at hk
   exact h.1.at hk
  ·rw[bn h'] at hk
   have:=RdOE.at h.2 hk
   rwa [show n+x.length+(k-x.length)=n+k from AOQ] at this
theorem RdOL.mk {w:World} {St:Nat→Nat→Prop} {cs:Array Value} {G:Nat→Nat→Prop}:∀ {cl:List Cl} {n:Nat},(∀ (k:Nat) (c:Cl),cl[k]?=some c→∃ y,cs[n+k]?=some y∧RdO w St c y (G (n+k)))→RdOL w St cl n cs G
 | [],_,_=>by simp[RdOL]
 | d::cl,n,h=>by
  simp only[RdOL]
  refine⟨by simpa using h 0 d rfl,RdOL.mk fun k c hk=>?_⟩
  have:=h (k+1) c AO1
  rwa [show n+(k+1)=n+1+k from AOQ] at this
theorem RdOE.mk {w:World} {St:Nat→Nat→Prop} {cs:Array Value} {G:Nat→Nat→Prop}:∀ {xs:List (List Cl)} {n:Nat},(∀ (k:Nat) (c:Cl),xs.flatten[k]?=some c→∃ y,cs[n+k]?=some y∧RdO w St c y (G (n+k)))→RdOE w St xs n cs G
 | [],_,_=>by simp[RdOE]
 | x::xs,n,h=>by
  simp only[RdOE]
  refine⟨RdOL.mk fun k c hk=>?_,RdOE.mk fun k c hk=>?_⟩
  ·have hk':k<x.length:=(aF.1 hk).1
   exact h k c (by rw[df,bH hk']; exact hk)
  ·have:=h (x.length+k) c (by rw[df,bn AOQ]; rwa [show x.length+k-x.length=k from AOQ])
   rwa [show n+(x.length+k)=n+x.length+k from AOQ] at this
theorem RdO.toB {w:World} {St:Nat→Nat→Prop} {st:List Ob} {β:Nat→Option Nat} {c:Cl} {u:Value} {F:Nat→Prop} (h:RdO w St c u F):RdB w St st β c u:=by
 cases c with
 | v x=>simp only[RdO] at h; exact(show RdD w St (.v x) u by simp only[RdD]; exact h)
 | sl xs=>simp only[RdO] at h; exact h
 | ref l=>simp[RdO] at h
 | ow ty sz xs =>
  simp only[RdO] at h
  rcases h with ⟨rfl,_⟩ | ⟨b,cap,cs,G,rfl,_⟩<;>rfl
theorem RdO.plain {w:World} {St:Nat→Nat→Prop} {c:Cl} {u:Value} {F:Nat→Prop} (hc:Gm c=false):RdO w St c u F↔RdD w St c u:=by
 cases c with
 | v x=>simp only[RdO,RdD]
 | sl xs=>simp only[RdO]
 | ref l=>simp[RdO,RdD]
 | ow ty sz xs=>simp[Gm] at hc
inductive Res where
 | val (x:AV)
 | own (ty:TypeId) (sz:Nat) (xs:List (List Cl)) (wr:Bool)
 | agg (cl:List Cl)
def Res1 (w':World) (St':Nat→Nat→Prop) (B:Nat):Res→Value→Option Nat→(Nat→Nat→Prop)→Prop
 | .val x,u,b,_=>RdA w' St' x u∧b=none
 | .own _ _ xs _,u,none,_=>u = .slice none 0 0∧xs = []
 | .own ty sz xs wr,u,some b,Φ=>B≤b∧b<w'.heap.size∧(∀ x∈xs,x.length=sz)∧(∀ o,St' b o→wr=false∧o<xs.length*sz) ∧
   ∃ (cap:Nat) (cs:Array Value),u = .slice (some ⟨b,0,none⟩) xs.length cap∧xs.length≤cap∧cap≤maxLen∧w'.heap[b]?=some (.cells cs ty (0,0))∧cs.size=cap*sz ∧
    ∀ (k:Nat) (c:Cl),xs.flatten[k]?=some c→∃ y,cs[k]?=some y∧RdO w' St' c y (Φ k)
 | .agg cl,u,b,Φ=>b=none∧∃ us:List Value,u = .agg us.toArray∧us.length=cl.length∧∀ (k:Nat) (c:Cl),cl[k]?=some c→∃ y,us[k]?=some y∧RdO w' St' c y (Φ k)
def ResR (w':World) (St':Nat→Nat→Prop) (B:Nat):List Res→List Value→List (Option Nat)→List (Nat→Nat→Prop)→Prop
 | [],us,bs,Φs=>us = []∧bs = []∧Φs = []
 | r::rs,us,bs,Φs=>∃ u us' b bs' Φ Φs',us=u::us'∧bs=b::bs'∧Φs=Φ::Φs'∧Res1 w' St' B r u b Φ∧ResR w' St' B rs us' bs' Φs'
structure FpOk (w':World) (St':Nat→Nat→Prop) (B:Nat) (bs:List (Option Nat)) (Φs:List (Nat→Nat→Prop)):Prop where
 nodup:∀ (i j b:Nat),bs[i]?=some (some b)→bs[j]?=some (some b)→i=j
 fresh:∀ (i:Nat) (Φ:Nat→Nat→Prop) (k x:Nat),Φs[i]?=some Φ→Φ k x→B≤x∧x<w'.heap.size∧(∀ o,¬ St' x o)∧∀ j:Nat,bs[j]?≠some (some x)
 dis:∀ (i i':Nat) (Φ Φ':Nat→Nat→Prop) (k k' x:Nat),Φs[i]?=some Φ→Φs[i']?=some Φ'→Φ k x→Φ' k' x→i=i'∧k=k'
theorem FpOk.tail {w':World} {St':Nat→Nat→Prop} {B:Nat} {b:Option Nat} {bs:List (Option Nat)} {Φ:Nat→Nat→Prop} {Φs:List (Nat→Nat→Prop)} (h:FpOk w' St' B (b::bs) (Φ::Φs)):FpOk w' St' B bs Φs where
 nodup:=fun i j x hi hj=>by have:=h.nodup (i+1) (j+1) x AOT AOT; omega
 fresh:=fun i Ψ k x hi hx=>by
  obtain⟨q1,q2,q3,q4⟩:=h.fresh (i+1) Ψ k x AOT hx
  exact⟨q1,q2,q3,fun j hj=>q4 (j+1) AOT⟩
 dis:=fun i i' Ψ Ψ' k k' x hi hi' hx hx'=>by
  have:=h.dis (i+1) (i'+1) Ψ Ψ' k k' x AOT AOT hx hx'
  omega
def Wi:List Value→Value
 | [u]=>u
 | us=>.tuple us.toArray
structure Back (w:World) (St:Nat→Nat→Prop) (rs:List Res) (e:Ending) (w':World) (us:List Value) (bs:List (Option Nat)) (St':Nat→Nat→Prop):Prop where
 ret:e = .returned (Wi us)
 below:Below w.heap.size w w'
 st:∀ b o,St b o→St' b o
 stOld:∀ b o,St' b o→b<w.heap.size→St b o
 stIn:∀ b o,St' b o→b<w'.heap.size
 res:∃ Φs,ResR w' St' w.heap.size rs us bs Φs∧FpOk w' St' w.heap.size bs Φs
def CallsIn (P:Program) (f:FuncId):Prop:=∀ args w,(callFunc f args).run P w = .ok (.enter f args) w
def Ctr (P:Program) (f:FuncId) (args:List AV) (rs:List Res):Prop:=
 CallsIn P f∧∀ (w:World) (St:Nat→Nat→Prop) (vs:List Value),(∀ b o,St b o→b<w.heap.size)→RdAs w St args vs →
  Calls P f vs.toArray w fun e w'=>∃ us bs St',Back w St rs e w' us bs St'
def WfR:Res→Prop
 | .val x=>WfA x
 | .own _ _ xs _=>xs.length≤maxLen∧jc xs
 | .agg cl=>WZ cl
def YS:List Res→Prop
 | []=>True
 | r::rs=>WfR r∧YS rs
theorem ABQ {xs:List (List Cl)} {sz:Nat} {Q:Cl→Prop} (hl:∀ x∈xs,x.length=sz) (h:∀ (k:Nat) (c:Cl),xs.flatten[k]?=some c→Q c):∀ x∈xs,∀ (j:Nat) (c:Cl),x[j]?=some c→Q c:=by
 intro x hx j c hj
 obtain⟨i,hi⟩:=abb.1 hx
 exact h _ c (Fh hl i j x c hi hj)
mutual
theorem RdO.wf {w:World} {St:Nat→Nat→Prop}:∀ (c:Cl) (u:Value) (F:Nat→Prop),RdO w St c u F→sS c
 | .v x,u,F,h=>by simp only[RdO] at h; simp only[sS]; exact h.2
 | .sl xs,u,F,h=>by simp only[RdO] at h; exact RdD.wf _ _ h
 | .ref _,u,F,h=>by simp[RdO] at h
 | .ow ty sz xs,u,F,h=>by
  simp only[RdO] at h
  simp only[sS]
  rcases h with ⟨_,rfl⟩ | ⟨b,cap,cs,G,_,h2,h3,_,_,_,_,_,_,h10⟩
  ·exact⟨AOR,by simp[jc]⟩
  ·exact⟨AOQ,RdOE.wf xs 0 cs G h10⟩
theorem RdOE.wf {w:World} {St:Nat→Nat→Prop}:∀ (xs:List (List Cl)) (n:Nat) (cs:Array Value) (G:Nat→Nat→Prop),RdOE w St xs n cs G→jc xs
 | [],_,_,_,_=>by simp[jc]
 | x::xs,n,cs,G,h=>by
  simp only[RdOE] at h
  simp only[jc]
  exact⟨RdOL.wf x n cs G h.1,RdOE.wf xs _ cs G h.2⟩
theorem RdOL.wf {w:World} {St:Nat→Nat→Prop}:∀ (cl:List Cl) (n:Nat) (cs:Array Value) (G:Nat→Nat→Prop),RdOL w St cl n cs G→WZ cl
 | [],_,_,_,_=>by simp[WZ]
 | c::cl,n,cs,G,h=>by
  simp only[RdOL] at h
  simp only[WZ]
  obtain⟨⟨y,_,h2⟩,h3⟩:=h
  exact⟨RdO.wf c y _ h2,RdOL.wf cl _ cs G h3⟩
end
theorem ResR.wf {w':World} {St':Nat→Nat→Prop} {B:Nat}:∀ {rs:List Res} {us:List Value} {bs:List (Option Nat)} {Φs:List (Nat→Nat→Prop)},ResR w' St' B rs us bs Φs→YS rs
 | [],_,_,_,_=>trivial
 | r::rs,us,bs,Φs,h=>by
  obtain⟨u,us',b,bs',Φ,Φs',_,_,_,h1,h2⟩:=h
  refine⟨?_,h2.wf⟩
  cases r with
  | val x=>exact h1.1.wf
  | agg cl =>
   obtain⟨_,us2,_,_,h3⟩:=h1
   exact Zq _ fun k c hk=>by obtain⟨y,_,hy⟩:=h3 k c hk; exact RdO.wf c y _ hy
  | own ty sz xs wr =>
   cases b with
   | none=>obtain⟨_,rfl⟩:=h1; exact⟨AOR,trivial⟩
   | some b =>
    obtain⟨_,_,hl,_,cap,cs,_,q1,q2,_,_,q3⟩:=h1
    refine⟨AOQ,ADE _ fun x hx=>Zq _ fun k c hk=>?_⟩
    exact ABQ (Q:=sS) hl (fun k c hk=>by obtain⟨y,_,hy⟩:=q3 k c hk; exact RdO.wf c y _ hy) x hx k c hk
def Zt:Res→Res
 | .val x=>.val x
 | .own _ _ xs _=>.val (.c (.sl (QG xs)))
 | .agg cl=>.val (.agg (KA cl))
theorem VD {w w':World} {St St':Nat→Nat→Prop} {rs:List Res} {e:Ending} {us:List Value} {bs:List (Option Nat)} (hb:Back w St rs e w' us bs St'):∃ bs' St'',Back w St (rs.map Zt) e w' us bs' St'':=by
 obtain⟨Φs,hr,hf⟩:=hb.res
 have key:∀ (rs:List Res) (us:List Value) (bs:List (Option Nat)) (Φs:List (Nat→Nat→Prop)) (T:Nat→Nat→Prop),ResR w' St' w.heap.size rs us bs Φs→(∀ b o,St' b o→T b o) →
   (∀ (i b:Nat),bs[i]?=some (some b)→∀ o,T b o)→(∀ (i:Nat) (Φ:Nat→Nat→Prop) (k x:Nat),Φs[i]?=some Φ→Φ k x→∀ o,T x o)→∃ bs' Φs',ResR w' T w.heap.size (rs.map Zt) us bs' Φs'∧(∀ i b:Nat,bs'[i]?≠some (some b))∧∀ (i:Nat) (Φ:Nat→Nat→Prop) (k x:Nat),Φs'[i]?=some Φ→¬ Φ k x:=by
  intro rs
  induction rs with
  | nil =>
   intro us bs Φs T h _ _ _
   obtain⟨rfl,_,_⟩:=h
   exact⟨[],[],⟨rfl,rfl,rfl⟩,fun i b=>AOR,fun i Φ k x h=>AOx⟩
  | cons r rs ih =>
   intro us bs Φs T h hT hbs hΦ
   obtain⟨u,us',b,bs',Φ,Φs',rfl,rfl,rfl,h1,h2⟩:=h
   obtain⟨bs2,Φs2,q1,q2,q3⟩:=ih us' bs' Φs' T h2 hT (fun i b hi=>hbs (i+1) b AOT) (fun i Ψ k x hi=>hΦ (i+1) Ψ k x AOT)
   have hcell:∀ (c:Cl) (y:Value) (k:Nat),RdO w' St' c y (Φ k)→RdD w' T (er c) y:=fun c y k hy =>
    RdD.mono (fun b' o hbo=>by
     rcases hbo with hbo | hbo
     ·grind
     ·exact hΦ 0 Φ k b' rfl hbo o) (fun _ _ _=>rfl) _ _ (RdO.frz c y _ hy)
   have hcons:Res1 w' T w.heap.size (Zt r) u none (fun _ _=>False):=by
    cases r with
    | val x=>exact⟨h1.1.mono hT (fun _ _ _=>rfl),rfl⟩
    | agg cl =>
     obtain⟨_,us2,e1,e2,e3⟩:=h1
     refine⟨⟨us2,e1,by rw[VC]; exact e2,fun k c hk=>?_⟩,rfl⟩
     grind [xe]
    | own ty sz xs wr =>
     cases b with
     | none =>
      obtain⟨rfl,rfl⟩:=h1
      refine⟨?_,rfl⟩
      simp only[RdA,RdD,QG]
      exact⟨none,0,rfl,AOR,by simp[maxLen],⟨0,AOR⟩,.inl AOR⟩
     | some b =>
      obtain⟨g1,g2,g3,g4,cap,cs,rfl,e2,e3,e4,e5,e6⟩:=h1
      refine⟨?_,rfl⟩
      simp only[RdA,RdD,nD]
      have hl:∀ x∈QG xs,x.length=sz:=fun x hx=>by
       grind [abb,nG,VC,bC]
      refine⟨some ⟨b,0,none⟩,cap,rfl,e2,e3,⟨sz,hl⟩,.inr ⟨b,0,rfl, ?_⟩⟩
      refine AEK sz hl fun i x hi=>AEM fun j c hj=>?_
      obtain⟨x0,hx0,rfl⟩:=nG hi
      obtain⟨c0,hc0,rfl⟩:=xe hj
      obtain⟨v,hv,hc⟩:=e6 _ c0 (Fh g3 i j x0 c0 hx0 hc0)
      refine⟨hbs 0 b rfl _,v, ?_,hcell c0 v _ hc⟩
      rw[World.cell?,e4]
      grind
   refine⟨none::bs2,(fun _ _=>False)::Φs2,⟨u,us',none,bs2,_,Φs2,rfl,rfl,rfl,hcons,q1⟩,fun i b=>?_,fun i Ψ k x hi hx=>?_⟩
   ·grind
   ·cases i with
    | zero=>grind
    | succ i=>exact q3 i Ψ k x AOT hx
 obtain⟨bs',Φs',q1,q2,q3⟩:=key rs us bs Φs (fun b o=>St' b o∨(∃ i:Nat,bs[i]?=some (some b))∨∃ (i:Nat) (Φ:Nat→Nat→Prop) (k:Nat),Φs[i]?=some Φ∧Φ k b) hr (fun _ _ h=>.inl h) (fun i b hi o=>.inr (.inl ⟨i,hi⟩)) (fun i Φ k x hi hx o=>.inr (.inr ⟨i,Φ,k,hi,hx⟩))
 have hblk:∀ (rs:List Res) (us:List Value) (bs:List (Option Nat)) (Φs:List (Nat→Nat→Prop)),ResR w' St' w.heap.size rs us bs Φs→∀ (i b:Nat),bs[i]?=some (some b)→w.heap.size≤b∧b<w'.heap.size:=by
  intro rs
  induction rs with
  | nil=>intro us bs Φs h i b hi; obtain⟨_,rfl,_⟩:=h; simp at hi
  | cons r rs ih =>
   intro us bs Φs h i b hi
   obtain⟨u,us',b0,bs',Φ,Φs',rfl,rfl,rfl,h1,h2⟩:=h
   cases i with
   | succ i=>grind
   | zero =>
    simp only[aV,ak] at hi
    subst hi
    cases r with
    | val x=>exact absurd h1.2 AOR
    | own ty sz xs wr=>exact⟨h1.1,h1.2.1⟩
    | agg cl=>exact absurd h1.1 AOR
 refine⟨bs',_,⟨hb.ret,hb.below,fun b o h=>.inl (hb.st b o h), ?_, ?_,Φs',q1,⟨fun i j b hi=>absurd hi (q2 i b),fun i Φ k x hi hx=>(q3 i Φ k x hi hx).elim,fun i i' Φ Φ' k k' x hi _ hx=>(q3 i Φ k x hi hx).elim⟩⟩⟩
 ·intro b o h hlt
  rcases h with h | ⟨i,hi⟩ | ⟨i,Φ,k,hi,hx⟩
  ·exact hb.stOld b o h hlt
  ·grind
  ·have:=(hf.fresh i Φ k b hi hx).1; omega
 ·intro b o h
  rcases h with h | ⟨i,hi⟩ | ⟨i,Φ,k,hi,hx⟩
  ·exact hb.stIn b o h
  ·grind
  ·exact(hf.fresh i Φ k b hi hx).2.1
theorem Ctr.frz {P:Program} {f:FuncId} {args:List AV} {rs:List Res} (h:Ctr P f args rs):Ctr P f args (rs.map Zt):=
 ⟨h.1,fun w St vs h1 h2=>(h.2 w St vs h1 h2).mono fun e w' ⟨us,bs,St',hb⟩=>by
  grind [VD]⟩
theorem Core.addObB (h:Core w0 St0 St β s a w) (ob:Ob) (ob':Option Nat) (hnone:ob'=none→ob.xs = [])
  (hsome:∀ b,ob'=some b→w0.may b∧b<w.heap.size∧(∀ l o2,s.st[l]?=some o2→o2.live=true→β l≠some b)∧(∀ o,St b o→ob.wr=false∧o<ob.xs.length*ob.sz) ∧
   ∃ cs:Array Value,w.heap[b]?=some (.cells cs ob.ty (0,0))∧(∀ x∈ob.xs,x.length=ob.sz)∧∀ (k:Nat) (c:Cl),ob.xs.flatten[k]?=some c→∃ u,cs[k]?=some u∧RdB w St s.st β c u)
  (hown:Own w0 (fun _=>False) w St (s.st ++ [ob]) (fun l=>if l=s.st.length then ob' else β l)) :
  Core w0 St0 St (fun l=>if l=s.st.length then ob' else β l) ⟨s.n,s.env,s.st ++ [ob]⟩ a w ∧
   (∀ x u,AVR w St s.st β x u→AVR w St (s.st ++ [ob]) (fun l=>if l=s.st.length then ob' else β l) x u)∧(∀ x u,RdC w St s.st β x u→RdC w St (s.st ++ [ob]) (fun l=>if l=s.st.length then ob' else β l) x u):=by
 have hold:∀ l,l<s.st.length→(s.st ++ [ob])[l]?=s.st[l]?:=fun l hl=>AOT
 have hr:∀ l u,BM w s.st β l u→BM w (s.st ++ [ob]) (fun l=>if l=s.st.length then ob' else β l) l u:=by
  intro l u hu
  have hl:=mr hu
  unfold BM at hu ⊢
  have hne:¬ l=s.st.length:=AOQ
  simp only[hold l hl,hne,aX]
  exact hu
 have hp:∀ l i off u,AVR w St s.st β (.lp l i off) u→AVR w St (s.st ++ [ob]) (fun l=>if l=s.st.length then ob' else β l) (.lp l i off) u:=by
  exact AMn
 have hA:∀ x u,AVR w St s.st β x u→AVR w St (s.st ++ [ob]) (fun l=>if l=s.st.length then ob' else β l) x u:=fun x u hx=>AVR.mono (fun _ _ h=>h) (fun _ _ _=>rfl) hr hp x u hx
 have hC:∀ x u,RdC w St s.st β x u→RdC w St (s.st ++ [ob]) (fun l=>if l=s.st.length then ob' else β l) x u:=fun x u hx=>RdC.mono (fun _ _ h=>h) (fun _ _ _=>rfl) hr x u hx
 have hBB:∀ x u,RdB w St s.st β x u→RdB w St (s.st ++ [ob]) (fun l=>if l=s.st.length then ob' else β l) x u:=fun x u hx=>RdB.mono (fun _ _ h=>h) (fun _ _ _=>rfl) hr x u hx
 have hsplit:∀ l o2,(s.st ++ [ob])[l]?=some o2→(l<s.st.length∧s.st[l]?=some o2)∨(l=s.st.length∧o2=ob):=by
  exact AOD
 refine⟨?_,hA,hC⟩
 exact {
  defers:=h.defers
  size:=h.size
  lim:=h.lim
  env:=fun i=>hA _ _ (h.env i)
  below:=h.below
  st0:=h.st0
  stOld:=h.stOld
  stIn:=h.stIn
  obs:=fun l o2 b hl hlive hβ=>by
   rcases hsplit l o2 hl with ⟨h1,h2⟩ | ⟨rfl,rfl⟩
   ·have hne:¬ l=s.st.length:=by omega
    simp only[hne,aX] at hβ
    obtain⟨q1,q2,cs,g1,g2,g3⟩:=h.obs l o2 b h2 hlive hβ
    exact ANv
   ·simp only[bf] at hβ
    obtain⟨q1,q2,_,_,cs,g1,g2,g3⟩:=hsome b hβ
    exact ANv
  nil:=fun l o2 hl hlive hβ=>by
   exact AMB
  inj:=fun l1 l2 o1 o2 b h1 h2 h3 h4 h5 h6=>by
   rcases hsplit l1 o1 h1 with ⟨p1,p2⟩ | ⟨rfl,rfl⟩<;>rcases hsplit l2 o2 h2 with ⟨q1,q2⟩ | ⟨rfl,rfl⟩
   ·exact AMD
   ·grind
   ·grind
   ·rfl
  sep:=fun l o2 b o hl hlive hβ hbo=>by
   rcases hsplit l o2 hl with ⟨h1,h2⟩ | ⟨rfl,rfl⟩
   ·exact AM9
   grind
  own:=hown }
theorem Own.addOb {R:Nat→Prop} {st:List Ob} (hN:Own w0 R w St st β) (ob:Ob) (ob':Option Nat) (hfree:∀ x,Ot w0 R w St st β x→ob'≠some x) (hno:∀ b,ob'=some b→∀ (k:Nat) (c:Cl),ob.xs.flatten[k]?=some c→Gm c=false) {R':Nat→Prop} (hR:∀ x,R' x→R x) :
  Own w0 R' w St (st ++ [ob]) (fun l=>if l=st.length then ob' else β l):=by
 refine hN.move id (fun x hx=>⟨⟨hx.1,fun h=>hx.2.1 (hR x h),hx.2.2.1,hx.2.2.2.1,fun l o2 hl hlv=>?_⟩,rfl⟩) (fun _ _ h=>h) (fun _ _ _=>rfl) (fun l o2 b k c hl hlive hβ hk hc=>?_) (fun _ _ _ _ _ _ _ _ e=>e)
 ·by_cases e:l=st.length
  ·grind
  ·simp only[e,aX]
   have hlt:l<st.length:=by
    exact AOE
   rw[bH hlt] at hl
   exact hx.2.2.2.2 l o2 hl hlv
 grind
theorem Core.addOb (h:Core w0 St0 St β s a w) (ob:Ob) (ob':Option Nat) (hnone:ob'=none→ob.xs = [])
  (hsome:∀ b,ob'=some b→w0.may b∧b<w.heap.size∧(∀ l o2,s.st[l]?=some o2→o2.live=true→β l≠some b)∧(∀ o,St b o→ob.wr=false∧o<ob.xs.length*ob.sz) ∧
   ∃ cs:Array Value,w.heap[b]?=some (.cells cs ob.ty (0,0))∧(∀ x∈ob.xs,x.length=ob.sz)∧∀ (k:Nat) (c:Cl),ob.xs.flatten[k]?=some c→∃ u,cs[k]?=some u∧RdC w St s.st β c u)
  {R:Nat→Prop} (hN:Own w0 R w St s.st β) (hfree:∀ x,Ot w0 R w St s.st β x→ob'≠some x) :
  Core w0 St0 St (fun l=>if l=s.st.length then ob' else β l) ⟨s.n,s.env,s.st ++ [ob]⟩ a w ∧
   (∀ x u,AVR w St s.st β x u→AVR w St (s.st ++ [ob]) (fun l=>if l=s.st.length then ob' else β l) x u)∧(∀ x u,RdC w St s.st β x u→RdC w St (s.st ++ [ob]) (fun l=>if l=s.st.length then ob' else β l) x u):=by
 refine h.addObB ob ob' hnone (fun b hb=>?_) (hN.addOb ob ob' hfree (fun b hb k c hk=>?_) (fun _ h=>h.elim))
 ·obtain⟨q1,q2,q3,q4,cs,g1,g2,g3⟩:=hsome b hb
  refine⟨q1,q2,q3,q4,cs,g1,g2,fun k c hk=>?_⟩
  obtain⟨u,hu,hc⟩:=g3 k c hk
  exact⟨u,hu,hc.toB⟩
 ·obtain⟨q1,q2,q3,q4,cs,g1,g2,g3⟩:=hsome b hb
  obtain⟨u,hu,hc⟩:=g3 k c hk
  exact hc.notOw
theorem Own.addO {R:Nat→Prop} {st:List Ob} (hN:Own w0 R w St st β) (ob:Ob) {b:Nat} (hb:R b) (Ψ:Nat→Nat→Prop) (hΨ:∀ k x,Ψ k x→R x∧w0.may x∧x<w.heap.size∧(∀ o,¬ St x o)∧x≠b∧∀ (l:Nat) (o2:Ob),st[l]?=some o2→o2.live=true→β l≠some x)
  (hdis:∀ k k' x,Ψ k x→Ψ k' x→k=k') (hrd:∀ (k:Nat) (c:Cl),ob.xs.flatten[k]?=some c→Gm c=true→∃ u,w.cell? ⟨b,k,none⟩=some u∧RdO w St c u (Ψ k)) (hlive:ob.live=true) (R':Nat→Prop) (hR:∀ x,R' x→R x∧∀ k,¬ Ψ k x) :
  Own w0 R' w St (st ++ [ob]) (fun l=>if l=st.length then some b else β l):=by
 obtain⟨φ,h1,h2,h3⟩:=hN
 have hsplit:∀ (l:Nat) (o2:Ob),(st ++ [ob])[l]?=some o2→(l<st.length∧st[l]?=some o2)∨(l=st.length∧o2=ob):=by
  intro l o2 hl
  rcases bV l st.length with q1 | q1
  ·grind
  ·grind
 have hφl:∀ l k x,φ l k x→l<st.length:=fun l k x hx=>by
  grind
 refine⟨fun l k x=>if l=st.length then Ψ k x else φ l k x, ?_, ?_, ?_⟩
 ·intro l o2 b2 k c hl hlv hβ hk hc
  rcases hsplit l o2 hl with ⟨q1,q2⟩ | ⟨rfl,rfl⟩
  ·have e:¬ l=st.length:=by omega
   simp_all
  grind
 ·intro l k x hx
  by_cases e:l=st.length
  ·subst e
   simp only[bf] at hx
   obtain⟨q1,q2,q3,q4,q5,q6⟩:=hΨ k x hx
   refine⟨⟨ob,b,AOR,hlive,AOR⟩,q2,fun h=>(hR x h).2 k hx,q3,q4,fun l o2 hl hlv=>?_⟩
   grind
  ·simp only[e,aX] at hx
   obtain⟨⟨o2,b2,p1,p2,p3⟩,q1,q2,q3,q4,q5⟩:=h2 l k x hx
   have hl:=hφl l k x hx
   refine⟨⟨o2,b2,AOT,p2,AOT⟩,q1,fun h=>q2 (hR x h).1,q3,q4,fun l' o3 hl' hlv=>?_⟩
   grind
 ·intro l l' k k' x hx hx'
  by_cases e:l=st.length<;>by_cases e':l'=st.length
  ·grind
  ·simp only[e,e',bf,aX] at hx hx'
   exact absurd (hΨ k x hx).1 (h2 l' k' x hx').2.2.1
  ·simp only[e,e',bf,aX] at hx hx'
   exact absurd (hΨ k' x hx').1 (h2 l k x hx).2.2.1
  grind
def He:List Cl→List Ob
 | []=>[]
 | .ow ty sz xs::r=>⟨ty,sz,xs,true,true⟩::He r
 | .v _::r=>He r
 | .sl _::r=>He r
 | .ref _::r=>He r
def Jb (n:Nat):List Cl→List Cl
 | []=>[]
 | .ow _ _ _::r=>.ref n::Jb (n+1) r
 | .v x::r=>.v x::Jb n r
 | .sl xs::r=>.sl xs::Jb n r
 | .ref l::r=>.ref l::Jb n r
def Ir (st:List Ob):List Res→List AV×List Ob
 | []=>([],st)
 | .val x::r=>(x::(Ir st r).1,(Ir st r).2)
 | .own ty sz xs wr::r=>(.c (.ref st.length)::(Ir (st ++ [⟨ty,sz,xs,wr,true⟩]) r).1,(Ir (st ++ [⟨ty,sz,xs,wr,true⟩]) r).2)
 | .agg cl::r=>(.agg (Jb st.length cl)::(Ir (st++He cl) r).1,(Ir (st++He cl) r).2)
def Wj:List Res→List AV
 | []=>[]
 | .val x::r=>x::Wj r
 | .own _ _ xs _::r=>.c (.sl (QG xs))::Wj r
 | .agg cl::r=>.agg (KA cl)::Wj r
def retA:List AV→AV
 | [x]=>x
 | xs=>.tup xs
theorem sW (h:Core w0 St0 St β s a w) {R:Nat→Prop} (hN:Own w0 R w St s.st β) {ty:TypeId} {sz:Nat} {xs:List (List Cl)} (wr:Bool) {b cap:Nat} {cs:Array Value} {u:Value} (G:Nat→Nat→Prop) (hu:u = .slice (some ⟨b,0,none⟩) xs.length cap) (h2:xs.length≤cap) (h3:cap≤maxLen)
  (h4:w.heap[b]?=some (.cells cs ty (0,0))) (h5:cs.size=cap*sz) (h6:∀ x∈xs,x.length=sz) (hrd:∀ (k:Nat) (c:Cl),xs.flatten[k]?=some c→∃ y,cs[k]?=some y∧RdO w St c y (G k))
  (hb:R b) (hmay:w0.may b) (hlt:b<w.heap.size) (hfb:∀ l o2,s.st[l]?=some o2→o2.live=true→β l≠some b) (hsep:∀ o,St b o→wr=false∧o<xs.length*sz)
  (hG:∀ k x,G k x→R x∧w0.may x∧x<w.heap.size∧(∀ o,¬ St x o)∧x≠b∧∀ (l:Nat) (o2:Ob),s.st[l]?=some o2→o2.live=true→β l≠some x) (hdis:∀ k k' x,G k x→G k' x→k=k') :
  ∃ β',Core w0 St0 St β' ⟨s.n,s.env,s.st ++ [⟨ty,sz,xs,wr,true⟩]⟩ a w∧Own w0 (fun x=>R x∧∀ k,¬ G k x) w St (s.st ++ [⟨ty,sz,xs,wr,true⟩]) β' ∧
   (∀ x u,AVR w St s.st β x u→AVR w St (s.st ++ [⟨ty,sz,xs,wr,true⟩]) β' x u)∧RdC w St (s.st ++ [⟨ty,sz,xs,wr,true⟩]) β' (.ref s.st.length) u∧(∀ l,l<s.st.length→β' l=β l)∧β' s.st.length=some b:=by
 have hown:∀ R',(∀ x,R' x→R x∧∀ k,¬ G k x)→Own w0 R' w St (s.st ++ [⟨ty,sz,xs,wr,true⟩]) (fun l=>if l=s.st.length then some b else β l):=fun R' hR=>hN.addO ⟨ty,sz,xs,wr,true⟩ hb G hG hdis (fun k c hk _=>by
  obtain⟨y,hy,hr⟩:=hrd k c hk
  exact⟨y,by simp[World.cell?,h4,hy],hr⟩) rfl R' hR
 obtain⟨a1,a2,a3⟩:=h.addObB ⟨ty,sz,xs,wr,true⟩ (some b) AOR (fun b' hb'=>by
  simp only[ak] at hb'
  subst hb'
  refine⟨hmay,hlt,hfb,hsep,cs,h4,h6,fun k c hk=>?_⟩
  obtain⟨y,hy,hr⟩:=hrd k c hk
  exact⟨y,hy,hr.toB⟩) (hown _ fun _ h=>h.elim)
 refine⟨_,a1,hown _ fun _ h=>h,a2, ?_,fun l hl=>AOT,AOR⟩
 simp only[RdC,BM]
 rw[bn (aT _)]
 simp only[jV,aV,bf]
 subst hu
 exact⟨by first | trivial | rfl,fun _=>⟨cap,cs,AOT,h2,h3,h4,h5⟩⟩
theorem ADH (h:Core w0 St0 St β s a w) {R:Nat→Prop} (hN:Own w0 R w St s.st β) (ty:TypeId) (sz:Nat) (wr:Bool) :
  ∃ β',Core w0 St0 St β' ⟨s.n,s.env,s.st ++ [⟨ty,sz,[],wr,true⟩]⟩ a w∧Own w0 R w St (s.st ++ [⟨ty,sz,[],wr,true⟩]) β' ∧
   (∀ x u,AVR w St s.st β x u→AVR w St (s.st ++ [⟨ty,sz,[],wr,true⟩]) β' x u)∧RdC w St (s.st ++ [⟨ty,sz,[],wr,true⟩]) β' (.ref s.st.length) (.slice none 0 0)∧(∀ l,l<s.st.length→β' l=β l)∧β' s.st.length=none:=by
 obtain⟨a1,a2,a3⟩:=h.addOb ⟨ty,sz,[],wr,true⟩ none (fun _=>rfl) AOR hN AOR
 refine⟨_,a1,hN.addOb _ none AOR AOR (fun _ h=>h),a2, ?_,fun l hl=>AOT,AOR⟩
 simp only[RdC,BM]
 rw[bn (aT _)]
 simp only[jV,aV,bf]
 simp[Value.oneCell']
theorem VE:∀ (cl:List Cl) (us:List Value) (Φ:Nat→Nat→Prop) (st:List Ob) (β:Nat→Option Nat) (R:Nat→Prop),Core w0 St0 St β ⟨s.n,s.env,st⟩ a w→Own w0 R w St st β→us.length=cl.length →
  (∀ (k:Nat) (c:Cl),cl[k]?=some c→∃ y,us[k]?=some y∧RdO w St c y (Φ k))→(∀ k x,Φ k x→R x∧w0.may x∧x<w.heap.size∧(∀ o,¬ St x o)∧∀ (l:Nat) (o2:Ob),st[l]?=some o2→o2.live=true→β l≠some x) →
  (∀ k k' x,Φ k x→Φ k' x→k=k')→∃ β',Core w0 St0 St β' ⟨s.n,s.env,st++He cl⟩ a w∧Own w0 (fun x=>R x∧∀ k,¬ Φ k x) w St (st++He cl) β' ∧
   (∀ (k:Nat) (c:Cl),(Jb st.length cl)[k]?=some c→∃ y,us[k]?=some y∧RdC w St (st++He cl) β' c y)∧(Jb st.length cl).length=cl.length∧(∀ x u,AVR w St st β x u→AVR w St (st++He cl) β' x u) ∧
   ∀ (l:Nat) (o2:Ob) (b:Nat),(st++He cl)[l]?=some o2→o2.live=true→β' l=some b→(st[l]?=some o2∧β l=some b)∨∃ k,Φ k b
 | [],us,Φ,st,β,R,h,hN,hl,hrd,hΦ,hdis=>by
  simp only[He,bQ,Jb]
  exact⟨β,h,hN.move id (fun x hx=>⟨⟨hx.1,fun h=>hx.2.1 h.1,hx.2.2⟩,rfl⟩) (fun _ _ h=>h) (fun _ _ _=>rfl) (fun l ob b k c h1 h2 h3 h4 _=>⟨ob,b,h1,h2,h3,h4,rfl⟩) (fun _ _ _ _ _ _ _ _ e=>e),
   fun k c hk=>APA,AOT,fun _ _ h=>h,fun l o2 b h1 h2 h3=>.inl ⟨h1,h3⟩⟩
 | c::cl,us,Φ,st,β,R,h,hN,hl,hrd,hΦ,hdis=>by
  cases us with
  | nil=>simp at hl
  | cons u us =>
   have hl':us.length=cl.length:=APF
   have hrd':∀ (k:Nat) (c:Cl),cl[k]?=some c→∃ y,us[k]?=some y∧RdO w St c y ((fun k=>Φ (k+1)) k):=fun k c hk=>by
    simpa using hrd (k+1) c AOT
   obtain⟨u0,hu0,hr0⟩:=hrd 0 c rfl
   simp only[aV,ak] at hu0
   subst hu0
   have plain:Gm c=false→He (c::cl)=He cl→Jb st.length (c::cl)=c::Jb st.length cl→∃ β',Core w0 St0 St β' ⟨s.n,s.env,st++He (c::cl)⟩ a w∧Own w0 (fun x=>R x∧∀ k,¬ Φ k x) w St (st++He (c::cl)) β' ∧
     (∀ (k:Nat) (c2:Cl),(Jb st.length (c::cl))[k]?=some c2→∃ y,(u::us)[k]?=some y∧RdC w St (st++He (c::cl)) β' c2 y)∧(Jb st.length (c::cl)).length=(c::cl).length∧(∀ x u,AVR w St st β x u→AVR w St (st++He (c::cl)) β' x u) ∧
     ∀ (l:Nat) (o2:Ob) (b:Nat),(st++He (c::cl))[l]?=some o2→o2.live=true→β' l=some b→(st[l]?=some o2∧β l=some b)∨∃ k,Φ k b:=by
    intro hc e1 e2
    rw[e1,e2]
    obtain⟨β',q1,q2,q3,q4,q5,q6⟩:=VE cl us (fun k=>Φ (k+1)) st β R h hN hl' hrd' (fun k x hx=>hΦ (k+1) x hx) (fun k k' x hx hx'=>AOT)
    refine⟨β',q1, ?_,fun k c2 hk=>?_,by simp[q4],q5,fun l o2 b h1 h2 h3=>?_⟩
    ·exact q2.move id (fun x hx=>⟨⟨hx.1,fun hh=>hx.2.1 ⟨hh.1,fun k=>hh.2 (k+1)⟩,hx.2.2⟩,rfl⟩) (fun _ _ h=>h) (fun _ _ _=>rfl) (fun l ob b k c h1 h2 h3 h4 _=>⟨ob,b,h1,h2,h3,h4,rfl⟩) (fun _ _ _ _ _ _ _ _ e=>e)
    ·grind [aV,ak,RdD.toC,RdO.plain]
    ·grind
   cases c with
   | v x=>exact plain rfl rfl rfl
   | sl x=>exact plain rfl rfl rfl
   | ref x=>simp[RdO] at hr0
   | ow ty sz xs =>
    have step:∃ β1,Core w0 St0 St β1 ⟨s.n,s.env,st ++ [⟨ty,sz,xs,true,true⟩]⟩ a w∧Own w0 (fun x=>R x∧¬ Φ 0 x) w St (st ++ [⟨ty,sz,xs,true,true⟩]) β1 ∧
      (∀ x u,AVR w St st β x u→AVR w St (st ++ [⟨ty,sz,xs,true,true⟩]) β1 x u)∧RdC w St (st ++ [⟨ty,sz,xs,true,true⟩]) β1 (.ref st.length) u∧(∀ l,l<st.length→β1 l=β l)∧∀ b,β1 st.length=some b→Φ 0 b:=by
     simp only[RdO] at hr0
     rcases hr0 with ⟨rfl,rfl⟩ | ⟨b,cap,cs,G,g1,g2,g3,g4,g5,g6,g7,g8,g9,g10⟩
     ·obtain⟨β1,q1,q2,q3,q4,q5,q6⟩:=ADH h hN ty sz true
      exact⟨β1,q1,q2.move id (fun x hx=>⟨⟨hx.1,fun hh=>hx.2.1 hh.1,hx.2.2⟩,rfl⟩) (fun _ _ h=>h) (fun _ _ _=>rfl) (fun l ob b k c h1 h2 h3 h4 _=>⟨ob,b,h1,h2,h3,h4,rfl⟩) (fun _ _ _ _ _ _ _ _ e=>e),q3,q4,q5,fun b hb=>AOT⟩
     ·obtain⟨p1,p2,p3,p4,p5⟩:=hΦ 0 b g7
      obtain⟨β1,q1,q2,q3,q4,q5,q6⟩:=sW h hN true G g1 g2 g3 g4 g5 g6 (fun k c hk=>by simpa using g10.at hk) p1 p2 p3 p5 (fun o ho=>absurd ho (p4 o)) (fun k x hx=>by
       grind) g9
      refine⟨β1,q1, ?_,q3,q4,q5,fun b' hb'=>AOT⟩
      exact q2.move id (fun x hx=>⟨⟨hx.1,fun hh=>hx.2.1 ⟨hh.1,fun k hk=>hh.2 (g8 k x hk).1⟩,hx.2.2⟩,rfl⟩) (fun _ _ h=>h) (fun _ _ _=>rfl) (fun l ob b k c h1 h2 h3 h4 _=>⟨ob,b,h1,h2,h3,h4,rfl⟩) (fun _ _ _ _ _ _ _ _ e=>e)
    obtain⟨β1,q1,q2,q3,q4,q5,q6⟩:=step
    obtain⟨β',r1,r2,r3,r4,r5,r6⟩:=VE cl us (fun k=>Φ (k+1)) (st ++ [⟨ty,sz,xs,true,true⟩]) β1 _ q1 q2 hl' hrd' (fun k x hx=>by
     grind) (fun k k' x hx hx'=>AOT)
    have ea:st ++ [⟨ty,sz,xs,true,true⟩]++He cl=st++He (.ow ty sz xs::cl):=by simp[He]
    have eb:Jb st.length (.ow ty sz xs::cl) = .ref st.length::Jb (st ++ [(⟨ty,sz,xs,true,true⟩:Ob)]).length cl:=by simp[Jb]
    rw[ea] at r1 r2 r3 r5 r6
    rw[eb]
    refine⟨β',r1, ?_,fun k c2 hk=>?_,AOT,fun x u hx=>r5 x u (q3 x u hx),fun l o2 b h1 h2 h3=>?_⟩
    ·exact r2.move id (fun x hx=>⟨⟨hx.1,fun hh=>hx.2.1 ⟨⟨hh.1,hh.2 0⟩,fun k=>hh.2 (k+1)⟩,hx.2.2⟩,rfl⟩) (fun _ _ h=>h) (fun _ _ _=>rfl) (fun l ob b k c h1 h2 h3 h4 _=>⟨ob,b,h1,h2,h3,h4,rfl⟩) (fun _ _ _ _ _ _ _ _ e=>e)
    ·cases k with
     | zero =>
      simp only[aV,ak] at hk
      subst hk
      refine⟨u,rfl, ?_⟩
      have:=r5 (.c (.ref st.length)) u (by simpa only[AVR] using q4)
      simpa only[AVR] using this
     | succ k=>grind
    grind
theorem Yl (B:Nat):∀ (rs:List Res) (us:List Value) (bs:List (Option Nat)) (Φs:List (Nat→Nat→Prop)) (st:List Ob) (β:Nat→Option Nat) (R:Nat→Prop),Core w0 St0 St β ⟨s.n,s.env,st⟩ a w→w0.heap.size≤B→Own w0 R w St st β→ResR w St B rs us bs Φs→FpOk w St B bs Φs →
  (∀ (i b:Nat),bs[i]?=some (some b)→R b∧∀ l o2,st[l]?=some o2→o2.live=true→β l≠some b)→(∀ (i:Nat) (Φ:Nat→Nat→Prop) (k x:Nat),Φs[i]?=some Φ→Φ k x→R x∧∀ l o2,st[l]?=some o2→o2.live=true→β l≠some x) →
  ∃ β',Core w0 St0 St β' ⟨s.n,s.env,(Ir st rs).2⟩ a w∧AVRs w St (Ir st rs).2 β' (Ir st rs).1 us∧(∀ x u,AVR w St st β x u→AVR w St (Ir st rs).2 β' x u)
 | [],us,bs,Φs,st,β,R,h,_,_,hr,_,_,_=>by
  obtain⟨rfl,rfl,rfl⟩:=hr
  exact⟨β,h,by simp[Ir,AVRs],fun _ _ h=>h⟩
 | r::rs,us,bs,Φs,st,β,R,h,hB,hN,hr,hf,hbs,hΦs=>by
  obtain⟨u,us',b,bs',Φ,Φs',rfl,rfl,rfl,h1,h2⟩:=hr
  have hbs':∀ (i b:Nat),bs'[i]?=some (some b)→R b∧∀ l o2,st[l]?=some o2→o2.live=true→β l≠some b:=fun i b hi=>hbs (i+1) b AOT
  have hΦs':∀ (i:Nat) (Ψ:Nat→Nat→Prop) (k x:Nat),Φs'[i]?=some Ψ→Ψ k x→R x∧∀ l o2,st[l]?=some o2→o2.live=true→β l≠some x:=fun i Ψ k x hi=>hΦs (i+1) Ψ k x AOT
  have hsplit1:∀ (ob:Ob) (l:Nat) (o2:Ob),(st ++ [ob])[l]?=some o2→(l<st.length∧st[l]?=some o2)∨l=st.length:=by
   intro ob l o2 hl
   rcases bV l st.length with q1 | q1
   ·grind
   ·grind
  cases r with
  | val x =>
   obtain⟨h1,_⟩:=h1
   obtain⟨β',q1,q2,q3⟩:=Yl B rs us' bs' Φs' st β R h hB hN h2 hf.tail hbs' hΦs'
   refine⟨β',q1, ?_,q3⟩
   simp only[Ir,AVRs]
   exact⟨u,us',rfl,q3 _ _ h1.toAVR,q2⟩
  | own ty sz xs wr =>
   have step:∃ β1,Core w0 St0 St β1 ⟨s.n,s.env,st ++ [⟨ty,sz,xs,wr,true⟩]⟩ a w∧Own w0 (fun x=>R x∧(∀ k,¬ Φ k x)∧b≠some x) w St (st ++ [⟨ty,sz,xs,wr,true⟩]) β1 ∧
     (∀ x u,AVR w St st β x u→AVR w St (st ++ [⟨ty,sz,xs,wr,true⟩]) β1 x u)∧RdC w St (st ++ [⟨ty,sz,xs,wr,true⟩]) β1 (.ref st.length) u∧(∀ l,l<st.length→β1 l=β l)∧β1 st.length=b:=by
    cases b with
    | none =>
     obtain⟨rfl,rfl⟩:=h1
     obtain⟨β1,q1,q2,q3,q4,q5,q6⟩:=ADH h hN ty sz wr
     exact⟨β1,q1,q2.move id (fun x hx=>⟨⟨hx.1,fun hh=>hx.2.1 hh.1,hx.2.2⟩,rfl⟩) (fun _ _ h=>h) (fun _ _ _=>rfl) (fun l ob b k c h1 h2 h3 h4 _=>⟨ob,b,h1,h2,h3,h4,rfl⟩) (fun _ _ _ _ _ _ _ _ e=>e),q3,q4,q5,q6⟩
    | some b =>
     obtain⟨g1,g2,g3,g4,cap,cs,e1,e2,e3,e4,e5,e6⟩:=h1
     obtain⟨p1,p2⟩:=hbs 0 b rfl
     obtain⟨β1,q1,q2,q3,q4,q5,q6⟩:=sW h hN wr Φ e1 e2 e3 e4 e5 g3 e6 p1 (.inl AOQ) g2 p2 g4 (fun k x hx=>by
      obtain⟨r1,r2,r3,r4⟩:=hf.fresh 0 Φ k x rfl hx
      obtain⟨t1,t2⟩:=hΦs 0 Φ k x rfl hx
      exact⟨t1,.inl AOQ,r2,r3,fun e=>r4 0 (by simp[e]),t2⟩) (fun k k' x hx hx'=>(hf.dis 0 0 Φ Φ k k' x rfl rfl hx hx').2)
     refine⟨β1,q1, ?_,q3,q4,q5,q6⟩
     exact q2.move id (fun x hx=>⟨⟨hx.1,fun hh=>hx.2.1 ⟨hh.1,hh.2.1⟩,hx.2.2⟩,rfl⟩) (fun _ _ h=>h) (fun _ _ _=>rfl) (fun l ob b k c h1 h2 h3 h4 _=>⟨ob,b,h1,h2,h3,h4,rfl⟩) (fun _ _ _ _ _ _ _ _ e=>e)
   obtain⟨β1,q1,q2,q3,q4,q5,q6⟩:=step
   obtain⟨β',r1,r2,r3⟩:=Yl B rs us' bs' Φs' (st ++ [⟨ty,sz,xs,wr,true⟩]) β1 _ q1 hB q2 h2 hf.tail (fun i b2 hi=>by
    obtain⟨p1,p2⟩:=hbs' i b2 hi
    refine⟨⟨p1,fun k hk=>(hf.fresh 0 Φ k b2 rfl hk).2.2.2 (i+1) AOT,fun e=>by subst e; have:=hf.nodup 0 (i+1) b2 rfl AOT; omega⟩,fun l o2 hl hlv=>?_⟩
    rcases hsplit1 _ l o2 hl with ⟨h',h''⟩ | rfl
    ·grind
    ·rw[q6]; intro e; subst e; have:=hf.nodup 0 (i+1) b2 rfl AOT; omega) (fun i Ψ k x hi hx=>by
    obtain⟨p1,p2⟩:=hΦs' i Ψ k x hi hx
    have hxb:b≠some x:=fun e=>(hf.fresh (i+1) Ψ k x AOT hx).2.2.2 0 (by simp[e])
    refine⟨⟨p1,fun k' hk'=>by have:=(hf.dis 0 (i+1) Φ Ψ k' k x rfl AOT hk' hx).1; omega,hxb⟩,fun l o2 hl hlv=>?_⟩
    grind)
   refine⟨β',r1, ?_,fun x u hx=>r3 x u (q3 x u hx)⟩
   simp only[Ir,AVRs]
   exact⟨u,us',rfl,r3 (.c (.ref st.length)) u (by simpa only[AVR] using q4),r2⟩
  | agg cl =>
   obtain⟨rfl,us2,rfl,hl2,hrd⟩:=h1
   obtain⟨β1,q1,q2,q3,q4,q5,q6⟩:=VE cl us2 Φ st β R h hN hl2 hrd (fun k x hx=>by
    obtain⟨r1,r2,r3,r4⟩:=hf.fresh 0 Φ k x rfl hx
    obtain⟨t1,t2⟩:=hΦs 0 Φ k x rfl hx
    exact⟨t1,.inl AOQ,r2,r3,t2⟩) (fun k k' x hx hx'=>(hf.dis 0 0 Φ Φ k k' x rfl rfl hx hx').2)
   obtain⟨β',r1,r2,r3⟩:=Yl B rs us' bs' Φs' (st++He cl) β1 _ q1 hB q2 h2 hf.tail (fun i b2 hi=>by
    obtain⟨p1,p2⟩:=hbs' i b2 hi
    have hno:∀ k,¬ Φ k b2:=fun k hk=>(hf.fresh 0 Φ k b2 rfl hk).2.2.2 (i+1) AOT
    grind) (fun i Ψ k x hi hx=>by
    obtain⟨p1,p2⟩:=hΦs' i Ψ k x hi hx
    have hno:∀ k',¬ Φ k' x:=fun k' hk'=>by have:=(hf.dis 0 (i+1) Φ Ψ k' k x rfl AOT hk' hx).1; omega
    grind)
   refine⟨β',r1, ?_,fun x u hx=>r3 x u (q5 x u hx)⟩
   simp only[Ir,AVRs]
   refine⟨_,us',rfl,r3 _ _ ?_,r2⟩
   simp only[AVR]
   grind
theorem Ky {st:List Ob}:∀ {xs:List AV} {us:List Value},AVRs w St st β xs us→AVR w St st β (retA xs) (Wi us)
 | [],us,h=>by simp only[AVRs] at h; subst h; simp only[retA,Wi,AVR]; exact⟨[],rfl,by simp[AVRs]⟩
 | [x],us,h=>by
  simp only[AVRs] at h
  obtain⟨y,ys,rfl,h1,rfl⟩:=h
  exact h1
 | x::x2::xs,us,h=>by
  have h':=h
  simp only[AVRs] at h
  obtain⟨y,ys,rfl,h1,y2,ys2,rfl,h2,h3⟩:=h
  simp only[retA,Wi,AVR]
  grind
theorem nI {w':World} {St':Nat→Nat→Prop} {B:Nat} (rs:List Res):∀ {us:List Value} {bs:List (Option Nat)} {Φs:List (Nat→Nat→Prop)},ResR w' St' B (rs.map Zt) us bs Φs→RdAs w' St' (Wj rs) us:=by
 induction rs with
 | nil=>intro us bs Φs h; obtain⟨rfl,_,_⟩:=h; rfl
 | cons r rs ih =>
  intro us bs Φs h
  rw[YR] at h
  obtain⟨u,us',b,bs',Φ,Φs',rfl,rfl,rfl,h1,h2⟩:=h
  have h3:=ih h2
  cases r with
  | val x =>
   have h4:RdA w' St' x u:=h1.1
   exact⟨u,us',rfl,h4,h3⟩
  | own ty sz xs wr =>
   have h4:RdA w' St' (.c (.sl (QG xs))) u:=h1.1
   exact⟨u,us',rfl,h4,h3⟩
  | agg cl =>
   have h4:RdA w' St' (.agg (KA cl)) u:=h1.1
   exact⟨u,us',rfl,h4,h3⟩
def D6:Cl→Bool
 | .ref _=>false
 | _=>true
def BJ (xs:List (List Cl)):Bool:=xs.all fun x=>x.all D6
def Fp (st:List Ob) (β:Nat→Option Nat) (φ:Nat→Nat→Nat→Prop) (l x:Nat):Prop:=∃ ob,st[l]?=some ob∧ob.live=true∧(β l=some x∨∃ k,φ l k x)
section owns
variable {φ:Nat→Nat→Nat→Prop}
def VF (w0:Bs) (w:World) (St:Nat→Nat→Prop) (st:List Ob) (β:Nat→Option Nat) (φ:Nat→Nat→Nat→Prop):Prop:=
 (∀ (l:Nat) (ob:Ob) (b k:Nat) (c:Cl),st[l]?=some ob→ob.live=true→β l=some b→ob.xs.flatten[k]?=some c→Gm c=true→∃ u,w.cell? ⟨b,k,none⟩=some u∧RdO w St c u (φ l k)) ∧
 (∀ l k x,φ l k x→(∃ ob b,st[l]?=some ob∧ob.live=true∧β l=some b)∧Ot w0 (fun _=>False) w St st β x) ∧
 ∀ l l' k k' x,φ l k x→φ l' k' x→l=l'∧k=k'
theorem JM (h:Core w0 St0 St β s a w) (hφ:VF w0 w St s.st β φ) {l l' x:Nat} (h1:Fp s.st β φ l x) (h2:Fp s.st β φ l' x):l=l':=by
 obtain⟨ob,p1,p2,p3⟩:=h1
 obtain⟨ob',q1,q2,q3⟩:=h2
 rcases p3 with p3 | ⟨k,p3⟩<;>rcases q3 with q3 | ⟨k',q3⟩
 ·exact h.inj l l' ob ob' x p1 q1 p2 q2 p3 q3
 ·exact absurd p3 ((hφ.2.1 l' k' x q3).2.2.2.2.2 l ob p1 p2)
 ·exact absurd q3 ((hφ.2.1 l k x p3).2.2.2.2.2 l' ob' q1 q2)
 ·exact(hφ.2.2 l l' k k' x p3 q3).1
theorem VG (h:Core w0 St0 St β s a w) (hφ:VF w0 w St s.st β φ) {l x:Nat} (h1:Fp s.st β φ l x) (hwr:∀ ob,s.st[l]?=some ob→ob.wr=true):w0.may x∧x<w.heap.size∧∀ o,¬ St x o:=by
 obtain⟨ob,p1,p2,p3⟩:=h1
 rcases p3 with p3 | ⟨k,p3⟩
 ·obtain⟨q1,q2,_⟩:=h.obs l ob x p1 p2 p3
  refine⟨q1,q2,fun o ho=>?_⟩
  have:=(h.sep l ob x o p1 p2 p3 ho).1
  grind
 ·obtain⟨q1,_,q3,q4,_⟩:=(hφ.2.1 l k x p3).2
  grind
theorem Zu (h:Core w0 St0 St β s a w) (hφ:VF w0 w St s.st β φ) {l b:Nat} {ob:Ob} (hl:s.st[l]?=some ob) (hlive:ob.live=true) (hβ:β l=some b) (hnr:BJ ob.xs=true) {cs:Array Value} (hcs:w.heap[b]?=some (.cells cs ob.ty (0,0))) :
  ∀ (k:Nat) (c:Cl),ob.xs.flatten[k]?=some c→∃ y,cs[k]?=some y∧RdO w St c y (φ l k):=by
 intro k c hk
 obtain⟨_,_,cs',g1,g2,g3⟩:=h.obs l ob b hl hlive hβ
 rw[hcs] at g1
 simp only[ak,Obj.cells.injEq,xU] at g1
 subst g1
 obtain⟨y,hy,hr⟩:=g3 k c hk
 cases ho:Gm c with
 | true =>
  obtain⟨u,hu,hro⟩:=hφ.1 l ob b k c hl hlive hβ hk ho
  simp only[World.cell?,hcs,abx,aB,aX] at hu
  grind
 | false =>
  refine⟨y,hy,(RdO.plain ho).2 ?_⟩
  have hrc:=hr.toC ho
  obtain⟨x,hx,hcx⟩:=aa2.1 (bC hk)
  have hn:=aJ.1 (aJ.1 hnr x hx) c hcx
  cases c with
  | ref l=>simp[D6] at hn
  | v x=>exact hrc
  | sl x=>exact hrc
  | ow ty sz x=>simp[Gm] at ho
end owns
theorem xg (h:Core w0 St0 St β s a w) {φ:Nat→Nat→Nat→Prop} (hφ:VF w0 w St s.st β φ) {l:Nat} {ob:Ob} (hob:Cf s.st l=some ob) (hnr:BJ ob.xs=true) {u:Value} (hu:BM w s.st β l u):RdO w St (.ow ob.ty ob.sz ob.xs) u (Fp s.st β φ l):=by
 obtain⟨hl,hlive⟩:=Bo hob
 simp only[BM,hl] at hu
 have hx2:=hu.2 hlive
 simp only[RdO]
 cases hβ:β l with
 | none=>grind
 | some b =>
  simp only[hβ] at hx2
  obtain⟨cap,cs,e1,e2,e3,e4,e5⟩:=hx2
  obtain⟨_,_,_,_,g2,_⟩:=h.obs l ob b hl hlive hβ
  refine .inr ⟨b,cap,cs,φ l,e1,e2,e3,e4,e5,g2,⟨ob,hl,hlive,.inl hβ⟩,fun k x hk=>⟨⟨ob,hl,hlive,.inr ⟨k,hk⟩⟩,fun e=>?_⟩,fun k k' x hk hk'=>(hφ.2.2 l l k k' x hk hk').2,RdOE.mk fun k c hk=>?_⟩
  ·exact(hφ.2.1 l k x hk).2.2.2.2.2 l ob hl hlive (by rw[hβ,e])
  grind [Zu]
def isV:AV→Bool
 | .c (.v (.slice _ _ _))=>false
 | .c (.v _)=>true
 | _=>false
def ABR:AV→Bool
 | .clo _ _=>true
 | x=>isV x
theorem ADI {x:AV} {u:Value} (hx:isV x=true) (h:AVR w St s.st β x u):RdA w St x u:=by
 cases x with
 | c c =>
  cases c with
  | v v=>simp only[AVR] at h; exact h
  | _=>simp[isV] at hx
 | _=>simp[isV] at hx
theorem zn:∀ {xs:List AV} {us:List Value},xs.all isV=true→AVRs w St s.st β xs us→RdAs w St xs us
 | [],us,_,h=>by simp only[AVRs] at h; exact h
 | x::xs,us,hx,h=>by
  simp only[bi,ay] at hx
  simp only[AVRs] at h
  obtain⟨y,ys,h1,h2,h3⟩:=h
  exact⟨y,ys,h1,ADI hx.1 h2,zn hx.2 h3⟩
theorem AE6 {x:AV} {u:Value} (hx:ABR x=true) (h:AVR w St s.st β x u):RdA w St x u:=by
 cases x with
 | clo f xs=>simp only[AVR] at h; exact h
 | c c=>exact ADI (by simpa [ABR] using hx) h
 | _=>simp[ABR,isV] at hx
theorem sZ:∀ {xs:List AV} {us:List Value},xs.all ABR=true→AVRs w St s.st β xs us→RdAs w St xs us
 | [],us,_,h=>by simp only[AVRs] at h; exact h
 | x::xs,us,hx,h=>by
  simp only[bi,ay] at hx
  simp only[AVRs] at h
  obtain⟨y,ys,h1,h2,h3⟩:=h
  exact⟨y,ys,h1,AE6 hx.1 h2,sZ hx.2 h3⟩
mutual
def Jo:Cl→Bool
 | .v _=>true
 | .sl _=>false
 | .ref _=>false
 | .ow _ _ xs=>JR xs
def JR:List (List Cl)→Bool
 | []=>true
 | x::xs=>Fj x&&JR xs
def Fj:List Cl→Bool
 | []=>true
 | c::cs=>Jo c&&Fj cs
end
mutual
theorem RdO.clo {w:World} {St St':Nat→Nat→Prop}:∀ (c:Cl) (u:Value) (F:Nat→Prop),Jo c=true→RdO w St c u F→RdO w St' c u F
 | .v x,u,F,_,h=>by simp only[RdO] at h ⊢; exact h
 | .ref _,_,_,hc,_=>by simp[Jo] at hc
 | .sl _,_,_,hc,_=>by simp[Jo] at hc
 | .ow ty sz xs,u,F,hc,h=>by
  simp only[RdO] at h ⊢
  simp only[Jo] at hc
  rcases h with h | ⟨b,cap,cs,G,h1,h2,h3,h4,h5,h6,h7,h8,h9,h10⟩
  ·exact .inl h
  ·exact .inr ⟨b,cap,cs,G,h1,h2,h3,h4,h5,h6,h7,h8,h9,RdOE.clo xs 0 cs G hc h10⟩
theorem RdOE.clo {w:World} {St St':Nat→Nat→Prop}:∀ (xs:List (List Cl)) (n:Nat) (cs:Array Value) (G:Nat→Nat→Prop),JR xs=true→RdOE w St xs n cs G→RdOE w St' xs n cs G
 | [],_,_,_,_,_=>by simp[RdOE]
 | x::xs,n,cs,G,hc,h=>by
  simp only[RdOE] at h ⊢
  simp only[JR,ay] at hc
  exact⟨RdOL.clo x n cs G hc.1 h.1,RdOE.clo xs _ cs G hc.2 h.2⟩
theorem RdOL.clo {w:World} {St St':Nat→Nat→Prop}:∀ (cl:List Cl) (n:Nat) (cs:Array Value) (G:Nat→Nat→Prop),Fj cl=true→RdOL w St cl n cs G→RdOL w St' cl n cs G
 | [],_,_,_,_,_=>by simp[RdOL]
 | c::cl,n,cs,G,hc,h=>by
  simp only[RdOL] at h ⊢
  simp only[Fj,ay] at hc
  obtain⟨⟨y,h1,h2⟩,h3⟩:=h
  exact⟨⟨y,h1,RdO.clo c y (G n) hc.1 h2⟩,RdOL.clo cl _ cs G hc.2 h3⟩
end
theorem Ql:∀ {cs:List Cl},Fj cs=true→∀ c∈cs,Jo c=true
 | [],_,c,h=>AOx
 | d::cs,hc,c,h=>by
  simp only[Fj,ay] at hc
  rcases SK.1 h with rfl | h
  ·exact hc.1
  ·exact Ql hc.2 c h
theorem VH:∀ {xs:List (List Cl)},JR xs=true→∀ x∈xs,Fj x=true
 | [],_,c,h=>AOx
 | d::cs,hc,c,h=>by
  simp only[JR,ay] at hc
  rcases SK.1 h with rfl | h
  ·exact hc.1
  ·exact VH hc.2 c h
theorem Ym:∀ {xs:List (List Cl)},(∀ x∈xs,Fj x=true)→JR xs=true
 | [],_=>rfl
 | d::cs,h=>by
  simp only[JR,ay]
  exact⟨h d AOR,Ym fun x hx=>h x APc⟩
theorem AE7 {c:Cl} (h:Jo c=true):D6 c=true:=by cases c<;>simp_all [Jo,D6]
theorem AE8 {cs:List Cl} (h:Fj cs=true):cs.all D6=true:=aJ.2 fun c hc=>AE7 (Ql h c hc)
def ADJ:Cl→Bool
 | .v _=>true
 | .sl []=>true
 | _=>false
def Gn:Res→Bool
 | .val (.c (.v _))=>true
 | .val (.agg cs)=>cs.all ADJ
 | .val _=>false
 | .own _ _ xs _=>JR xs
 | .agg cl=>Fj cl
theorem Res1.clo {w':World} {St2 St:Nat→Nat→Prop} {B:Nat} {r:Res} {u:Value} {b:Option Nat} {Φ:Nat→Nat→Prop} (hc:Gn r=true) (hB:∀ b o,St b o→b<B) (h:Res1 w' St2 B r u b Φ):Res1 w' St B r u b Φ:=by
 cases r with
 | val x =>
  obtain⟨h1,h2⟩:=h
  refine⟨?_,h2⟩
  cases x with
  | c c =>
   cases c with
   | v x=>exact h1
   | _=>simp[Gn] at hc
  | agg cs =>
   obtain⟨us,e1,e2,e3⟩:=h1
   refine⟨us,e1,e2,fun k c hk=>?_⟩
   obtain⟨y,hy,hr⟩:=e3 k c hk
   refine⟨y,hy, ?_⟩
   have hv:=aJ.1 hc c (bC hk)
   cases c with
   | v x=>simp only[RdD] at hr ⊢; exact hr
   | sl xs =>
    cases xs with
    | nil =>
     simp only[RdC,RdD] at hr ⊢
     simp_all
    | cons _ _=>simp[ADJ] at hv
   | _=>simp[ADJ] at hv
  | _=>simp[Gn] at hc
 | own ty sz xs wr =>
  cases b with
  | none=>exact h
  | some b =>
   obtain⟨g1,g2,g3,g4,cap,cs,e1,e2,e3,e4,e5,e6⟩:=h
   refine⟨g1,g2,g3,fun o ho=>?_,cap,cs,e1,e2,e3,e4,e5,fun k c hk=>?_⟩
   ·grind
   ·obtain⟨y,hy,hr⟩:=e6 k c hk
    obtain⟨x,hx,hcx⟩:=aa2.1 (bC hk)
    exact⟨y,hy,RdO.clo c y _ (Ql (VH hc x hx) c hcx) hr⟩
 | agg cl =>
  obtain⟨h1,us,e1,e2,e3⟩:=h
  refine⟨h1,us,e1,e2,fun k c hk=>?_⟩
  obtain⟨y,hy,hr⟩:=e3 k c hk
  exact⟨y,hy,RdO.clo c y _ (Ql hc c (bC hk)) hr⟩
theorem ResR.clo {w':World} {St2 St:Nat→Nat→Prop} {B:Nat} (hB:∀ b o,St b o→b<B):∀ {rs:List Res} {us:List Value} {bs:List (Option Nat)} {Φs:List (Nat→Nat→Prop)},rs.all Gn=true→ResR w' St2 B rs us bs Φs→ResR w' St B rs us bs Φs
 | [],us,bs,Φs,_,h=>h
 | r::rs,us,bs,Φs,hc,h=>by
  simp only[bi,ay] at hc
  obtain⟨u,us',b,bs',Φ,Φs',e1,e2,e3,h1,h2⟩:=h
  exact⟨u,us',b,bs',Φ,Φs',e1,e2,e3,h1.clo hc.1 hB,ResR.clo hB hc.2 h2⟩
theorem Back.clo {St1 St2:Nat→Nat→Prop} {rs:List Res} {e:Ending} {w':World} {us:List Value} {bs:List (Option Nat)} (hb:Back w St1 rs e w' us bs St2) (hc:rs.all Gn=true) (hin:∀ b o,St b o→b<w.heap.size):Back w St rs e w' us bs St:=by
 obtain⟨Φs,hr,hf⟩:=hb.res
 exact⟨hb.ret,hb.below,fun _ _ h=>h,fun _ _ h _=>h,fun b o h=>cO (hin b o h) hb.below.size,Φs,hr.clo hin hc,hf.nodup,fun i Φ k x hi hx=>by
  obtain⟨q1,q2,q3,q4⟩:=hf.fresh i Φ k x hi hx
  grind,hf.dis⟩
def YT (st:List Ob):Cl→Option Cl
 | .ref l=>match Cf st l with
  | some ob=>if BJ ob.xs then some (.sl (QG ob.xs)) else none
  | none=>none
 | .v x=>fzC st (.v x)
 | .sl xs=>some (.sl xs)
 | .ow _ _ _=>none
def ABS (st:List Ob):List Cl→Option (List Cl)
 | []=>some []
 | c::cs=>match YT st c,ABS st cs with
  | some d,some ds=>some (d::ds)
  | _,_=>none
def AE9 (st:List Ob):AV→Option AV
 | .c x=>match YT st x with
  | some d=>some (.c d)
  | none=>none
 | .agg xs=>match ABS st xs with
  | some ys=>some (.agg ys)
  | none=>none
 | .vw (.c (.ref l)) i n m=>match YT st (.ref l) with
  | some (.sl xs)=>if i+m≤xs.length∧xs.all (fun r=>r.length==n)=true then some (.c (.sl ((xs.drop i).take m))) else none
  | _=>none
 | _=>none
def TM (st:List Ob):List AV→Option (List AV)
 | []=>some []
 | x::xs=>match AE9 st x,TM st xs with
  | some y,some ys=>some (y::ys)
  | _,_=>none
def AllSt (w:World) (St:Nat→Nat→Prop) (st:List Ob) (β:Nat→Option Nat) (φ:Nat→Nat→Nat→Prop) (b o:Nat):Prop:=St b o∨∃ l,Fp st β φ l b
theorem AllSt.lt {φ:Nat→Nat→Nat→Prop} (h:Core w0 St0 St β s a w) (hφ:VF w0 w St s.st β φ) {b o:Nat} (hb:AllSt w St s.st β φ b o):b<w.heap.size:=by
 rcases hb with hb | ⟨l,ob,p1,p2,p3⟩
 ·exact h.stIn b o hb
 ·rcases p3 with p3 | ⟨k,p3⟩
  ·exact(h.obs l ob b p1 p2 p3).2.1
  ·exact(hφ.2.1 l k b p3).2.2.2.1
section
variable {φ:Nat→Nat→Nat→Prop}
theorem Yn (h:Core w0 St0 St β s a w) (hφ:VF w0 w St s.st β φ) {c d:Cl} (hc:YT s.st c=some d) {u:Value} (hu:RdC w St s.st β c u):RdD w (AllSt w St s.st β φ) d u:=by
 cases c with
 | ow ty sz xs=>simp[YT] at hc
 | sl xs =>
  simp only[YT,ak] at hc
  subst hc
  exact RdD.mono (fun _ _ h=>.inl h) (fun _ _ _=>rfl) _ _ hu
 | v x =>
  simp only[YT] at hc
  obtain⟨St',q1,q2,q3,q4⟩:=nC h hc
  have hr:=q4 u (RdC.toB hu)
  unfold fzC at hc
  split at hc
  ·simp only[ak] at hc
   subst hc
   simp only[RdD] at hr ⊢
   simp_all
  ·cases hc
  ·rename_i y _ _ he
   simp only[ak] at hc
   subst hc
   cases he
   simp only[RdD] at hr ⊢
   exact hr
  ·grind
  ·grind
  grind
 | ref l =>
  simp only[YT] at hc
  split at hc
  ·rename_i ob hob
   split at hc
   ·rename_i hnr
    simp only[ak] at hc
    subst hc
    have hr:=xg h hφ hob hnr (by simpa only[RdC] using hu)
    have:=RdO.frz _ _ _ hr
    simp only[er] at this
    exact RdD.mono (fun b o hbo=>by
     rcases hbo with hbo | hbo
     ·exact .inl hbo
     ·exact .inr ⟨l,hbo⟩) (fun _ _ _=>rfl) _ _ this
   ·cases hc
  ·cases hc
theorem zo {st:List Ob}:∀ {cs ds:List Cl},ABS st cs=some ds→ds.length=cs.length∧∀ (k:Nat) (d:Cl),ds[k]?=some d→∃ c,cs[k]?=some c∧YT st c=some d
 | [],ds,h=>by
  simp only[ABS,ak] at h
  subst h
  exact⟨rfl,fun k d hk=>APA⟩
 | c::cs,ds,h=>by
  simp only[ABS] at h
  split at h
  ·rename_i d ds' h1 h2
   simp only[ak] at h
   subst h
   obtain⟨q1,q2⟩:=zo h2
   refine⟨by simp[q1],fun k e hk=>?_⟩
   cases k with
   | zero=>simp only[aV,ak] at hk; subst hk; exact⟨c,rfl,h1⟩
   | succ k=>simpa using q2 k e AO1
  ·cases h
theorem AE_ (h:Core w0 St0 St β s a w) (hφ:VF w0 w St s.st β φ) {x y:AV} (hx:AE9 s.st x=some y) {u:Value} (hu:AVR w St s.st β x u):RdA w (AllSt w St s.st β φ) y u:=by
 unfold AE9 at hx
 split at hx
 ·split at hx
  ·rename_i d hd
   simp only[ak] at hx
   subst hx
   simp only[AVR] at hu
   exact Yn h hφ hd hu
  ·cases hx
 ·split at hx
  ·rename_i ys hys
   simp only[ak] at hx
   subst hx
   simp only[AVR] at hu
   obtain⟨us,e1,e2,e3⟩:=hu
   obtain⟨q1,q2⟩:=zo hys
   refine⟨us,e1,by rw[q1,e2],fun k d hk=>?_⟩
   grind [Yn]
  ·cases hx
 ·rename_i l i n m
  split at hx
  ·rename_i xs hxs
   split at hx
   ·rename_i hcond
    obtain⟨c1,c2⟩:=hcond
    simp only[ak] at hx
    subst hx
    simp only[AVR] at hu
    obtain⟨b,len,cap,cap',rfl,h2,h3,h4⟩:=hu
    have hd:=Yn h hφ hxs h4
    have hall:∀ z∈xs,z.length=n:=fun z hz=>AOT
    have hlen:((xs.drop i).take m).length=m:=AOS
    simp only[RdD] at hd
    obtain⟨ad,cp,e1,e2,e3,e4,e5⟩:=hd
    simp only[RdA,RdD]
    refine⟨_,cap',by rw[hlen],AOQ,h3,⟨n,fun z hz=>hall z (xR (ru hz))⟩, ?_⟩
    rcases e5 with rfl | ⟨b2,off,rfl,e6⟩
    ·left; simp
    ·simp only[Value.slice.injEq,ak,Addr.mk.injEq,xU] at e1
     obtain⟨⟨rfl,rfl⟩,_⟩:=e1
     right
     refine⟨_,_,rfl,AEK n (fun z hz=>hall z (xR (ru hz))) fun k z hi=>?_⟩
     rw[aaB] at hi
     split at hi
     ·rw[aaY] at hi
      have:=e6.at n hall (i+k) z hi
      rwa [show 0+(i+k)*n=i*n+k*n by rw[Zm]; omega] at this
     ·cases hi
   ·cases hx
  ·cases hx
 ·cases hx
theorem Zv (h:Core w0 St0 St β s a w) (hφ:VF w0 w St s.st β φ):∀ {xs ys:List AV},TM s.st xs=some ys→∀ {us:List Value},AVRs w St s.st β xs us→RdAs w (AllSt w St s.st β φ) ys us
 | [],ys,hx,us,hu=>by
  simp only[TM,ak] at hx
  subst hx
  simp only[AVRs] at hu
  exact hu
 | x::xs,ys,hx,us,hu=>by
  simp only[TM] at hx
  split at hx
  ·rename_i y ys' h1 h2
   simp only[ak] at hx
   subst hx
   simp only[AVRs] at hu
   obtain⟨v,vs,e,g1,g2⟩:=hu
   exact⟨v,vs,e,AE_ h hφ h1 g1,Zv h hφ h2 g2⟩
  ·cases hx
end
def Ic (s:MS) (x:Option Operand) (d:Nat):Option Nat:=match x with
 | none=>some d
 | some x=>KU (Ei s x)
def su:Option Operand→Bool
 | none=>true
 | some x=>Ak x
def ADK:AV→Bool
 | .c (.ref _)=>true
 | _=>false
def vwQ (P:Program) (e:TypeId) (x:AV):Bool:=match Ac P e with
 | some n=>decide (5≤n)&&ADK x
 | none=>false
def vwE (P:Program) (s:MS) (e:TypeId) (x:AV) (lo hi:Option Operand):Option (AV×List Ob):=match Ac P e,x with
 | some n,.c (.ref l)=>match Cf s.st l with
  | some ob=>match Ic s lo 0,Ic s hi ob.xs.length with
   | some i,some h=>if i<h∧h≤ob.xs.length then some (.vw (.c (.ref l)) i n (h-i),s.st) else none
   | _,_=>none
  | none=>none
 | _,_=>none
def UA (P:Program) (s:MS) (T:TypeId) (x:AV) (lo hi:Option Operand):Option (AV×List Ob):=match P.underlying T with
 | some .string=>match x with
  | .c (.v (.string b))=>match Ic s lo 0,Ic s hi b.size with
   | some l,some h=>if l≤h∧h≤b.size then some (.c (.v (.string (b.extract l h))),s.st) else none
   | _,_=>none
  | _=>none
 | some (.slice e)=>if vwQ P e x=true then vwE P s e x lo hi else match x with
  | .c d=>match Ac P e,fzC s.st d with
   | some n,some (.sl xs)=>match Ic s lo 0,Ic s hi xs.length with
    | some l,some h=>if l≤h∧h≤xs.length∧xs.all (fun r=>r.length==n)=true then some (.c (.sl ((xs.drop l).take (h-l))),sH s.st d) else none
    | _,_=>none
   | _,_=>none
  | _=>none
 | _=>none
theorem jd (h:Core w0 St0 St β s a w) {x:Option Operand} (hx:su x=true) {d k:Nat} (hk:Ic s x d=some k):(x=none∧k=d)∨∃ kd y,x=some y∧a.eval y = .int kd (k:Int):=by
 cases x with
 | none=>simp[Ic] at hk; grind
 | some y =>
  obtain⟨kd,h2⟩:=mg (CO h y hx) hk
  grind
theorem Hz (k:IntKind) (i y:Nat) (code:BoundsCode) (h:i≤y):(Instr.sliceBound (.int k (i:Int)) y code).run P w = .ok i w:=by
 grind [run_sliceBound]
theorem UB (h:Core w0 St0 St β s a w) {lo hi:Option Operand} (h1:su lo=true) (h2:su hi=true) {len cap l r:Nat} (hl:Ic s lo 0=some l) (hr:Ic s hi len=some r) (hlr:l≤r) (hrl:r≤len) (hc:len≤cap) (isS:Bool) :
  (Instr.sliceBounds isS len cap (lo.map a.eval) (hi.map a.eval) none).run P w = .ok (l,r,cap) w:=by
 rcases jd h h1 hl with ⟨rfl,rfl⟩ | ⟨k1,y1,rfl,e1⟩<;>rcases jd h h2 hr with ⟨rfl,rfl⟩ | ⟨k2,y2,rfl,e2⟩
 ·simp[Instr.sliceBounds]
 ·simp[Instr.sliceBounds,e2,Hz _ r cap _ AOQ]
 ·simp[Instr.sliceBounds,e1,Hz _ l r _ hlr]
 ·simp[Instr.sliceBounds,e1,e2,Hz _ r cap _ (show r≤cap from AOQ),Hz _ l r _ hlr]
theorem ADL (h:Core w0 St0 St β s a w) (o:Oper) (T:TypeId) (x:Operand) (lo hi:Option Operand) (ho:o.op = .slice T x lo hi none) (hc:Ak x=true) (h1:su lo=true) (h2:su hi=true) {y:AV} {st':List Ob} (hy:UA P s T (Ei s x) lo hi=some (y,st')):Does P a w w0 St0 s o y st':=by
 have he:=CO h x hc
 unfold UA at hy
 split at hy
 ·rename_i hu
  split at hy
  ·rename_i b hev
   split at hy
   ·rename_i l r hl hr
    split at hy
    ·rename_i hcond
     simp only[ak,bK] at hy
     obtain⟨rfl,rfl⟩:=hy
     rw[hev] at he
     obtain⟨hv,hw⟩:=OO he
     have hb:=UB (P:=P) h h1 h2 (len:=b.size) (cap:=b.size) hl hr hcond.1 hcond.2 (aT _) false
     refine⟨_,.string (b.extract l r),_,St,β, ?_,.inl rfl,h,WX ?_⟩
     ·simp[execOp,ho,Instr.sliceAt,run_underlying hu,Instr.slice,hv,hb]
     ·simp only[QN,aZ] at hw ⊢
      simp_all<;>omega
    ·cases hy
   ·cases hy
  ·cases hy
 ·rename_i e hu
  split at hy
  ·unfold vwE at hy
   split at hy
   ·rename_i n l hs hev
    split at hy
    ·rename_i ob hob
     split at hy
     ·rename_i i r hl hr
      split at hy
      ·rename_i hcond
       obtain⟨c1,c2⟩:=hcond
       simp only[ak,bK] at hy
       obtain⟨rfl,rfl⟩:=hy
       rw[hev] at he
       have hr0:=he
       simp only[AVR,RdC,BM] at he
       obtain⟨g1,g2⟩:=Bo hob
       rw[g1] at he
       simp only at he
       have h6:=he.2 g2
       cases hb:β l with
       | none =>
        rw[hb] at h6
        have:=h6.2
        rw[this] at c2
        simp at c2
        omega
       | some b =>
        rw[hb] at h6
        obtain⟨cap,cs,hv,e2,e3,_,_⟩:=h6
        have hbd:=UB (P:=P) h h1 h2 (len:=ob.xs.length) (cap:=cap) hl hr AOQ c2 e2 true
        refine⟨_,.slice (some ⟨b,i*n,none⟩) (r-i) (cap-i),_,St,β, ?_,.inl rfl,h, ?_⟩
        ·have hne:¬ cap=i:=by omega
         simp[execOp,ho,Instr.sliceAt,run_underlying hu,Instr.slice,hv,hbd,IB hs,hne,addr_add]
        ·rw[hv] at hr0
         simp only[AVR]
         exact⟨b,_,cap,cap-i,rfl,AOQ,AOQ,by simpa only[AVR] using hr0⟩
      ·cases hy
     ·cases hy
    ·cases hy
   ·cases hy
  split at hy
  ·rename_i d hev
   split at hy
   ·rename_i n xs hs hf
    split at hy
    ·rename_i l r hl hr
     split at hy
     ·rename_i hcond
      obtain⟨c1,c2,c3⟩:=hcond
      simp only[ak,bK] at hy
      obtain⟨rfl,rfl⟩:=hy
      rw[hev] at he
      simp only[AVR] at he
      obtain⟨St',q1,q2,q3,q4⟩:=nC h hf
      have hd:=q4 _ he.toB
      simp only[RdD] at hd
      obtain⟨ad,cap,hv,e2,e3,e4,e5⟩:=hd
      have hb:=UB (P:=P) h h1 h2 (len:=xs.length) (cap:=cap) hl hr c1 c2 e2 true
      have hall:∀ z∈xs,z.length=n:=fun z hz=>AOT
      refine⟨_,.slice (if cap=l then ad else ad.map (·.add (l*n))) (r-l) (cap-l),_,St',β, ?_,.inl rfl,q1, ?_⟩
      ·simp[execOp,ho,Instr.sliceAt,run_underlying hu,Instr.slice,hv,hb,IB hs]
      ·simp only[AVR,RdC,RdD]
       have hlen:((xs.drop l).take (r-l)).length=r-l:=AOS
       refine⟨_,cap-l,by rw[hlen],AOQ,AOQ,⟨n,fun z hz=>hall z (xR (ru hz))⟩, ?_⟩
       by_cases hz:r-l=0
       ·grind
       ·right
        rcases e5 with rfl | ⟨b,off,rfl,e6⟩
        ·grind
        ·have hne:¬ cap=l:=by omega
         refine⟨b,off+l*n,by simp[hne,addr_add], ?_⟩
         refine AEK n (fun z hz=>hall z (xR (ru hz))) fun i z hi=>?_
         rw[aaB] at hi
         split at hi
         ·rw[aaY] at hi
          have:=e6.at n hall (l+i) z hi
          grind
         ·cases hi
     ·cases hy
    ·cases hy
   ·cases hy
  ·cases hy
 ·cases hy
def Ai (st:List Ob) (l:Nat):List Ob:=st.modify l fun ob=>{ ob with live:=false }
theorem H5 {st:List Ob} {l l':Nat} {ob:Ob} (h:(Ai st l)[l']?=some ob):∃ ob',st[l']?=some ob'∧(l=l'→ob = { ob' with live:=false })∧(l≠l'→ob=ob'):=by
 unfold Ai at h
 grind
theorem Nw {st:List Ob} {l l':Nat} {ob:Ob} (h:st[l']?=some ob):(Ai st l)[l']?=some (if l=l' then { ob with live:=false } else ob):=by
 unfold Ai
 grind
theorem ABT {st:List Ob} (l l':Nat) (u:Value) (h:BM w st β l' u):BM w (Ai st l) β l' u:=by
 unfold BM at h ⊢
 exact ANa
theorem AFA {st:List Ob} (l:Nat) (l' i off:Nat) (u:Value) (h:AVR w St st β (.lp l' i off) u):AVR w St (Ai st l) β (.lp l' i off) u:=by
 simp only[AVR] at h ⊢
 exact ANa
theorem Core.kill (h:Core w0 St0 St β s a w) (l:Nat):Core w0 St0 St β ⟨s.n,s.env,Ai s.st l⟩ a w∧(∀ x u,AVR w St s.st β x u→AVR w St (Ai s.st l) β x u):=by
 have hr:=fun l' u hu=>ABT (w:=w) (β:=β) (st:=s.st) l l' u hu
 have hA:∀ x u,AVR w St s.st β x u→AVR w St (Ai s.st l) β x u:=fun x u hx=>AVR.mono (fun _ _ h=>h) (fun _ _ _=>rfl) hr (fun l' i off u hu=>AFA l l' i off u hu) x u hx
 have hg:∀ l' o2,(Ai s.st l)[l']?=some o2→o2.live=true→s.st[l']?=some o2∧l≠l':=by
  intro l' o2 h2 hl
  obtain⟨o3,p1,p2,p3⟩:=H5 h2
  exact ANR
 refine⟨?_,hA⟩
 exact {
  defers:=h.defers
  size:=h.size
  lim:=h.lim
  env:=fun i=>hA _ _ (h.env i)
  below:=h.below,st0:=h.st0,stOld:=h.stOld,stIn:=h.stIn
  obs:=fun l' o2 b hl hlive hβ=>by
   obtain⟨p1,_⟩:=hg l' o2 hl hlive
   obtain⟨q1,q2,q3⟩:=h.obs l' o2 b p1 hlive hβ
   exact⟨q1,q2,ObR.mono (fun _ _ h=>h) (fun _ _ _=>rfl) hr rfl q3⟩
  nil:=fun l' o2 hl hlive hβ=>h.nil l' o2 (hg l' o2 hl hlive).1 hlive hβ
  inj:=fun l1 l2 o1 o2 b h1 h2 h3 h4 h5 h6=>h.inj l1 l2 o1 o2 b (hg l1 o1 h1 h3).1 (hg l2 o2 h2 h4).1 h3 h4 h5 h6
  sep:=fun l' o2 b o hl hlive hβ hbo=>h.sep l' o2 b o (hg l' o2 hl hlive).1 hlive hβ hbo
  own:=h.own.move id (fun x hx=>⟨⟨hx.1,hx.2.1,hx.2.2.1,hx.2.2.2.1,fun l' o2 hl' hlv=>hx.2.2.2.2 l' o2 (hg l' o2 hl' hlv).1 hlv⟩,rfl⟩) (fun _ _ h=>h) (fun _ _ _=>rfl)
   (fun l' o2 b k c h1 h2 h3 h4 _=>⟨o2,b,(hg l' o2 h1 h2).1,h2,h3,h4,rfl⟩) (fun _ _ _ _ _ _ _ _ e=>e) }
theorem Core.turn (h:Core w0 St0 St β s a w) {b:Nat} (hB:w0.may b) (hN:Own w0 (fun x=>x=b) w St s.st β) (hfree:∀ l o2,s.st[l]?=some o2→o2.live=true→β l≠some b) {cs cs':Array Value} {ty:TypeId} (hcs:w.heap[b]?=some (.cells cs ty (0,0)))
  (hst:∀ o,St b o→cs'[o]?=cs[o]?) (hsz:cs'.size=cs.size):Core w0 St0 St β s a (w.setRow b cs'):=by
 have hoth:∀ k,k≠b→(w.setRow b cs').heap[k]?=w.heap[k]?:=fun k hk=>setRow_other w b k cs' hk
 have hnew:(w.setRow b cs').heap[b]?=some (.cells cs' ty (0,0)):=setRow_heap w b cs cs' ty (0,0) hcs
 have hcell:∀ b' o,St b' o→(w.setRow b cs').cell? ⟨b',o,none⟩=w.cell? ⟨b',o,none⟩:=fun b' o hbo=>by
  by_cases e:b'=b
  ·subst e
   rw[World.cell?,World.cell?,hnew,hcs]
   grind
  grind [cell_of_block]
 have hbelow:BelowB w0 (w.setRow b cs'):=h.below.step (n:=0) ⟨rfl,rfl,rfl,APj,fun k hk=>absurd hk (Nat.not_lt_zero _)⟩ (fun k h1 h2=>hoth k fun e=>by
  subst e
  rcases hB with h' | h'
  ·omega
  grind) fun k hk=>by
  grind [AC4,xW]
 have hr:∀ l' u,BM w s.st β l' u→BM (w.setRow b cs') s.st β l' u:=by
  intro l' u hu
  unfold BM at hu ⊢
  exact AL7
 have hA:∀ x u,AVR w St s.st β x u→AVR (w.setRow b cs') St s.st β x u:=fun x u hx=>AVR.mono (fun _ _ h=>h) hcell hr (fun l i off u hu=>by simpa only[AVR] using hu) x u hx
 exact {
  defers:=h.defers
  size:=h.size
  lim:=h.lim
  env:=fun i=>hA _ _ (h.env i)
  below:=hbelow
  st0:=h.st0,stOld:=h.stOld
  stIn:=fun b' o hbo=>by simpa [World.setRow] using h.stIn b' o hbo
  obs:=fun l' o2 b2 hl hlive hβ=>by
   obtain⟨q1,q2,q3⟩:=h.obs l' o2 b2 hl hlive hβ
   have hne:b2≠b:=fun e=>hfree l' o2 hl hlive (by rw[hβ,e])
   exact⟨q1,APj,ObR.mono (fun _ _ h=>h) hcell hr (hoth b2 hne) q3⟩
  nil:=h.nil,inj:=h.inj,sep:=h.sep
  own:=hN.move id (fun x hx=>⟨⟨hx.1,fun h=>h,by simpa [World.setRow] using hx.2.2.1,hx.2.2.2.1,hx.2.2.2.2⟩,hoth x hx.2.1⟩) (fun _ _ h=>h) hcell
   (fun l' o2 b2 k c h1 h2 h3 h4 _=>⟨o2,b2,h1,h2,h3,h4,cell_of_block (hoth b2 fun e=>hfree l' o2 h1 h2 (by rw[h3,e]))⟩) (fun _ _ _ _ _ _ _ _ e=>e) }
def rowOk (n:Nat) (r:List Cl):Bool:=r.length==n&&r.all fun c=>!Gm c
def Kz (n:Nat) (ys:List (List Cl)):Bool:=ys.all (rowOk n)
def xh (P:Program) (s:MS) (T:TypeId) (x y:AV):Option (AV×List Ob):=match D_ P T with
 | some e=>match Ac P e,Tt P e,EQ P e with
  | some n,some zs,some by'=>if zs.length=n∧0<n∧by'≤65536 then match y with
    | .c d=>match TL s.st d with
     | some ys=>if Kz n ys=true then match x with
        | .c (.v (.slice none 0 0))=>if ys.length≤2147483648∨(ys.length≤1099511627776∧by'≤128) then some (.c (.ref s.st.length),s.st ++ [⟨e,n,ys,true,true⟩]) else none
        | .c (.ref l)=>match Cf s.st l with
         | some ob=>if ob.ty=e∧ob.sz=n∧(ob.xs.length+ys.length≤2147483648∨(ob.xs.length+ys.length≤1099511627776∧by'≤128)) then some (.c (.ref s.st.length),Ai s.st l ++ [⟨e,n,ob.xs++ys,ob.wr,true⟩]) else none
         | none=>none
        | _=>none
       else none
     | none=>none
    | _=>none
   else none
  | _,_,_=>none
 | none=>none
theorem Ie (st:List Ob) (l:Nat):(Ai st l).length=st.length:=by simp[Ai]
theorem IC {T e:TypeId} {n:Nat} {ty:TypeId} (ht:P.underlying T=some (.slice e)) (hs:Ac P e=some n) (base:Option Addr) (len cap:Nat) (hle:len≤cap) (ad:Option Addr) (c:Nat) (w:World) :
  (Builtin.append_ #[T,T] ty #[.slice base len cap,.slice ad 0 c]).run P w = .ok (.slice base len cap) w:=by
 cases ad with
 | none=>cases base<;>simp[Builtin.append_,run_underlying ht,IB hs,Builtin.lenOf,Builtin.firstCells,hle,storeCells]
 | some ad=>cases base<;>simp[Builtin.append_,run_underlying ht,IB hs,Builtin.lenOf,Builtin.firstCells,hle,storeCells,loadCells,loadCellsFrom]
theorem Fb (w:World) (o:Obj):Below w.heap.size w (w.drew.alloc o):=⟨rfl,rfl,rfl,AOR,fun k hk=>by
 show (w.heap.push o)[k]?=_
 grind⟩
theorem Ew (w:World) (o:Obj):(w.drew.alloc o).heap[w.heap.size]?=some o:=by
 show (w.heap.push o)[w.heap.size]?=_
 simp
def AKe (w:World) (ob:Ob) (u:Value):Option Nat→Prop
 | none=>u = .slice none 0 0∧ob.xs = []
 | some b=>∃ cap cs,u = .slice (some ⟨b,0,none⟩) ob.xs.length cap∧ob.xs.length≤cap∧cap≤maxLen∧w.heap[b]?=some (.cells cs ob.ty (0,0))∧cs.size=cap*ob.sz
theorem NL {st:List Ob} {ob:Ob} {b:Option Nat} {u:Value} (hone:u.oneCell'=true)
  (hb:β st.length=b) (hu:ob.live=true→AKe w ob u b) :
  AVR w St (st ++ [ob]) β (.c (.ref st.length)) u:=by
 simp only[AVR,RdC,BM]
 rw[bn (aT _)]
 simp only[jV,aV,hb]
 refine⟨hone,fun hl=>?_⟩
 have:=hu hl
 cases b with
 | none=>exact this
 | some b=>exact this
theorem VI (h:Core w0 St0 St β s a w) {l:Nat} {ob:Ob} {b0:Nat} (hob:s.st[l]?=some ob) (hlive:ob.live=true) (hβ:β l=some b0) {w':World} {b':Nat} {ob':Ob} {ys:List (List Cl)} (hxs:ob'.xs=ob.xs++ys)
  (hys:∀ (k:Nat) (c:Cl),ys.flatten[k]?=some c→Gm c=false) (hfree:∀ x,Ot w0 (fun _=>False) w St s.st β x→x≠b'∧w'.heap[x]?=w.heap[x]?) (hsize:w.heap.size≤w'.heap.size)
  (hcell:∀ b o,St b o→w'.cell? ⟨b,o,none⟩=w.cell? ⟨b,o,none⟩) (hoth:∀ (l2:Nat) (o2:Ob) (b2:Nat),s.st[l2]?=some o2→o2.live=true→β l2=some b2→l≠l2→w'.heap[b2]?=w.heap[b2]?)
  (hmv:∀ k,k<ob.xs.flatten.length→w'.cell? ⟨b',k,none⟩=w.cell? ⟨b0,k,none⟩) :
  Own w0 (fun _=>False) w' St (Ai s.st l ++ [ob']) (fun i=>if i=(Ai s.st l).length then some b' else β i):=by
 have hkl:(Ai s.st l).length=s.st.length:=Ie s.st l
 have hll:l<s.st.length:=(aF.1 hob).1
 refine h.own.move (fun i=>if i=s.st.length then l else i) (fun x hx=>?_) (fun _ _ h=>h) hcell (fun l2 o2 b k c hl hlive2 hβ2 hk hc=>?_) (fun l1 l2 o1 o2 h1 h2 g1 g2 e=>?_)
 ·obtain⟨q1,q2⟩:=hfree x hx
  refine⟨⟨hx.1,fun h=>h,cO hx.2.2.1 hsize,hx.2.2.2.1,fun i o2 hi hlv=>?_⟩,q2⟩
  by_cases e:i=(Ai s.st l).length
  ·grind
  ·simp only[e,aX]
   have hlt:i<(Ai s.st l).length:=by
    have:=(aF.1 hi).1
    simp at this
    omega
   rw[bH hlt] at hi
   obtain⟨o3,r1,r2,r3⟩:=H5 hi
   have hne:l≠i:=fun e2=>AOT
   have:=r3 hne
   subst this
   exact hx.2.2.2.2 i o2 r1 hlv
 ·by_cases e:l2=s.st.length
  ·grind
  grind [aF,bH,H5,cell_of_block]
 grind [bH,H5]
theorem tC (h:Core w0 St0 St β s a w) {l:Nat} {ob:Ob} {b0:Nat} (hob:s.st[l]?=some ob) (hlive:ob.live=true) (hβ:β l=some b0):Own w0 (fun x=>x=b0) w St (Ai s.st l) β:=by
 have hg:∀ l' o2,(Ai s.st l)[l']?=some o2→o2.live=true→s.st[l']?=some o2∧l≠l':=by
  intro l' o2 h2 hl
  obtain⟨o3,p1,p2,p3⟩:=H5 h2
  exact ANR
 exact h.own.move id (fun x hx=>⟨⟨hx.1,fun e=>hx.2.2.2.2 l ob hob hlive (by rw[hβ,e]),hx.2.2.1,hx.2.2.2.1,fun l' o2 hl' hlv=>hx.2.2.2.2 l' o2 (hg l' o2 hl' hlv).1 hlv⟩,rfl⟩) (fun _ _ h=>h) (fun _ _ _=>rfl)
  (fun l' o2 b k c h1 h2 h3 h4 _=>⟨o2,b,(hg l' o2 h1 h2).1,h2,h3,h4,rfl⟩) (fun _ _ _ _ _ _ _ _ e=>e)
theorem Ig {n m k:Nat} (h1:n≤2147483648∨(n≤1099511627776∧m≤128)) (h2:m≤65536) (h3:k≤n):k*m≤140737488355328:=by
 rcases h1 with h1 | ⟨h1,h4⟩
 ·have:=aa0 (Nat.le_trans h3 h1) h2
  omega
 ·have:=aa0 (Nat.le_trans h3 h1) h4
  omega
theorem nJ (h:Core w0 St0 St β s a w) (e:TypeId) (n:Nat) (xs:List (List Cl)) (wr:Bool) (vals:List Value) (rest:Array Value) (cap:Nat) (hl:∀ x∈xs,x.length=n) (hvl:vals.length=xs.length*n)
  (hc:∀ (k:Nat) (c:Cl),xs.flatten[k]?=some c→∃ u,vals[k]?=some u∧RdC w St s.st β c u) (hcap:xs.length≤cap) (hcm:cap≤maxLen) (hrest:rest.size=(cap-xs.length)*n) :
  ∃ β',Core w0 St0 St β' ⟨s.n,s.env,s.st ++ [⟨e,n,xs,wr,true⟩]⟩ a (w.drew.alloc (.cells (vals.toArray++rest) e)) ∧
   AVR (w.drew.alloc (.cells (vals.toArray++rest) e)) St (s.st ++ [⟨e,n,xs,wr,true⟩]) β' (.c (.ref s.st.length)) (.slice (some ⟨w.heap.size,0,none⟩) xs.length cap):=by
 obtain⟨β',h1,h2,h3,_⟩:=h.newOb (Fb w (.cells (vals.toArray++rest) e)) ⟨e,n,xs,wr,true⟩ (some w.heap.size) rfl AOR (fun b hb=>by
  grind [ak,Ew,aF,aax])
 exact AMo
theorem VJ (h:Core w0 St0 St β s a w) (e:TypeId) (n:Nat) (xs:List (List Cl)) (wr:Bool) (vals:List Value) (rest:Array Value) (cap:Nat) (hl:∀ x∈xs,x.length=n) (hvl:vals.length=xs.length*n)
  (hc:∀ (k:Nat) (c:Cl),xs.flatten[k]?=some c→∃ u,vals[k]?=some u∧RdB w St s.st β c u) (hcap:xs.length≤cap) (hcm:cap≤maxLen) (hrest:rest.size=(cap-xs.length)*n)
  (hown:Own w0 (fun _=>False) (w.drew.alloc (.cells (vals.toArray++rest) e)) St (s.st ++ [⟨e,n,xs,wr,true⟩]) (fun l=>if l=s.st.length then some w.heap.size else β l)) :
  ∃ β',Core w0 St0 St β' ⟨s.n,s.env,s.st ++ [⟨e,n,xs,wr,true⟩]⟩ a (w.drew.alloc (.cells (vals.toArray++rest) e)) ∧
   AVR (w.drew.alloc (.cells (vals.toArray++rest) e)) St (s.st ++ [⟨e,n,xs,wr,true⟩]) β' (.c (.ref s.st.length)) (.slice (some ⟨w.heap.size,0,none⟩) xs.length cap):=by
 obtain⟨β',h1,h2,h3,_⟩:=h.newObB (Fb w (.cells (vals.toArray++rest) e)) ⟨e,n,xs,wr,true⟩ (some w.heap.size) rfl AOR (fun b hb=>by
  grind [ak,Ew,aF,aax]) hown
 exact AMo
theorem AHG (h:Core w0 St0 St β s a w) (o:Oper) (T:TypeId) (c:Call) (x y:Operand) (ho:o.op = .call c) (hcl:c.callee = .builtin .append) (hca:c.args.toList = [x,y]) (hct:c.argTypes.toList = [T,T]) (hc:Ak x=true) (hc2:Ak y=true)
  {z:AV} {st':List Ob} (hy:xh P s T (Ei s x) (Ei s y)=some (z,st')):Does P a w w0 St0 s o z st':=by
 have hx:=CO h x hc
 have hyy:=CO h y hc2
 have ha1:c.argTypes = #[T,T]:=AOp
 have ha2:c.args = #[x,y]:=AOq
 have hexec:∀ v w',(Builtin.append_ #[T,T] o.type #[a.eval x,a.eval y]).run P w = .ok v w'→(execOp a.eval o).run P w = .ok (.value v) w':=by
  exact ALF
 unfold xh at hy
 split at hy
 ·rename_i e hte
  have ht:=Ja hte
  split at hy
  ·rename_i n cs0 by' hs hz0 hb
   obtain⟨zs,hz,_,rfl⟩:=OL hz0
   split at hy
   ·rename_i hcond
    obtain⟨hzl0,hn,hby⟩:=hcond
    have hzl:zs.length=n:=APb
    split at hy
    ·rename_i d hevy
     split at hy
     ·rename_i ys hd
      ·
       split at hy
       ·rename_i hall
        have hyl:∀ r∈ys,r.length=n:=fun r hr=>by
         have:=aJ.1 hall r hr
         simp only[rowOk,ay,iP] at this
         exact this.1
        have hysno:∀ (k:Nat) (c:Cl),ys.flatten[k]?=some c→Gm c=false:=fun k c hk=>by
         obtain⟨r,hr,hcr⟩:=aa2.1 (bC hk)
         have:=aJ.1 hall r hr
         simp only[rowOk,ay] at this
         grind
        rw[hevy] at hyy
        simp only[AVR] at hyy
        obtain⟨ad,capy,hvy,_,hcells⟩:=Tu h hyy hd
        have hxx:AVR w St s.st β (Ei s x) (a.eval x):=hx
        have hyfl:ys.flatten.length=ys.length*n:=EK hyl
        have htab:∃ i z',P.info? e=some i∧i.zero=some z'∧i.size=n∧i.bytes=by'∧z'.cells.size=n:=by
         exact AIH
        obtain⟨i,z',hi,hiz,hsz,hbs,hzs⟩:=htab
        have hnews:ys≠ []→∃ b off,ad=some ⟨b,off,none⟩∧∃ news:List Value,news.length=ys.length*n∧(∀ (k:Nat) (v:Value),news[k]?=some v→w.cell? ((⟨b,off,none⟩:Addr).add k)=some v) ∧
          (∀ (k:Nat) (c:Cl),ys.flatten[k]?=some c→∃ u,news[k]?=some u∧RdC w St s.st β c u)∧∀ u∈news,u.oneCell'=true:=by
         intro hne
         rcases hcells with h0 | ⟨b,off,rfl,hcell⟩
         ·grind
         ·obtain⟨news,n1,n2⟩:=Jn (R:=fun c u=>RdC w St s.st β c u) (w:=w) (b:=b) ys.flatten off (fun k c hk=>by
           obtain⟨v,hv1,hv2⟩:=hcell k c hk
           exact⟨v,hv1,hv2.toC (hysno k c hk)⟩)
          have hat:∀ (k:Nat) (v:Value),news[k]?=some v→∃ c,ys.flatten[k]?=some c∧w.cell? ⟨b,off+k,none⟩=some v∧RdC w St s.st β c v:=fun k v hk=>by
           exact AM1
          refine⟨b,off,rfl,news,by rw[n1,hyfl],fun k v hk=>?_,fun k c hk=>?_,fun u hu=>?_⟩
          ·grind [addr_add]
          ·grind
          ·obtain⟨k,hk⟩:=abb.1 hu
           obtain⟨_,_,_,hr⟩:=hat k u hk
           exact hr.one
        split at hy
        ·
         rename_i hevx
         split at hy
         ·rename_i hle
          simp only[ak,bK] at hy
          obtain⟨rfl,rfl⟩:=hy
          rw[hevx] at hxx
          obtain⟨hvx,_⟩:=OO hxx
          by_cases hne:ys = []
          ·subst hne
           have hy0:([]:List (List Cl)).length=0:=rfl
           rw[hy0] at hvy
           have hrun:(Builtin.append_ #[T,T] o.type #[a.eval x,a.eval y]).run P w = .ok (.slice none 0 0) w:=by
            rw[hvx,hvy]; exact IC ht hs none 0 0 (aT _) ad capy w
           obtain⟨a1,a2,a3⟩:=h.addOb ⟨e,n,[],true,true⟩ none (fun _=>rfl) AOR h.own AOR
           exact⟨_,.slice none 0 0,w,St,_,hexec _ _ hrun,.inl rfl,a1,NL (b:=none) rfl AOR fun _=>⟨rfl,rfl⟩⟩
          ·obtain⟨b,off,rfl,news,n1,n2,n3,n4⟩:=hnews hne
           have hpos:0<ys.length:=aa3.2 hne
           have hr:=run_append_nil (P:=P) w T o.type e i z' ht hi hiz ⟨b,off,none⟩ ys.length capy news AOT n2 hpos AOQ APH
           rw[← hvx,← hvy] at hr
           have hge:=grownCap_ge w ys.length 0 e
           obtain⟨β',g1,g2⟩:=nJ h e n ys true news (Builtin.zeroCells z'.cells (grownCap w ys.length 0 e-ys.length)) (grownCap w ys.length 0 e) hyl n1 (fun k c hk=>by
            grind) hge (grownCap_le_maxLen w ys.length 0 e AO5) APu
           exact AL0
         ·cases hy
        ·
         rename_i l hevx
         split at hy
         ·rename_i ob hob
          split at hy
          ·rename_i hoc
           obtain⟨hty,hosz,hle⟩:=hoc
           simp only[ak,bK] at hy
           obtain⟨rfl,rfl⟩:=hy
           rw[hevx] at hxx
           obtain⟨hl,hlive⟩:=Bo hob
           simp only[AVR,RdC,BM,hl] at hxx
           have hx2:=hxx.2 hlive
           obtain⟨k1,k2⟩:=h.kill l
           have hkr:∀ c u,RdC w St s.st β c u→RdC w St (Ai s.st l) β c u:=fun c u hc=>by
            exact AMJ
           have hkrB:∀ c u,RdB w St s.st β c u→RdB w St (Ai s.st l) β c u:=fun c u hc=>by
            exact ALE
           have hll:l<s.st.length:=(aF.1 hl).1
           have hkl:=Ie s.st l
           cases hβ:β l with
           | none =>
            simp only[hβ] at hx2
            obtain⟨hvx,hobx⟩:=hx2
            rw[hobx] at hle ⊢
            simp only[aO]
            by_cases hne:ys = []
            ·exact AJ4
            ·obtain⟨b,off,rfl,news,n1,n2,n3,n4⟩:=hnews hne
             have hpos:0<ys.length:=aa3.2 hne
             simp only[aW,sF] at hle
             have hr:=run_append_nil (P:=P) w T o.type e i z' ht hi hiz ⟨b,off,none⟩ ys.length capy news AOT n2 hpos AOQ APH
             rw[← hvx,← hvy] at hr
             have hge:=grownCap_ge w ys.length 0 e
             obtain⟨β',g1,g2⟩:=nJ k1 e n ys ob.wr news (Builtin.zeroCells z'.cells (grownCap w ys.length 0 e-ys.length)) (grownCap w ys.length 0 e) hyl n1 (fun k c hk=>by
              grind) hge (grownCap_le_maxLen w ys.length 0 e AO5) APu
             simp only[hkl] at g2
             exact AL0
           | some b0 =>
            simp only[hβ] at hx2
            obtain⟨cap,cs,hvx,c1,c2,c3,c4⟩:=hx2
            obtain⟨p1,p2,cs',p3,p4,p5⟩:=h.obs l ob b0 hl hlive hβ
            rw[c3] at p3
            simp only[ak,Obj.cells.injEq,xU] at p3
            subst p3
            have hfree:∀ l' o2,(Ai s.st l)[l']?=some o2→o2.live=true→β l'≠some b0:=fun l' o2 h2 hl2 hb2=>by
             exact AMV
            have hkeep:∀ o,St b0 o→ob.wr=false∧o<ob.xs.length*ob.sz:=fun o hbo=>h.sep l ob b0 o hl hlive hβ hbo
            have hxfl:ob.xs.flatten.length=ob.xs.length*n:=by rw[EK p4,hosz]
            have hlall:∀ r∈ob.xs++ys,r.length=n:=fun r hr=>by
             grind
            have hcap:cs.size=cap*n:=by rw[c4,hosz]
            by_cases hne:ys = []
            ·subst hne
             have hy0:([]:List (List Cl)).length=0:=rfl
             rw[hy0] at hvy
             have hrun:(Builtin.append_ #[T,T] o.type #[a.eval x,a.eval y]).run P w = .ok (.slice (some ⟨b0,0,none⟩) ob.xs.length cap) w:=by
              rw[hvx,hvy]; exact IC ht hs _ _ _ c1 ad capy w
             obtain⟨a1,a2,a3⟩:=k1.addObB ⟨e,n,ob.xs ++ [],ob.wr,true⟩ (some b0) AOR (fun b hb=>by
              grind) (VI h hl hlive hβ (ys:=[]) rfl (fun k c hk=>APA) (fun x hx=>⟨fun e2=>hx.2.2.2.2 l ob hl hlive (by rw[hβ,e2]),rfl⟩) (aT _) (fun _ _ _=>rfl) (fun _ _ _ _ _ _ _=>rfl) (fun _ _=>rfl))
             exact AL_
            ·obtain⟨b,off,rfl,news,n1,n2,n3,n4⟩:=hnews hne
             have hpos:0<ys.length:=aa3.2 hne
             have hFC:ob.xs.flatten.length≤cs.toList.length:=MN (R:=fun c u=>RdB w St s.st β c u) (fun k c hk=>AOT)
             have holdl:(cs.toList.take (ob.xs.length*n)).length=ob.xs.length*n:=by
              rw[bI,Zl AOQ]
             have hold:∀ (k:Nat) (c:Cl),ob.xs.flatten[k]?=some c→∃ u,(cs.toList.take (ob.xs.length*n))[k]?=some u∧RdB w St s.st β c u:=fun k c hk=>by
              grind
             have hboth:∀ (k:Nat) (c:Cl),(ob.xs++ys).flatten[k]?=some c→∃ u,(cs.toList.take (ob.xs.length*n)++news)[k]?=some u∧RdB w St (Ai s.st l) β c u:=fun k c hk=>by
              exact ALo
             by_cases hroom:ob.xs.length+ys.length≤cap
             ·
              have hcsl:cs.toList.length=cs.size:=AOR
              have hcapm:(ob.xs.length+ys.length)*n≤cap*n:=aaE _ hroom
              have hfit:ob.xs.length*i.size+news.length≤cs.size:=APn
              have hr:=run_append_room (P:=P) w T o.type e i ht hi b0 ob.xs.length cap cs AOT ⟨b,off,none⟩ ys.length capy news AOT n2 n4 hroom hfit
              rw[← hvx,← hvy,hsz] at hr
              rw[hsz] at hfit
              generalize hcs':(cs.toList.take (ob.xs.length*n)++news++cs.toList.drop (ob.xs.length*n+news.length)).toArray=C' at hr
              have hC's:C'.size=cs.size:=by
               exact ANs
              have hC'at:∀ k,k<ob.xs.length*n+news.length→C'[k]?=(cs.toList.take (ob.xs.length*n)++news)[k]?:=fun k hk=>by
               grind
              have hturn:=k1.turn (b:=b0) p1 (tC h hl hlive hβ) hfree c3 (cs':=C') (fun o hbo=>by
               grind) hC's
              have hcell:∀ b' o,St b' o→(w.setRow b0 C').cell? ⟨b',o,none⟩=w.cell? ⟨b',o,none⟩:=fun b' o hbo=>by
               exact AKW
              have hrr:∀ l' u,BM w (Ai s.st l) β l' u→BM (w.setRow b0 C') (Ai s.st l) β l' u:=by
               exact AMr
              obtain⟨a1,a2,a3⟩:=hturn.addObB ⟨e,n,ob.xs++ys,ob.wr,true⟩ (some b0) AOR (fun b' hb=>by
               simp only[ak] at hb
               subst hb
               refine⟨p1,APj,hfree,fun o hbo=>?_,C',by grind [setRow_heap],hlall,fun k c hk=>?_⟩
               ·grind
               ·obtain⟨u,u1,u2⟩:=hboth k c hk
                have hk':k<ob.xs.length*n+news.length:=by
                 exact ANT
                exact⟨u,AOT,RdB.mono (fun _ _ h=>h) hcell hrr _ _ u2⟩) (by
               refine VI h hl hlive hβ (ys:=ys) rfl hysno (fun x hx=>?_) APj hcell (fun l2 o2 b2 h1 h2 h3 h4=>?_) (fun k hk=>?_)
               ·exact AL1
               ·exact AM_
               ·have hk':k<ob.xs.length*n:=by rw[← hxfl]; exact hk
                rw[World.cell?,World.cell?,setRow_heap w b0 cs C' ob.ty (0,0) c3,c3]
                grind)
              refine⟨_,_,_,St,_,hexec _ _ hr,.inl rfl,a1, ?_⟩
              exact ALS
             ·
              have holds:∀ (j:Nat) (v:Value),(cs.toList.take (ob.xs.length*n))[j]?=some v→w.cell? ((⟨b0,0,none⟩:Addr).add j)=some v:=fun j v hj=>by
               exact AMQ
              have hr:=run_append_grow (P:=P) w T o.type e i z' ht hi hiz ⟨b0,0,none⟩ ob.xs.length cap (cs.toList.take (ob.xs.length*n)) AOT holds ⟨b,off,none⟩ ys.length capy news AOT n2 AOQ AOQ (by
               exact growslice_fits AOQ (by rw[hbs]; exact Ig hle hby (aT _)))
              rw[← hvx,← hvy] at hr
              have hge:=grownCap_ge w (ob.xs.length+ys.length) cap e
              obtain⟨β',g1,g2⟩:=VJ k1 e n (ob.xs++ys) ob.wr (cs.toList.take (ob.xs.length*n)++news) (Builtin.zeroCells z'.cells (grownCap w (ob.xs.length+ys.length) cap e-(ob.xs.length+ys.length))) (grownCap w (ob.xs.length+ys.length) cap e) hlall (by
               grind) hboth AOT (grownCap_le_maxLen w _ cap e AO5) (by rw[size_zeroCells,hzs]; simp) (by
               have hbd:=Fb w (.cells ((cs.toList.take (ob.xs.length*n)++news).toArray++Builtin.zeroCells z'.cells (grownCap w (ob.xs.length+ys.length) cap e-(ob.xs.length+ys.length))) e)
               refine VI h hl hlive hβ (ys:=ys) rfl hysno (fun x hx=>⟨fun e2=>APw,hbd.block x hx.2.2.1⟩) hbd.size (fun b o hbo=>cell_of_block (hbd.block b (h.stIn b o hbo))) (fun l2 o2 b2 h1 h2 h3 _=>hbd.block b2 (h.obs l2 o2 b2 h1 h2 h3).2.1) (fun k hk=>?_)
               have hk':k<ob.xs.length*n:=APz
               rw[World.cell?,World.cell?,Ew w _,c3]
               grind)
              exact ALX
          ·cases hy
         ·cases hy
        ·cases hy
       ·cases hy
     ·cases hy
    ·cases hy
   ·cases hy
  ·cases hy
 ·cases hy
theorem VK (h:Core w0 St0 St β s a w) {l l2:Nat} {ob ob2:Ob} (hob:s.st[l]?=some ob) (hlive:ob.live=true) (hob2:s.st[l2]?=some ob2) (hlive2:ob2.live=true) (hne:l≠l2) {w':World} {b':Nat} {ob':Ob} (hxs:ob'.xs=ob.xs++ob2.xs) (hlv':ob'.live=true)
  (hfree:∀ x,Ot w0 (fun _=>False) w St s.st β x→x≠b'∧w'.heap[x]?=w.heap[x]?) (hsize:w.heap.size≤w'.heap.size) (hcell:∀ b o,St b o→w'.cell? ⟨b,o,none⟩=w.cell? ⟨b,o,none⟩)
  (hoth:∀ (l3:Nat) (o3:Ob) (b3:Nat),s.st[l3]?=some o3→o3.live=true→β l3=some b3→l≠l3→w'.heap[b3]?=w.heap[b3]?)
  (hmv:∀ b0,β l=some b0→∀ k,k<ob.xs.flatten.length→w'.cell? ⟨b',k,none⟩=w.cell? ⟨b0,k,none⟩)
  (hmv2:∀ b2,β l2=some b2→∀ k,k<ob2.xs.flatten.length→w'.cell? ⟨b',ob.xs.flatten.length+k,none⟩=w.cell? ⟨b2,k,none⟩) :
  Own w0 (fun _=>False) w' St (Ai (Ai s.st l) l2 ++ [ob']) (fun i=>if i=s.st.length then some b' else β i):=by
 obtain⟨φ,f1,f2,f3⟩:=h.own
 have hkl:(Ai (Ai s.st l) l2).length=s.st.length:=by rw[Ie,Ie]
 have hget:∀ (i:Nat) (o:Ob),(Ai (Ai s.st l) l2 ++ [ob'])[i]?=some o→o.live=true→(i=s.st.length∧o=ob')∨(i<s.st.length∧i≠l∧i≠l2∧s.st[i]?=some o):=by
  intro i o hi hlv
  rcases bV i s.st.length with h' | h'
  ·grind [bH,H5]
  ·grind
 have hN:∃ o,(Ai (Ai s.st l) l2 ++ [ob'])[s.st.length]?=some o∧o.live=true:=by
  refine⟨ob', ?_,hlv'⟩
  rw[bn AOQ,hkl]
  simp
 refine⟨fun i k x=>(i=s.st.length∧((k<ob.xs.flatten.length∧φ l k x)∨(ob.xs.flatten.length≤k∧φ l2 (k-ob.xs.flatten.length) x)))∨(i<s.st.length∧i≠l∧i≠l2∧φ i k x), ?_, ?_, ?_⟩
 ·intro i o b k c hi hlv hβ hk hc
  rcases hget i o hi hlv with ⟨rfl,rfl⟩ | ⟨h1,h2,h3,h4⟩
  ·simp only[bf,ak] at hβ
   subst hβ
   rw[hxs,aaM] at hk
   rcases bV k ob.xs.flatten.length with h' | h'
   ·rw[bH h'] at hk
    cases hβl:β l with
    | none=>rw[h.nil l ob hob hlive hβl] at h'; simp at h'
    | some b0 =>
     obtain⟨u,hu,hr⟩:=f1 l ob b0 k c hob hlive hβl hk hc
     exact⟨u,AOT,RdO.mono (fun _ _ h=>h) hcell c u _ _ (fun x hx=>.inl ⟨rfl,.inl ⟨h',hx⟩⟩) (fun x hx=>(hfree x (f2 _ _ _ hx).2).2) hr⟩
   ·rw[bn h'] at hk
    have hk2:k-ob.xs.flatten.length<ob2.xs.flatten.length:=(aF.1 hk).1
    cases hβl:β l2 with
    | none=>rw[h.nil l2 ob2 hob2 hlive2 hβl] at hk2; simp at hk2
    | some b2 =>
     obtain⟨u,hu,hr⟩:=f1 l2 ob2 b2 _ c hob2 hlive2 hβl hk hc
     refine⟨u, ?_,RdO.mono (fun _ _ h=>h) hcell c u _ _ (fun x hx=>.inl ⟨rfl,.inr ⟨h',hx⟩⟩) (fun x hx=>(hfree x (f2 _ _ _ hx).2).2) hr⟩
     have:=hmv2 b2 hβl _ hk2
     simp_all
  ·have hne':¬ i=s.st.length:=by omega
   simp only[hne',aX] at hβ
   obtain⟨u,hu,hr⟩:=f1 i o b k c h4 hlv hβ hk hc
   exact⟨u,by grind [cell_of_block],RdO.mono (fun _ _ h=>h) hcell c u _ _ (fun x hx=>.inr ⟨h1,h2,h3,hx⟩) (fun x hx=>(hfree x (f2 _ _ _ hx).2).2) hr⟩
 ·have free:∀ x,Ot w0 (fun _=>False) w St s.st β x→Ot w0 (fun _=>False) w' St (Ai (Ai s.st l) l2 ++ [ob']) (fun i=>if i=s.st.length then some b' else β i) x:=by
   intro x hx
   refine⟨hx.1,fun h=>h,cO hx.2.2.1 hsize,hx.2.2.2.1,fun i o hi hlv=>?_⟩
   rcases hget i o hi hlv with ⟨rfl,rfl⟩ | ⟨h1,h2,h3,h4⟩
   ·grind
   ·have hne':¬ i=s.st.length:=by omega
    simp only[hne',aX]
    exact hx.2.2.2.2 i o h4 hlv
  rintro i k x (⟨rfl,hx⟩ | ⟨h1,h2,h3,hx⟩)
  ·grind
  ·obtain⟨⟨o,b,p1,p2,p3⟩,p4⟩:=f2 i k x hx
   refine⟨⟨o,b, ?_,p2, ?_⟩,free x p4⟩
   ·rw[bH AOQ]
    rw[Nw (Nw p1)]
    grind
   grind
 grind
theorem Qm {st:List Ob} {l l2 l':Nat} {o2:Ob} (h2:(Ai (Ai st l) l2)[l']?=some o2) (hl:o2.live=true):st[l']?=some o2∧l≠l'∧l2≠l':=by
 grind [H5]
theorem ABU (h:Core w0 St0 St β s a w) {l:Nat} (l2:Nat) {ob:Ob} {b0:Nat} (hob:s.st[l]?=some ob) (hlive:ob.live=true) (hβ:β l=some b0):Own w0 (fun x=>x=b0) w St (Ai (Ai s.st l) l2) β:=
 h.own.move id (fun x hx=>⟨⟨hx.1,fun e=>hx.2.2.2.2 l ob hob hlive (by rw[hβ,e]),hx.2.2.1,hx.2.2.2.1,fun l' o2 hl' hlv=>hx.2.2.2.2 l' o2 (Qm hl' hlv).1 hlv⟩,rfl⟩) (fun _ _ h=>h) (fun _ _ _=>rfl)
  (fun l' o2 b k c h1 h2 h3 h4 _=>⟨o2,b,(Qm h1 h2).1,h2,h3,h4,rfl⟩) (fun _ _ _ _ _ _ _ _ e=>e)
def ADM (P:Program) (s:MS) (T:TypeId) (x y:AV):Option (AV×List Ob):=match D_ P T with
 | some e=>match Ac P e,Tt P e,EQ P e with
  | some n,some zs,some by'=>if zs.length=n∧0<n∧by'≤65536 then match x,y with
    | .c (.ref l),.c (.ref l2)=>match Cf s.st l,Cf s.st l2 with
     | some ob,some ob2=>if l≠l2∧ob.ty=e∧ob.sz=n∧ob2.sz=n∧(ob.xs.length+ob2.xs.length≤2147483648∨(ob.xs.length+ob2.xs.length≤1099511627776∧by'≤128)) then some (.c (.ref s.st.length),Ai (Ai s.st l) l2 ++ [⟨e,n,ob.xs++ob2.xs,ob.wr,true⟩]) else none
     | _,_=>none
    | _,_=>none
   else none
  | _,_,_=>none
 | none=>none
theorem AFB (h:Core w0 St0 St β s a w) (o:Oper) (T:TypeId) (c:Call) (x y:Operand) (ho:o.op = .call c) (hcl:c.callee = .builtin .append) (hca:c.args.toList = [x,y]) (hct:c.argTypes.toList = [T,T]) (hc:Ak x=true) (hc2:Ak y=true)
  {z:AV} {st':List Ob} (hy:ADM P s T (Ei s x) (Ei s y)=some (z,st')):Does P a w w0 St0 s o z st':=by
 have hx:=CO h x hc
 have hyy:=CO h y hc2
 have ha1:c.argTypes = #[T,T]:=AOp
 have ha2:c.args = #[x,y]:=AOq
 have hexec:∀ v w',(Builtin.append_ #[T,T] o.type #[a.eval x,a.eval y]).run P w = .ok v w'→(execOp a.eval o).run P w = .ok (.value v) w':=by
  exact ALF
 unfold ADM at hy
 split at hy
 ·rename_i e hte
  have ht:=Ja hte
  split at hy
  ·rename_i n cs0 by' hs hz0 hb
   obtain⟨zs,hz,_,rfl⟩:=OL hz0
   split at hy
   ·rename_i hcond
    obtain⟨hzl0,hn,hby⟩:=hcond
    have hzl:zs.length=n:=APb
    split at hy
    ·rename_i l l2 hevx hevy
     split at hy
     ·rename_i ob ob2 hob hob2
      split at hy
      ·rename_i hoc
       obtain⟨hll2,hty,hosz,hosz2,hle⟩:=hoc
       simp only[ak,bK] at hy
       obtain⟨rfl,rfl⟩:=hy
       obtain⟨hl,hlive⟩:=Bo hob
       obtain⟨hl2,hlive2⟩:=Bo hob2
       generalize hys:ob2.xs=ys at *
       have hyl:∀ r∈ys,r.length=n:=by
        cases hβ2:β l2 with
        | none =>
         have:=h.nil l2 ob2 hl2 hlive2 hβ2
         grind
        | some b2 =>
         obtain⟨_,_,_,_,p4,_⟩:=h.obs l2 ob2 b2 hl2 hlive2 hβ2
         grind
       rw[hevy] at hyy
       simp only[AVR] at hyy
       have hd:TL s.st (.ref l2)=some ys:=by simp[TL,hob2,hys]
       obtain⟨ad,capy,hvy,_,hcells⟩:=Tu h hyy hd
       have had:∀ b2,β l2=some b2→ad=some ⟨b2,0,none⟩:=fun b2 hb2=>by
        have:=hyy
        simp only[RdC,BM,hl2] at this
        grind
       rw[hevx] at hx
       have hyfl:ys.flatten.length=ys.length*n:=EK hyl
       have htab:∃ i z',P.info? e=some i∧i.zero=some z'∧i.size=n∧i.bytes=by'∧z'.cells.size=n:=by
        exact AIH
       obtain⟨i,z',hi,hiz,hsz,hbs,hzs⟩:=htab
       have hnews:ys≠ []→∃ b off,ad=some ⟨b,off,none⟩∧∃ news:List Value,news.length=ys.length*n∧(∀ (k:Nat) (v:Value),news[k]?=some v→w.cell? ((⟨b,off,none⟩:Addr).add k)=some v) ∧
         (∀ (k:Nat) (c:Cl),ys.flatten[k]?=some c→∃ u,news[k]?=some u∧RdB w St s.st β c u)∧(∀ u∈news,u.oneCell'=true):=by
        intro hne
        rcases hcells with h0 | ⟨b,off,rfl,hcell⟩
        ·grind
        ·obtain⟨news,n1,n2⟩:=Jn (R:=fun c u=>RdB w St s.st β c u) (w:=w) (b:=b) ys.flatten off (fun k c hk=>by
          grind)
         have hat:∀ (k:Nat) (v:Value),news[k]?=some v→∃ c,ys.flatten[k]?=some c∧w.cell? ⟨b,off+k,none⟩=some v∧RdB w St s.st β c v:=fun k v hk=>by
          exact AM1
         grind [addr_add,abb,RdB.one]
       simp only[AVR,RdC,BM,hl] at hx
       have hx2:=hx.2 hlive
       obtain⟨k1a,k2a⟩:=h.kill l
       obtain⟨k1,k2b⟩:=k1a.kill l2
       have k2:∀ x u,AVR w St s.st β x u→AVR w St (Ai (Ai s.st l) l2) β x u:=fun x u hx=>k2b x u (k2a x u hx)
       have hkr:∀ c u,RdC w St s.st β c u→RdC w St (Ai (Ai s.st l) l2) β c u:=fun c u hc=>by
        exact AMJ
       have hkrB:∀ c u,RdB w St s.st β c u→RdB w St (Ai (Ai s.st l) l2) β c u:=fun c u hc=>by
        exact ALE
       have hll:l<s.st.length:=(aF.1 hl).1
       have hkl:(Ai (Ai s.st l) l2).length=s.st.length:=by rw[Ie,Ie]
       cases hβ:β l with
       | none =>
        simp only[hβ] at hx2
        obtain⟨hvx,hobx⟩:=hx2
        rw[hobx] at hle ⊢
        simp only[aO]
        by_cases hne:ys = []
        ·exact AJ4
        ·obtain⟨b,off,rfl,news,n1,n2,n3,n4⟩:=hnews hne
         have hpos:0<ys.length:=aa3.2 hne
         simp only[aW,sF] at hle
         have hr:=run_append_nil (P:=P) w T o.type e i z' ht hi hiz ⟨b,off,none⟩ ys.length capy news AOT n2 hpos AOQ APH
         rw[← hvx,← hvy] at hr
         have hge:=grownCap_ge w ys.length 0 e
         obtain⟨β',g1,g2⟩:=VJ k1 e n ys ob.wr news (Builtin.zeroCells z'.cells (grownCap w ys.length 0 e-ys.length)) (grownCap w ys.length 0 e) hyl n1 (fun k c hk=>by
          grind) hge (grownCap_le_maxLen w ys.length 0 e AO5) APu (by
           have hbd:=Fb w (.cells (news.toArray++Builtin.zeroCells z'.cells (grownCap w ys.length 0 e-ys.length)) e)
           rw[hkl]
           refine VK h hl hlive hl2 hlive2 hll2 AOT rfl (fun x hx=>⟨fun e2=>APw,hbd.block x hx.2.2.1⟩) hbd.size (fun b o hbo=>cell_of_block (hbd.block b (h.stIn b o hbo))) (fun l3 o3 b3 h1 h2 h3 _=>hbd.block b3 (h.obs l3 o3 b3 h1 h2 h3).2.1) (fun b1 e1 k hk=>AOT) (fun b2 e1 k hk=>?_)
           have:=had b2 e1
           simp only[ak,Addr.mk.injEq,xU] at this
           obtain⟨rfl,rfl⟩:=this
           rw[hys,hyfl] at hk
           have hk2:k<news.length:=AOQ
           have:=n2 k _ (au hk2)
           rw[addr_add,sF] at this
           rw[this,World.cell?,Ew w _,hobx]
           grind)
         simp only[hkl] at g2
         exact AL0
       | some b0 =>
        simp only[hβ] at hx2
        obtain⟨cap,cs,hvx,c1,c2,c3,c4⟩:=hx2
        obtain⟨p1,p2,cs',p3,p4,p5⟩:=h.obs l ob b0 hl hlive hβ
        rw[c3] at p3
        simp only[ak,Obj.cells.injEq,xU] at p3
        subst p3
        have hfree:∀ l' o2,(Ai (Ai s.st l) l2)[l']?=some o2→o2.live=true→β l'≠some b0:=fun l' o2 h2 hl2 hb2=>by
         obtain⟨r1,r2,_⟩:=Qm h2 hl2
         exact r2 (h.inj l l' ob o2 b0 hl r1 hlive hl2 hβ hb2)
        have hkeep:∀ o,St b0 o→ob.wr=false∧o<ob.xs.length*ob.sz:=fun o hbo=>h.sep l ob b0 o hl hlive hβ hbo
        have hxfl:ob.xs.flatten.length=ob.xs.length*n:=by rw[EK p4,hosz]
        have hlall:∀ r∈ob.xs++ys,r.length=n:=fun r hr=>by
         grind
        have hcap:cs.size=cap*n:=by rw[c4,hosz]
        by_cases hne:ys = []
        ·subst hne
         have hy0:([]:List (List Cl)).length=0:=rfl
         rw[hy0] at hvy
         have hrun:(Builtin.append_ #[T,T] o.type #[a.eval x,a.eval y]).run P w = .ok (.slice (some ⟨b0,0,none⟩) ob.xs.length cap) w:=by
          rw[hvx,hvy]; exact IC ht hs _ _ _ c1 ad capy w
         obtain⟨a1,a2,a3⟩:=k1.addObB ⟨e,n,ob.xs ++ [],ob.wr,true⟩ (some b0) AOR (fun b hb=>by
          grind) (by
          rw[hkl]
          exact VK h hl hlive hl2 hlive2 hll2 (by rw[hys]) rfl (fun x hx=>⟨fun e2=>hx.2.2.2.2 l ob hl hlive (by rw[hβ,e2]),rfl⟩) (aT _) (fun _ _ _=>rfl) (fun _ _ _ _ _ _ _=>rfl) (fun b1 e1 _ _=>AOT) (fun _ _ k hk=>AOT))
         exact AL_
        ·obtain⟨b,off,rfl,news,n1,n2,n3,n4⟩:=hnews hne
         have hpos:0<ys.length:=aa3.2 hne
         have hFC:ob.xs.flatten.length≤cs.toList.length:=MN (R:=fun c u=>RdB w St s.st β c u) (fun k c hk=>AOT)
         have holdl:(cs.toList.take (ob.xs.length*n)).length=ob.xs.length*n:=by
          rw[bI,Zl AOQ]
         have hold:∀ (k:Nat) (c:Cl),ob.xs.flatten[k]?=some c→∃ u,(cs.toList.take (ob.xs.length*n))[k]?=some u∧RdB w St s.st β c u:=fun k c hk=>by
          grind
         have hboth:∀ (k:Nat) (c:Cl),(ob.xs++ys).flatten[k]?=some c→∃ u,(cs.toList.take (ob.xs.length*n)++news)[k]?=some u∧RdB w St (Ai (Ai s.st l) l2) β c u:=fun k c hk=>by
          grind
         by_cases hroom:ob.xs.length+ys.length≤cap
         ·
          have hcsl:cs.toList.length=cs.size:=AOR
          have hcapm:(ob.xs.length+ys.length)*n≤cap*n:=aaE _ hroom
          have hfit:ob.xs.length*i.size+news.length≤cs.size:=APn
          have hr:=run_append_room (P:=P) w T o.type e i ht hi b0 ob.xs.length cap cs AOT ⟨b,off,none⟩ ys.length capy news AOT n2 n4 hroom hfit
          rw[← hvx,← hvy,hsz] at hr
          rw[hsz] at hfit
          generalize hcs':(cs.toList.take (ob.xs.length*n)++news++cs.toList.drop (ob.xs.length*n+news.length)).toArray=C' at hr
          have hC's:C'.size=cs.size:=by
           exact ANs
          have hC'at:∀ k,k<ob.xs.length*n+news.length→C'[k]?=(cs.toList.take (ob.xs.length*n)++news)[k]?:=fun k hk=>by
           grind
          have hturn:=k1.turn (b:=b0) p1 (ABU h l2 hl hlive hβ) hfree c3 (cs':=C') (fun o hbo=>by
           grind) hC's
          have hcell:∀ b' o,St b' o→(w.setRow b0 C').cell? ⟨b',o,none⟩=w.cell? ⟨b',o,none⟩:=fun b' o hbo=>by
           exact AKW
          have hrr:∀ l' u,BM w (Ai (Ai s.st l) l2) β l' u→BM (w.setRow b0 C') (Ai (Ai s.st l) l2) β l' u:=by
           intro l' u hu
           unfold BM at hu ⊢
           cases hq:(Ai (Ai s.st l) l2)[l']? with
           | none=>grind
           | some o2 =>
            grind [setRow_other]
          obtain⟨a1,a2,a3⟩:=hturn.addObB ⟨e,n,ob.xs++ys,ob.wr,true⟩ (some b0) AOR (fun b' hb=>by
           simp only[ak] at hb
           subst hb
           refine⟨p1,APj,hfree,fun o hbo=>?_,C',by grind [setRow_heap],hlall,fun k c hk=>?_⟩
           ·grind
           ·obtain⟨u,u1,u2⟩:=hboth k c hk
            have hk':k<ob.xs.length*n+news.length:=by
             exact ANT
            exact⟨u,AOT,RdB.mono (fun _ _ h=>h) hcell hrr _ _ u2⟩) (by
           rw[hkl]
           refine VK h hl hlive hl2 hlive2 hll2 (by rw[hys]) rfl (fun x hx=>?_) APj hcell (fun l3 o3 b3 h1 h2 h3 h4=>?_) (fun b1 e1 k hk=>?_) (fun b2 e1 k hk=>?_)
           ·exact AL1
           ·exact setRow_other w b0 b3 C' fun e2=>h4 (h.inj l l3 ob o3 b0 hl h1 hlive h2 hβ (by rw[h3,e2]))
           ·rw[hβ] at e1
            have:=ry e1
            subst this
            have hk':k<ob.xs.length*n:=APz
            rw[World.cell?,World.cell?,setRow_heap w b0 cs C' ob.ty (0,0) c3,c3]
            grind
           ·have:=had b2 e1
            simp only[ak,Addr.mk.injEq,xU] at this
            obtain⟨rfl,rfl⟩:=this
            rw[hys,hyfl] at hk
            have hk2:k<news.length:=AOQ
            have:=n2 k _ (au hk2)
            rw[addr_add,sF] at this
            rw[this,World.cell?,setRow_heap w b0 cs C' ob.ty (0,0) c3]
            simp_all)
          refine⟨_,_,_,St,_,hexec _ _ hr,.inl rfl,a1, ?_⟩
          exact ALS
         ·
          have holds:∀ (j:Nat) (v:Value),(cs.toList.take (ob.xs.length*n))[j]?=some v→w.cell? ((⟨b0,0,none⟩:Addr).add j)=some v:=fun j v hj=>by
           exact AMQ
          have hr:=run_append_grow (P:=P) w T o.type e i z' ht hi hiz ⟨b0,0,none⟩ ob.xs.length cap (cs.toList.take (ob.xs.length*n)) AOT holds ⟨b,off,none⟩ ys.length capy news AOT n2 AOQ AOQ (by
           exact growslice_fits AOQ (by rw[hbs]; exact Ig hle hby (aT _)))
          rw[← hvx,← hvy] at hr
          have hge:=grownCap_ge w (ob.xs.length+ys.length) cap e
          obtain⟨β',g1,g2⟩:=VJ k1 e n (ob.xs++ys) ob.wr (cs.toList.take (ob.xs.length*n)++news) (Builtin.zeroCells z'.cells (grownCap w (ob.xs.length+ys.length) cap e-(ob.xs.length+ys.length))) (grownCap w (ob.xs.length+ys.length) cap e) hlall (by
           grind) hboth AOT (grownCap_le_maxLen w _ cap e AO5) (by rw[size_zeroCells,hzs]; simp) (by
           have hbd:=Fb w (.cells ((cs.toList.take (ob.xs.length*n)++news).toArray++Builtin.zeroCells z'.cells (grownCap w (ob.xs.length+ys.length) cap e-(ob.xs.length+ys.length))) e)
           rw[hkl]
           refine VK h hl hlive hl2 hlive2 hll2 (by rw[hys]) rfl (fun x hx=>⟨fun e2=>APw,hbd.block x hx.2.2.1⟩) hbd.size (fun b o hbo=>cell_of_block (hbd.block b (h.stIn b o hbo))) (fun l3 o3 b3 h1 h2 h3 _=>hbd.block b3 (h.obs l3 o3 b3 h1 h2 h3).2.1) (fun b1 e1 k hk=>?_) (fun b2 e1 k hk=>?_)
           ·rw[hβ] at e1
            have:=ry e1
            subst this
            have hk':k<ob.xs.length*n:=APz
            rw[World.cell?,World.cell?,Ew w _,c3]
            grind
           ·have:=had b2 e1
            simp only[ak,Addr.mk.injEq,xU] at this
            obtain⟨rfl,rfl⟩:=this
            rw[hys,hyfl] at hk
            have hk2:k<news.length:=AOQ
            have:=n2 k _ (au hk2)
            rw[addr_add,sF] at this
            rw[this,World.cell?,Ew w _]
            grind)
          exact ALX
      ·cases hy
     ·cases hy
    ·cases hy
   ·cases hy
  ·cases hy
 ·cases hy
def AI9 (zs:List Cl):Bool:=zs.any fun c=>match c with | .v (.slice _ _ _)=>true | _=>false
def ADN (P:Program) (s:MS) (T:TypeId) (x y:AV):Option (AV×List Ob):=match x,y with
 | .c (.ref l),.c (.ref l2)=>match D_ P T with
  | some e=>match Tt P e with
   | some zs=>if AI9 zs=true then match Cf s.st l2 with
     | some ob2=>if BJ ob2.xs=true then ADM P s T (.c (.ref l)) (.c (.ref l2)) else xh P s T (.c (.ref l)) (.c (.ref l2))
     | none=>none
    else xh P s T (.c (.ref l)) (.c (.ref l2))
   | none=>none
  | none=>none
 | x,y=>xh P s T x y
theorem AFC (h:Core w0 St0 St β s a w) (o:Oper) (T:TypeId) (c:Call) (x y:Operand) (ho:o.op = .call c) (hcl:c.callee = .builtin .append) (hca:c.args.toList = [x,y]) (hct:c.argTypes.toList = [T,T]) (hc:Ak x=true) (hc2:Ak y=true)
  {z:AV} {st':List Ob} (hy:ADN P s T (Ei s x) (Ei s y)=some (z,st')):Does P a w w0 St0 s o z st':=by
 unfold ADN at hy
 grind [AFB,AHG]
end Go.Vm
