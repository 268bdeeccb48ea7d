/- A part. -/
import Derived.Test.YtnchiiikacemmaaGreatVmH
import Derived.Laws.MakeOwn
set_option linter.unusedSimpArgs false
set_option linter.unusedVariables false
namespace Go.Vm
open Go.RowKit
variable {P:Program} {w0:Bs} {St0 St:Nat→Nat→Prop} {β:Nat→Option Nat} {s:MS} {a:Act} {w:World}
theorem PI {xs:List (List Cl)} {sz i off n:Nat} {row cs:List Cl} (hl:∀ x∈xs,x.length=sz) (hi:xs[i]?=some row) (hle:off+n≤row.length) :
  (xs.set i (row.take off++(cs++row.drop (off+n)))).flatten=xs.flatten.take (i*sz+off)++(cs++xs.flatten.drop (i*sz+(off+n))):=by
 have hil:i<xs.length:=(ay.1 hi).1
 have hx:xs=xs.take i++row::xs.drop (i+1):=by
  have:row=xs[i]:=by rw[aA hil] at hi; exact(XK hi).symm
  rw[this,← aC hil,List.take_append_drop]
 have hA:(xs.take i).flatten.length=i*sz:=by
  rw[EE (sz:=sz) (fun x hx=>hl x (zD hx)),bn,Zt (by omega)]
 have hF:xs.flatten=(xs.take i).flatten++(row++(xs.drop (i+1)).flatten):=by
  conv=>lhs; rw[hx]
  simp
 rw[List.set_eq_take_append_cons_drop,aX hil]
 simp only[zF,bM,bJ]
 have ht:xs.flatten.take (i*sz+off)=(xs.take i).flatten++row.take off:=by
  rw[hF,← hA,List.take_length_add_append,List.take_append_of_le_length (by omega)]
 have hd:xs.flatten.drop (i*sz+(off+n))=row.drop (off+n)++(xs.drop (i+1)).flatten:=by
  rw[hF,← hA,List.drop_length_add_append,List.drop_append_of_le_length (by omega)]
 rw[ht,hd]
 simp
theorem V6 {R:Cl→Value→Prop} {F cs:List Cl} {C vs:List Value} {p n:Nat} (hC:∀ (k:Nat) (c:Cl),F[k]?=some c→∃ u,C[k]?=some u∧R c u) (hp:p+n≤F.length) (hcl:cs.length=n) (hvl:vs.length=n)
  (hcs:∀ (k:Nat) (c:Cl),cs[k]?=some c→∃ u,vs[k]?=some u∧R c u) (hFC:F.length≤C.length) :
  ∀ (k:Nat) (c:Cl),(F.take p++(cs++F.drop (p+n)))[k]?=some c→∃ u,(C.take p++(vs++C.drop (p+n)))[k]?=some u∧R c u:=by
 intro k c hk
 have l1:(F.take p).length=p:=by simp; omega
 have l2:(C.take p).length=p:=by simp; omega
 rcases bf k p with h1 | h1
 ·rw[au (by omega),bu,aX h1] at hk
  obtain⟨u,hu,hr⟩:=hC k c hk
  exact⟨u,by rw[au (by omega),bu,aX h1]; exact hu,hr⟩
 ·rw[aF (by omega),l1] at hk
  rw[aF (by omega),l2]
  rcases bf (k-p) n with h2 | h2
  ·rw[au (by omega)] at hk ⊢
   exact hcs _ c hk
  ·rw[aF (by omega),rU,hcl] at hk
   rw[aF (by omega),rU,hvl]
   have:=hC _ c hk
   exact this
theorem ABG {F cs:List Cl} {C vs:List Value} {p n:Nat} (hp:p+n≤F.length) (hcl:cs.length=n) (hvl:vs.length=n) (hFC:F.length≤C.length) (hno:∀ (k:Nat) (c:Cl),cs[k]?=some c→Fb c=false) :
  ∀ (k:Nat) (c:Cl),(F.take p++(cs++F.drop (p+n)))[k]?=some c→Fb c=true→F[k]?=some c∧(C.take p++(vs++C.drop (p+n)))[k]?=C[k]?:=by
 intro k c hk hc
 have l1:(F.take p).length=p:=by simp; omega
 have l2:(C.take p).length=p:=by simp; omega
 rcases bf k p with h1 | h1
 ·rw[au (by omega),bu,aX h1] at hk
  exact⟨hk,by rw[au (by omega),bu,aX h1]⟩
 ·rw[aF (by omega),l1] at hk
  rw[aF (by omega),l2]
  rcases bf (k-p) n with h2 | h2
  ·rw[au (by omega)] at hk
   rw[hno _ c hk] at hc
   cases hc
  ·rw[aF (by omega),rU,hcl] at hk
   rw[aF (by omega),rU,hvl]
   have e:p+n+(k-p-n)=k:=by omega
   rw[e] at hk ⊢
   exact⟨hk,rfl⟩
theorem KQ {R:Cl→Value→Prop} {F:List Cl} {C:List Value} (hC:∀ (k:Nat) (c:Cl),F[k]?=some c→∃ u,C[k]?=some u∧R c u):F.length≤C.length:=by
 rcases bf C.length F.length with h | h
 ·obtain⟨u,hu,_⟩:=hC C.length _ (aA h)
  simp at hu
 ·exact h
theorem ABH (h:Core w0 St0 St β s a w) (o:Oper) (T:TypeId) (p x:Operand) (ho:o.op = .store T p x) (hc:A7 p=true) (hc2:A7 x=true) {y:AV} {st':List Ob} (hy:YG P s T (EU s p) (EU s x)=some (y,st')):Does P a w w0 St0 s o y st':=by
 have hp:=CG h p hc
 have hx:=CG h x hc2
 unfold YG at hy
 split at hy
 ·rename_i n l i off cs hs hev hcs
  split at hy
  ·rename_i ob hob
   split at hy
   ·rename_i hwl
    obtain⟨hwr,hcl⟩:=hwl
    split at hy
    ·rename_i row hrow
     split at hy
     ·rename_i hle
      simp only[ah,bQ] at hy
      obtain⟨rfl,rfl⟩:=hy
      rw[hev] at hp
      obtain⟨b,C,hb,hu,g1,g2,g3⟩:=xC h hp hob
      obtain⟨q1,q2⟩:=QL hx hcs
      have hrl:row.length=ob.sz:=g2 row (aZ hrow)
      have hil:i<ob.xs.length:=(ay.1 hrow).1
      have hFl:ob.xs.flatten.length=ob.xs.length*ob.sz:=EE g2
      have g3':∀ (k:Nat) (c:Cl),ob.xs.flatten[k]?=some c→∃ u,C.toList[k]?=some u∧RdB w St s.st β c u:=fun k c hk=>by simpa using g3 k c hk
      have hFC:=KQ g3'
      have hpos:i*ob.sz+(off+n)≤ob.xs.flatten.length:=by
       rw[hFl]
       have:(i+1)*ob.sz≤ob.xs.length*ob.sz:=aaA _ hil
       rw[Qj] at this; omega
      have hvl:(a.eval x).cells.toList.length=n:=by rw[q1,hcl]
      have h1:∀ v∈(a.eval x).cells.toList,v.oneCell'=true:=fun v hv=>by
       obtain⟨k,hk1,hk2⟩:=aaG hv
       have hkc:k<cs.length:=by rw[← q1]; exact hk1
       obtain⟨u,hu1,hu2⟩:=q2 k _ (aA hkc)
       rw[aA hk1] at hu1
       simp only[ah] at hu1
       rw[← hk2,hu1]; exact hu2.one
      have hrun:=run_storeCells_at P b (i*ob.sz+off) ob.ty (a.eval x).cells.toList 0 C w g1 (by
       have:C.toList.length=C.size:=by simp
       omega) h1
      simp only[abE,hvl] at hrun
      have hasz:(a.eval x).cells.size=n:=by simpa using hvl
      refine⟨.skip,Go.undef,_,St,β, ?_,.inr ⟨rfl,rfl⟩,h.write hob hwr hb (ob.xs.set i (row.take off++(cs++row.drop (off+n)))) (by simp) ?_ g1 (cs':=(C.toList.take (i*ob.sz+off)++(a.eval x).cells.toList++C.toList.drop (i*ob.sz+off+n)).toArray) ?_ ?_ ?_, ?_⟩
      ·simp[execOp,ho,hu,Instr.storeAt,Instr.sureAddr,storeVar,Ha hs,hasz,hrun]
      ·intro z hz
       rcases aaF hz with h2 | h2
       ·exact g2 z h2
       ·subst h2; simp; omega
      ·have:C.toList.length=C.size:=by simp
       simp
       omega
      ·intro k c hk
       rw[PI g2 hrow hle] at hk
       have:=V6 g3' (p:=i*ob.sz+off) (n:=n) (by omega) hcl hvl (fun k c hk=>by obtain⟨u,hu1,hu2⟩:=q2 k c hk; exact⟨u,hu1,hu2.toB⟩) hFC k c (by rwa [abv])
       obtain⟨u,hu1,hu2⟩:=this
       exact⟨u,by simpa using hu1,hu2⟩
      ·intro k c hk how
       rw[PI g2 hrow hle] at hk
       have:=ABG (C:=C.toList) (vs:=(a.eval x).cells.toList) (p:=i*ob.sz+off) (n:=n) (by omega) hcl hvl hFC (fun k c hk=>by obtain⟨u,_,hu2⟩:=q2 k c hk; exact hu2.notOw) k c (by rwa [abv]) how
       refine⟨this.1, ?_⟩
       have h2:=this.2
       simp only[wo,bJ]
       rw[h2]
       simp
      ·simp only[AVR]
     ·cases hy
    ·cases hy
   ·cases hy
  ·cases hy
 ·cases hy
def EI (P:Program) (t:TypeId):Option Nat:=(P.info? t).map (·.bytes)
def oQ (P:Program) (s:MS) (T:TypeId) (l c:AV):Option (AV×List Ob):=match Dh P T with
 | some e=>match AX P e,TJ P e,EI P e with
  | some n,some cs,some by'=>match l,c with
   | .c (.v (.int .i64 nl)),.c (.v (.int .i64 nc))=>if cs.length=n∧0<n∧by'≤65536∧0≤nl∧nl≤nc∧nc≤2147483648
    then some (.c (.ref s.st.length),s.st ++ [⟨e,n,List.replicate nl.toNat cs,true,true⟩]) else none
   | _,_=>none
  | _,_,_=>none
 | none=>none
theorem jK (zs:Array Value) (n k:Nat) (hk:k<n) (hz:0<zs.size):(madeCells zs n)[k]?=zs[k%zs.size]?:=by
 have hm:k%zs.size<zs.size:=Nat.mod_lt _ hz
 simp[madeCells,hk,hm]
theorem PK {z:List Cl} {n:Nat} {k:Nat} {c:Cl} (hz:0<z.length) (h:(List.replicate n z).flatten[k]?=some c):z[k%z.length]?=some c∧k<n*z.length:=by
 have hl:∀ x∈List.replicate n z,x.length=z.length:=fun x hx=>by rw[abu hx]
 have hlen:=EE hl
 have hk:k<n*z.length:=by
  rcases bf k (n*z.length) with h' | h'
  ·exact h'
  ·rw[bF (by rw[hlen]; simpa using h')] at h; cases h
 refine⟨?_,hk⟩
 have hi:k/z.length<n:=Nat.div_lt_of_lt_mul (by rwa [abI])
 have hj:k%z.length<z.length:=Nat.mod_lt _ hz
 have:=GX hl (k/z.length) (k%z.length) z _ (by simp[hi]) (aA hj)
 rw[show k/z.length*z.length+k%z.length=k by rw[abI]; exact Nat.div_add_mod k z.length] at this
 rw[this] at h
 rw[aA hj]; exact h
theorem ACz (h:Core w0 St0 St β s a w) (o:Oper) (T:TypeId) (l c:Operand) (ho:o.op = .makeSlice T l c) (hc:A7 l=true) (hc2:A7 c=true) {y:AV} {st':List Ob} (hy:oQ P s T (EU s l) (EU s c)=some (y,st')):Does P a w w0 St0 s o y st':=by
 have hl:=CG h l hc
 have hcc:=CG h c hc2
 unfold oQ at hy
 split at hy
 ·rename_i e hte
  have ht:=Kq hte
  split at hy
  ·rename_i n cs0 by' hs hz0 hb
   obtain⟨zs,hz,hwf,rfl⟩:=PG hz0
   split at hy
   ·rename_i nl nc hev1 hev2
    split at hy
    ·rename_i hcond
     obtain⟨hzl0,hn,hby,h0,h1,h2⟩:=hcond
     have hzl:zs.length=n:=by simpa using hzl0
     simp only[ah,bQ] at hy
     obtain⟨rfl,rfl⟩:=hy
     rw[hev1] at hl
     rw[hev2] at hcc
     obtain⟨hv1,_⟩:=NF hl
     obtain⟨hv2,_⟩:=NF hcc
     unfold AX at hs
     unfold PD at hz
     unfold EI at hb
     cases hi:P.info? e with
     | none=>simp[hi] at hs
     | some i =>
      cases hiz:i.zero with
      | none=>simp[hi,hiz] at hz
      | some z =>
       simp[hi] at hs hb
       simp[hi,hiz] at hz
       have hzs:z.cells.size=n:=by rw[← hzl,← hz]; simp
       have hrun:=run_make (P:=P) w T e i z ht hi hiz .i64 .i64 nl nc h0 h1 (by rw[hb]; have:(by':Int)*nc≤65536*2147483648:=Int.mul_le_mul (by omega) h2 (by omega) (by omega); omega) (by omega)
       have hmc:(madeCells z.cells (nc.toNat*i.size)).size=nc.toNat*i.size:=size_madeCells _ _
       obtain⟨β',q1,q2,q3⟩:=h.newCells e n (List.replicate nl.toNat (zs.map .v)) (madeCells z.cells (nc.toNat*i.size)) (fun x hx=>by rw[abu hx]; simpa using hzl) (fun k cl hk=>by
        have hzl':(zs.map Cl.v).length=n:=by simpa using hzl
        obtain⟨r1,r2⟩:=PK (by omega) hk
        rw[hzl'] at r1 r2
        simp only[lS,uB] at r1
        obtain⟨v,hv,rfl⟩:=r1
        have hkn:k<nc.toNat*i.size:=by
         rw[hs]
         exact bI r2 (aaA _ (by omega))
        refine⟨v, ?_, ?_⟩
        ·rw[jK _ _ _ hkn (by omega),hzs,← abn,hz]; exact hv
        ·simp only[RdC,RdD,true_and]
         exact aG.1 hwf v (aZ hv))
       refine⟨_,.slice (some ⟨w.heap.size,0,none⟩) nl.toNat nc.toNat,_,St,β', ?_,.inl rfl,q1, ?_⟩
       ·simp[execOp,ho,hv1,hv2,hrun]
       ·simp only[AVR,RdC,BD]
        rw[aF (aK _)]
        simp only[XL,aB,q2]
        refine⟨rfl,fun _=>⟨nc.toNat,_, ?_, ?_, ?_,alloc_at w _, ?_⟩⟩
        ·simp
        ·simp; omega
        ·simp only[maxLen]; omega
        ·rw[hmc,hs]
    ·cases hy
   ·cases hy
  ·cases hy
 ·cases hy
theorem foldl_set:∀ (vs:List Value) (off k:Nat) (A:Array Value),off+k+vs.length≤A.size →
  (vs.zipIdx k).foldl (fun cs (x:Value×Nat)=>cs.setIfInBounds (off+x.2) x.1) A=(A.toList.take (off+k)++vs++A.toList.drop (off+k+vs.length)).toArray
 | [],off,k,A,_=>by simp
 | v::vs,off,k,A,h=>by
  simp only[bY] at h
  simp only[List.zipIdx_cons,abj]
  rw[foldl_set vs off (k+1) (A.setIfInBounds (off+k) v) (by simp; omega)]
  congr 1
  have:=list_seg_step A.toList (off+k) v vs (by simp; omega)
  simp only[Array.toList_setIfInBounds]
  rw[show off+(k+1)=off+k+1 by omega,this]
  simp
theorem dY (place:Nat→Option (Nat×Nat)) (A:Array Value) (i off size:Nat) (v:Value) (rest:List (Nat×Value)) (hp:place i=some (off,size)) (hv:v.cells.size=size) (hle:off+size≤A.size) :
  Instr.fill place A ((i,v)::rest)=Instr.fill place (A.toList.take off++(v.cells.toList++A.toList.drop (off+size))).toArray rest:=by
 have h1:¬ ((decide (v.cells.size≠size)||decide (off+v.cells.size>A.size))=true):=by simp; omega
 have hfl:=foldl_set v.cells.toList off 0 A (by simp; omega)
 simp only[abE] at hfl
 have e:v.cells.zipIdx.foldl (fun cs (x:Value×Nat)=>cs.setIfInBounds (off+x.2) x.1) A=(A.toList.take off++(v.cells.toList++A.toList.drop (off+size))).toArray:=by
  rw[← Array.foldl_toList]
  rw[Array.toList_zipIdx,hfl]
  simp[hv]
 simp only[Instr.fill,hp]
 rw[aV h1]
 exact congrArg (fun B=>Instr.fill place B rest) e
def He (s:MS) (ps:List (Nat×Operand)):List (Nat×AV):=match ps with
 | []=>[]
 | p::r=>(p.1,EU s p.2)::He s r
def TM:List (Nat×AV)→Nat→Nat→Option (List (List Cl))
 | [],_,_=>some []
 | (i,x)::r,k,n=>match cellsA x,TM r (k+1) n with
  | some cs,some rs=>if i=k∧cs.length=n then some (cs::rs) else none
  | _,_=>none
def dZ (P:Program) (T:TypeId) (F:List Cl):List (Nat×AV)→Option (List Cl)
 | []=>some F
 | (i,x)::r=>match AB P T i,cellsA x with
  | some (off,ft),some cs=>match AX P ft with
   | some n=>if cs.length=n∧off+n≤F.length then dZ P T (F.take off++(cs++F.drop (off+n))) r else none
   | none=>none
  | _,_=>none
theorem dw (n:Nat) {st:List Ob} (hn:0<n):∀ (ps:List (Nat×AV)) (vs:List (Nat×Value)) (k:Nat) (rows:List (List Cl)) (A:Array Value),
  vs.length=ps.length→(∀ (j:Nat) (p:Nat×AV),ps[j]?=some p→∃ q:Nat×Value,vs[j]?=some q∧q.1=p.1∧AVR w St st β p.2 q.2)→TM ps k n=some rows→(k+ps.length)*n≤A.size →
  ∃ B:Array Value,Instr.fill (fun i=>some (i*n,n)) A vs=some B∧B.size=A.size∧(∀ j,j<k*n→B[j]?=A[j]?)∧(∀ j,(k+ps.length)*n≤j→B[j]?=A[j]?) ∧
   ∀ (j:Nat) (c:Cl),rows.flatten[j]?=some c→∃ u,B[k*n+j]?=some u∧RdC w St st β c u
 | [],vs,k,rows,A,hl,_,hr,_=>by
  simp only[TM,ah] at hr
  subst hr
  have:vs = []:=dh (by simpa using hl)
  subst this
  exact⟨A,rfl,rfl,fun _ _=>rfl,fun _ _=>rfl,fun j c hj=>by simp at hj⟩
 | (i,x)::ps,vs,k,rows,A,hl,hvs,hr,hA=>by
  cases vs with
  | nil=>simp at hl
  | cons v vs =>
   obtain⟨q,hq1,hq2,hq3⟩:=hvs 0 (i,x) rfl
   simp only[aB,ah] at hq1
   subst hq1
   simp only[TM] at hr
   split at hr
   ·rename_i cs rs hcs hrs
    split at hr
    ·rename_i hik
     obtain⟨hik,hcl⟩:=hik
     simp only[ah] at hr
     subst hr
     subst hik
     obtain⟨c1,c2⟩:=QL hq3 hcs
     obtain⟨vi,vv⟩:=v
     simp only at hq2 hq3 c1 c2
     subst hq2
     have hvsz:vv.cells.size=n:=by
      have:vv.cells.toList.length=vv.cells.size:=by simp
      omega
     simp only[bY] at hA
     have hA':vi*n+n≤A.size:=by
      have:(vi+1)*n≤(vi+(ps.length+1))*n:=aaA _ (by omega)
      rw[Qj] at this; omega
     have hsz:(A.toList.take (vi*n)++(vv.cells.toList++A.toList.drop (vi*n+n))).toArray.size=A.size:=by
      have:A.toList.length=A.size:=by simp
      have:vv.cells.toList.length=vv.cells.size:=by simp
      simp only[aaQ,aT,bn,zG]
      omega
     obtain⟨B,b1,b2,b3,b4,b5⟩:=dw n hn ps vs (vi+1) rs (A.toList.take (vi*n)++(vv.cells.toList++A.toList.drop (vi*n+n))).toArray (by simpa using hl)
      (fun j p hj=>by simpa using hvs (j+1) p (by simpa using hj)) hrs (by rw[hsz]; rw[show vi+1+ps.length=vi+(ps.length+1) by omega]; exact hA)
     have hAl:A.toList.length=A.size:=by simp
     have htl:(A.toList.take (vi*n)).length=vi*n:=by simp; omega
     have hvl:vv.cells.toList.length=n:=by simpa using hvsz
     refine⟨B, ?_,by rw[b2,hsz],fun j hj=>?_,fun j hj=>?_,fun j c hj=>?_⟩
     ·rw[dY _ A vi (vi*n) n vv vs rfl hvsz hA']; exact b1
     ·rw[b3 j (by rw[Qj]; omega)]
      simp only[wo]
      rw[au (by omega),bu,aX hj]
      simp
     ·simp only[bY] at hj
      rw[b4 j (by rw[show vi+1+ps.length=vi+(ps.length+1) by omega]; exact hj)]
      have hj2:vi*n+n≤j:=by
       have:(vi+1)*n≤(vi+(ps.length+1))*n:=aaA _ (by omega)
       rw[Qj] at this; omega
      simp only[wo]
      rw[aF (by omega),aF (by omega),rU,htl,hvl]
      rw[show vi*n+n+(j-vi*n-n)=j by omega]
      simp
     ·simp only[bM] at hj
      rcases bf j n with h1 | h1
      ·rw[au (by omega)] at hj
       obtain⟨u,hu,hc⟩:=c2 j c hj
       refine⟨u, ?_,hc⟩
       rw[b3 _ (by rw[Qj]; omega)]
       simp only[wo]
       rw[aF (by omega),htl,show vi*n+j-vi*n=j by omega,au (by omega)]
       exact hu
      ·rw[aF (by omega),hcl] at hj
       obtain⟨u,hu,hc⟩:=b5 (j-n) c hj
       refine⟨u, ?_,hc⟩
       rw[Qj] at hu
       rw[show vi*n+1*n+(j-n)=vi*n+j by omega] at hu
       exact hu
    ·cases hr
   ·cases hr
def Jp (P:Program) (s:MS) (T:TypeId) (len:Nat) (ps:List (Nat×Operand)):Option (AV×List Ob):=match Dh P T with
 | some e=>match AX P e,TJ P e,TM (He s ps) 0 ((AX P e).getD 0) with
  | some n,some zs,some rows=>if rows.length=len∧zs.length=n∧0<n∧len*n≤16777216 then some (.c (.ref s.st.length),s.st ++ [⟨e,n,rows,true,true⟩]) else none
  | _,_,_=>none
 | none=>none
theorem U2 (h:Core w0 St0 St β s a w):∀ (ps:List (Nat×Operand)),ps.all (fun p=>A7 p.2)=true→∀ (j:Nat) (p:Nat×AV),(He s ps)[j]?=some p →
  ∃ q:Nat×Value,(ps.map fun x=>(x.1,a.eval x.2))[j]?=some q∧q.1=p.1∧AVR w St s.st β p.2 q.2
 | [],_,j,p,hj=>by simp[He] at hj
 | q::ps,hc,j,p,hj=>by
  simp only[bK,ax] at hc
  simp only[He] at hj
  cases j with
  | zero =>
   simp only[aB,ah] at hj
   subst hj
   exact⟨_,rfl,rfl,CG h q.2 hc.1⟩
  | succ j =>
   simp only[aaD] at hj
   simpa using U2 h ps hc.2 j p hj
theorem YH (ps:List (Nat×Operand)):(He s ps).length=ps.length:=by
 induction ps with
 | nil=>rfl
 | cons p ps ih=>simp[He,ih]
theorem d_:∀ (ps:List (Nat×AV)) (k n:Nat) (rows:List (List Cl)),TM ps k n=some rows→rows.length=ps.length∧∀ x∈rows,x.length=n
 | [],k,n,rows,h=>by simp[TM] at h; subst h; simp
 | (i,x)::ps,k,n,rows,h=>by
  simp only[TM] at h
  split at h
  ·rename_i cs rs hcs hrs
   split at h
   ·rename_i hik
    simp only[ah] at h
    subst h
    obtain⟨h1,h2⟩:=d_ ps (k+1) n rs hrs
    exact⟨by simp[h1],fun y hy=>by
     rcases bW.1 hy with rfl | hy
     ·exact hik.2
     ·exact h2 y hy⟩
   ·cases h
  ·cases h
theorem Zv (h:Core w0 St0 St β s a w) (o:Oper) (T:TypeId) (len:Nat) (ps:Array (Nat×Operand)) (ho:o.op = .buildSlice T len ps) (hc:ps.toList.all (fun p=>A7 p.2)=true) {y:AV} {st':List Ob} (hy:Jp P s T len ps.toList=some (y,st')):Does P a w w0 St0 s o y st':=by
 unfold Jp at hy
 split at hy
 ·rename_i e hte
  have ht:=Kq hte
  split at hy
  ·rename_i n cs0 rows hs hz0 hrows
   obtain⟨zs,hz,_,rfl⟩:=PG hz0
   split at hy
   ·rename_i hcond
    obtain⟨hlen,hzl0,hn,hmax⟩:=hcond
    have hzl:zs.length=n:=by simpa using hzl0
    simp only[ah,bQ] at hy
    obtain⟨rfl,rfl⟩:=hy
    rw[hs] at hrows
    simp only[aS] at hrows
    obtain⟨r1,r2⟩:=d_ _ _ _ _ hrows
    obtain⟨z,hz1,hz2⟩:=TL hz w
    have hzs:z.cells.size=n:=by rw[← hzl,← hz2]; simp
    have hpl:=YH (s:=s) ps.toList
    let A:Array Value:=if len*n=0 then #[] else(Array.range (len*n)).map (z.cells[· % z.cells.size]!)
    have hAs:A.size=len*n:=by
     show (if len*n=0 then #[] else(Array.range (len*n)).map (z.cells[· % z.cells.size]!):Array Value).size=len*n
     split
     ·rename_i h0; simp[h0]
     ·simp
    obtain⟨B,b1,b2,_,_,b5⟩:=dw (w:=w) (St:=St) (β:=β) (st:=s.st) n hn (He s ps.toList) (ps.toList.map fun x=>(x.1,a.eval x.2)) 0 rows A (by simp[hpl]) (U2 h ps.toList hc) hrows (by rw[hAs,← hlen,r1]; simp)
    simp only[Nat.zero_mul,oJ] at b5
    obtain⟨β',q1,q2,q3⟩:=h.newCells e n rows B r2 b5
    refine⟨_,.slice (some ⟨w.heap.size,0,none⟩) len len,_,St,β', ?_,.inl rfl,q1, ?_⟩
    ·have hmap:(ps.map fun(x:Nat×Operand)=>(x.1,a.eval x.2)).toList=ps.toList.map fun x=>(x.1,a.eval x.2):=by simp
     have hnm:¬ (16777216<len*n):=by omega
     by_cases h0:len*n=0
     ·have hA0:A = #[]:=by show (if len*n=0 then #[] else _)=_; rw[aX h0]
      rw[hA0] at b1
      have h00:len=0∨n=0:=Nat.mul_eq_zero.1 h0
      simp only[execOp,ho,Instr.buildSlice,Sem.run_bind,run_underlying ht,Result.andThen_ok,Ha hs]
      have hr0:(Array.range 0).map (fun i=>(#[]:Array Value)[i%(#[]:Array Value).size]!) = #[]:=by simp
      simp only[gt_iff_lt,Nat.reducePow,h0,aW,aV (Nat.not_lt_zero 16777216),Sem.run_bind,Sem.run_pure,Result.andThen_ok,hmap,hr0,b1,newRow,run_newObj,World.alloc_eq]
     ·have hA1:A=(Array.range (len*n)).map (z.cells[· % z.cells.size]!):=by show (if len*n=0 then #[] else _)=_; rw[aV h0]
      rw[hA1] at b1
      simp only[execOp,ho,Instr.buildSlice,Sem.run_bind,run_underlying ht,Result.andThen_ok,Ha hs]
      simp only[gt_iff_lt,Nat.reducePow,aV hnm,aV h0,Sem.run_bind,hz1,Sem.run_pure,Result.andThen_ok,hmap,b1,newRow,run_newObj,World.alloc_eq]
    ·simp only[AVR,RdC,BD]
     rw[aF (aK _)]
     simp only[XL,aB,q2]
     refine⟨rfl,fun _=>⟨len,B,by rw[hlen],by omega, ?_,alloc_at w _,by rw[b2,hAs]⟩⟩
     have:len≤len*n:=Nat.le_mul_of_pos_right _ hn
     simp only[maxLen]; omega
   ·cases hy
  ·cases hy
 ·cases hy
def Rh (P:Program) (s:MS) (T:TypeId) (ps:List (Nat×Operand)):Option (AV×List Ob):=match TJ P T with
 | some z=>match dZ P T z (He s ps) with
  | some cs=>some (.agg cs,s.st)
  | none=>none
 | none=>none
theorem V7 {T:TypeId} {fs:Array Field} (hu:P.underlying T=some (.struct fs)) {st:List Ob} (places:Array (Nat×Nat)) (hpl:∀ (i off:Nat) (ft:TypeId) (n:Nat),AB P T i=some (off,ft)→AX P ft=some n→places[i]?=some (off,n)) :
  ∀ (ps:List (Nat×AV)) (vs:List (Nat×Value)) (F F':List Cl) (A:Array Value),
  vs.length=ps.length→(∀ (j:Nat) (p:Nat×AV),ps[j]?=some p→∃ q:Nat×Value,vs[j]?=some q∧q.1=p.1∧AVR w St st β p.2 q.2)→dZ P T F ps=some F'→A.size=F.length →
  (∀ (k:Nat) (c:Cl),F[k]?=some c→∃ u,A.toList[k]?=some u∧RdC w St st β c u) →
  ∃ B:Array Value,Instr.fill (places[·]?) A vs=some B∧B.size=F'.length∧(∀ (k:Nat) (c:Cl),F'[k]?=some c→∃ u,B.toList[k]?=some u∧RdC w St st β c u)
 | [],vs,F,F',A,hl,_,hf,hA,hc=>by
  simp only[dZ,ah] at hf
  subst hf
  have:vs = []:=dh (by simpa using hl)
  subst this
  exact⟨A,rfl,hA,hc⟩
 | (i,x)::ps,vs,F,F',A,hl,hvs,hf,hA,hc=>by
  cases vs with
  | nil=>simp at hl
  | cons v vs =>
   obtain⟨q,hq1,hq2,hq3⟩:=hvs 0 (i,x) rfl
   simp only[aB,ah] at hq1
   subst hq1
   obtain⟨vi,vv⟩:=v
   simp only at hq2 hq3
   subst hq2
   simp only[dZ] at hf
   split at hf
   ·rename_i off ft cs hfi hcs
    split at hf
    ·rename_i n hn
     split at hf
     ·rename_i hcond
      obtain⟨hcl,hle⟩:=hcond
      obtain⟨c1,c2⟩:=QL hq3 hcs
      have hvl:vv.cells.toList.length=n:=by omega
      have hvsz:vv.cells.size=n:=by simpa using hvl
      have hAl:A.toList.length=A.size:=by simp
      obtain⟨B,b1,b2,b3⟩:=V7 hu places hpl ps vs _ F' (A.toList.take off++(vv.cells.toList++A.toList.drop (off+n))).toArray (by simpa using hl)
       (fun j p hj=>by simpa using hvs (j+1) p (by simpa using hj)) hf (by simp only[aaQ,aT,bn,zG]; omega)
       (fun k c hk=>by simpa using V6 hc hle hcl hvl c2 (by omega) k c hk)
      exact⟨B,by rw[dY _ A vi off n vv vs (hpl vi off ft n hfi hn) hvsz (by omega)]; exact b1,b2,b3⟩
     ·cases hf
    ·cases hf
   ·cases hf
theorem run_places {fs:Array Field} (hall:∀ x∈fs.toList,∃ n,AX P x.type=some n) (w:World) :
  (fs.mapM fun(f:Field)=>(do pure (f.offset,← sizeOf f.type):Sem (Nat×Nat))).run P w = .ok (fs.map fun f=>(f.offset,(AX P f.type).getD 0)) w:=by
 rw[abq]
 have key:∀ (l:List Field),(∀ x∈l,∃ n,AX P x.type=some n)→(l.mapM fun(f:Field)=>(do pure (f.offset,← sizeOf f.type):Sem (Nat×Nat))).run P w = .ok (l.map fun f=>(f.offset,(AX P f.type).getD 0)) w:=by
  intro l
  induction l with
  | nil=>intro _; simp
  | cons x l ih =>
   intro hl
   obtain⟨n,hn⟩:=hl x (by simp)
   have:=ih (fun y hy=>hl y (by simp[hy]))
   simp only[List.mapM_cons,Sem.run_bind,Ha hn,Result.andThen_ok,Sem.run_pure,this,V3,hn,aS]
 rw[Sem.run_map,key _ hall]
 simp only[Result.andThen_ok]
 congr 1
 apply abK
 simp
def EF (P:Program) (T:TypeId):Bool:=match P.underlying T with
 | some (.struct fs)=>fs.toList.all fun x=>(AX P x.type).isSome
 | _=>false
theorem ABJ (h:Core w0 St0 St β s a w) (o:Oper) (T:TypeId) (ps:Array (Nat×Operand)) (ho:o.op = .build T ps) (hfo:EF P T=true) (hc:ps.toList.all (fun p=>A7 p.2)=true) {y:AV} {st':List Ob} (hy:Rh P s T ps.toList=some (y,st')):Does P a w w0 St0 s o y st':=by
 unfold EF at hfo
 split at hfo
 ·rename_i fs hu
  unfold Rh at hy
  split at hy
  ·rename_i z0 hz0
   obtain⟨zs,hz,hwf,rfl⟩:=PG hz0
   ·split at hy
    ·rename_i cs hcs
     simp only[ah,bQ] at hy
     obtain⟨rfl,rfl⟩:=hy
     obtain⟨z,hz1,hz2⟩:=TL hz w
     have hall:∀ x∈fs.toList,∃ n,AX P x.type=some n:=fun x hx=>Option.isSome_iff_exists.1 (aG.1 hfo x hx)
     have hpl:=YH (s:=s) ps.toList
     obtain⟨B,b1,b2,b3⟩:=V7 (w:=w) (St:=St) (β:=β) (st:=s.st) hu (fs.map fun f=>(f.offset,(AX P f.type).getD 0)) (fun i off ft n h1 h2=>by
      obtain⟨fs',x,q1,q2,q3,q4⟩:=Rf h1
      rw[hu] at q1
      simp only[ah,TypeDesc.struct.injEq] at q1
      subst q1
      simp[q2,q3,q4,h2]) (He s ps.toList) (ps.toList.map fun x=>(x.1,a.eval x.2)) (zs.map .v) cs z.cells (by simp[hpl]) (U2 h ps.toList hc) hcs (by rw[ae,← hz2]; simp) (fun k c hk=>by
       simp only[lS,uB] at hk
       obtain⟨v,hv,rfl⟩:=hk
       refine⟨v,by rw[hz2]; exact hv, ?_⟩
       simp only[RdC,RdD,true_and]
       exact aG.1 hwf v (aZ hv))
     have hmap:(ps.map fun(x:Nat×Operand)=>(x.1,a.eval x.2)).toList=ps.toList.map fun x=>(x.1,a.eval x.2):=by simp
     refine⟨_,.agg B,_,St,β, ?_,.inl rfl,h, ?_⟩
     ·simp only[execOp,ho,Instr.build,Sem.run_bind,hz1,run_underlying hu,Result.andThen_ok,run_places hall,hmap]
      simp only[b1,Sem.run_pure,Result.andThen_ok]
     ·simp only[AVR]
      exact⟨B.toList,by simp,by simpa using b2,b3⟩
    ·cases hy
  ·cases hy
 ·cases hfo
end Go.Vm
