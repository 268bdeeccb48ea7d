/- A part. -/
import Derived.Test.YtdagmocgcanknaaGreatVmPa
import Derived.Lib.AppendStr
import Derived.Lib.AppendZerosOnto
import Derived.Orders
set_option linter.unusedSimpArgs false
set_option linter.unusedVariables false
set_option maxHeartbeats 2000000
namespace Go.Vm
open Go.RowKit Go.Lib
variable {P:Program} {w0:Bs} {St0 St:Nat->Nat->Prop} {β:Nat->Option Nat} {s:MS} {a:Act} {w:World}
theorem oO {P:Program} (w:World) (t u ty e:TypeId) (i:TypeInfo) (ht:P.underlying t=some (.slice e)) (hu:P.underlying u=some .string) (hi:P.info? e=some i) {n:Nat} (hsz:i.size=n) (hn:n=1)
  (g sLen sCap:Nat) (cur:Array Value) (hg:w.heap[g]?=some (.cells cur e (0,0))) (s:ByteArray) (m:Nat) (hm:m=s.size) (hroom:sLen+m<=sCap) (hfit:sLen*n+(strCells s).length<=cur.size) :
  (Builtin.append_ #[t,u] ty #[.slice (some ⟨g,0,none⟩) sLen sCap,.string s]).run P w =
   .ok (.slice (some ⟨g,0,none⟩) (sLen+m) sCap) (w.setRow g (cur.toList.take (sLen*n)++strCells s++cur.toList.drop (sLen*n+(strCells s).length)).toArray):=by
 grind [strCells_length,run_append_room_string]
theorem oP {P:Program} (w:World) (t u ty e:TypeId) (i:TypeInfo) (z:Value) (ht:P.underlying t=some (.slice e)) (hu:P.underlying u=some .string) (hi:P.info? e=some i) (hz:i.zero=some z)
  (b:Addr) (sLen sCap:Nat) (olds:List Value) (hlo:olds.length=sLen*i.size) (holds:∀ j v,olds[j]?=some v->w.cell? (b.add j)=some v) (s:ByteArray) (m:Nat) (hm:m=s.size)
  (hg:sCap<sLen+m) (h63:((sLen+m:Nat):Int)<=9223372036854775807) (hfit:Builtin.nextslicecap (sLen+m) sCap*i.bytes<=281474976710656) :
  (Builtin.append_ #[t,u] ty #[.slice (some b) sLen sCap,.string s]).run P w =
   .ok (.slice (some ⟨w.heap.size,0,none⟩) (sLen+m) (grownCap w (sLen+m) sCap e))
    (w.drew.alloc (.cells (olds.toArray++(strCells s).toArray++Builtin.zeroCells z.cells (grownCap w (sLen+m) sCap e-(sLen+m))) e)):=by
 grind [run_append_grow_string]
def Og (b:ByteArray):List (List Cl):=b.data.toList.map fun x=>[.v (.int .u8 x.toNat)]
theorem uX (b:ByteArray):(Og b).length=b.size:=by simp only[Og,aa]; rfl
theorem oQ (b:ByteArray):(Og b).flatten=b.data.toList.map fun x=>.v (.int .u8 x.toNat):=by
 unfold Og;induction b.data.toList with
 | nil=>rfl
 | cons x l ih=>grind
theorem dM (h:Core w0 St0 St β s a w) (o:Oper) {x:Operand} {l n:Nat} {ob:Ob} {e:TypeId} {i:TypeInfo} {z':Value} {ys:List (List Cl)} {news:List Value} (hsz:i.size=n) (hzs:z'.cells.size=n) (hn:0<n) (hc:Ap x=true) (hevx:Eo s x = .c (.ref l)) (hob:DF s.st l=some ob)
  (hty:ob.ty=e) (hosz:ob.sz=n) (hle:ob.xs.length+ys.length<=2147483648) (hyl:∀ r∈ys,r.length=n) (hysno:∀ (k:Nat) (c:Cl),ys.flatten[k]?=some c->HY c=false) (n1:news.length=ys.length*n)
  (n3:∀ (k:Nat) (c:Cl),ys.flatten[k]?=some c->∃ u,news[k]?=some u/\RdC w St s.st β c u)
  (R1:∀ b0 cap cs,w.heap[b0]?=some (.cells cs e (0,0))->ob.xs.length*n+news.length<=cs.size->ob.xs.length+ys.length<=cap->a.eval x = .slice (some ⟨b0,0,none⟩) ob.xs.length cap ->
   (execOp a.eval o).run P w = .ok (.value (.slice (some ⟨b0,0,none⟩) (ob.xs.length+ys.length) cap)) (w.setRow b0 (cs.toList.take (ob.xs.length*n)++news++cs.toList.drop (ob.xs.length*n+news.length)).toArray))
  (R2:∀ b0 cap (olds:List Value),olds.length=ob.xs.length*i.size->(∀ (j:Nat) (v:Value),olds[j]?=some v->w.cell? ((⟨b0,0,none⟩:Addr).add j)=some v)->cap<ob.xs.length+ys.length->a.eval x = .slice (some ⟨b0,0,none⟩) ob.xs.length cap ->
   (execOp a.eval o).run P w = .ok (.value (.slice (some ⟨w.heap.size,0,none⟩) (ob.xs.length+ys.length) (grownCap w (ob.xs.length+ys.length) cap e)))
    (w.drew.alloc (.cells (olds.toArray++news.toArray++Builtin.zeroCells z'.cells (grownCap w (ob.xs.length+ys.length) cap e-(ob.xs.length+ys.length))) e)))
  (R3:a.eval x = .slice none 0 0->ob.xs = []->0<ys.length/\(execOp a.eval o).run P w = .ok (.value (.slice (some ⟨w.heap.size,0,none⟩) ys.length (grownCap w ys.length 0 e)))
    (w.drew.alloc (.cells (news.toArray++Builtin.zeroCells z'.cells (grownCap w ys.length 0 e-ys.length)) e))) :
  Does P a w w0 St0 s o (.c (.ref s.st.length)) (Am s.st l ++ [⟨e,n,ob.xs++ys,ob.wr,true⟩]):=by
 have hxx:AVR w St s.st β (Eo s x) (a.eval x):=CU h x hc
 rw[hevx] at hxx
 obtain⟨hl,hlive⟩:=Bo hob
 simp only[AVR,RdC,BQ,hl] at hxx
 have hx2:=hxx.2 hlive
 obtain⟨k1,k2⟩:=h.kill l
 have hkr:∀ c u,RdC w St s.st β c u->RdC w St (Am s.st l) β c u:=fun c u hc=>by exact AMT
 have hkrB:∀ c u,RdB w St s.st β c u->RdB w St (Am s.st l) β c u:=fun c u hc=>by exact ALJ
 have hll:l<s.st.length:=(az.1 hl).1
 have hkl:=I8 s.st l
 cases hβ:β l with
 | none =>
  simp only[hβ] at hx2
  obtain⟨hvx,hobx⟩:=hx2
  obtain⟨hpos,hr⟩:=R3 hvx hobx
  rw[hobx] at hle ⊢
  simp only[aA]
  simp only[aj,nY] at hle
  have hge:=grownCap_ge w ys.length 0 e
  obtain⟨β',g1,g2⟩:=oN k1 e n ys ob.wr news (Builtin.zeroCells z'.cells (grownCap w ys.length 0 e-ys.length)) (grownCap w ys.length 0 e) hyl n1 (fun k c hk=>by
   obtain⟨u,u1,u2⟩:=n3 k c hk;exact⟨u,u1,hkr _ _ u2⟩) hge (grownCap_le_maxLen w ys.length 0 e APW) AQU
  simp only[hkl] at g2
  exact⟨_,_,_,St,β',hr,.inl rfl,g1,g2⟩
 | some b0 =>
  simp only[hβ] at hx2
  obtain⟨cap,cs,hvx,c1,c2,c3,c4⟩:=hx2
  obtain⟨p1,p2,cs',p3,p4,p5⟩:=h.obs l ob b0 hl hlive hβ
  rw[c3] at p3
  simp only[ai,Obj.cells.injEq,yH] at p3
  subst p3
  have hfree:∀ l' o2,(Am s.st l)[l']?=some o2->o2.live=true->β l'≠some b0:=fun l' o2 h2 hl2 hb2=>by exact AMi
  have hkeep:∀ o,St b0 o->ob.wr=false/\o<ob.xs.length*ob.sz:=fun o hbo=>h.sep l ob b0 o hl hlive hβ hbo
  have hxfl:ob.xs.flatten.length=ob.xs.length*n:=by rw[EO p4,hosz]
  have hlall:∀ r∈ob.xs++ys,r.length=n:=fun r hr=>by grind
  have hcap:cs.size=cap*n:=by rw[c4,hosz]
  have hFC:ob.xs.flatten.length<=cs.toList.length:=NJ (R:=fun c u=>RdB w St s.st β c u) (fun k c hk=>AOo)
  have holdl:(cs.toList.take (ob.xs.length*n)).length=ob.xs.length*n:=by rw[aU,ZW AOl]
  have hold:∀ (k:Nat) (c:Cl),ob.xs.flatten[k]?=some c->∃ u,(cs.toList.take (ob.xs.length*n))[k]?=some u/\RdB w St s.st β c u:=fun k c hk=>by grind
  have hboth:∀ (k:Nat) (c:Cl),(ob.xs++ys).flatten[k]?=some c->∃ u,(cs.toList.take (ob.xs.length*n)++news)[k]?=some u/\RdB w St (Am s.st l) β c u:=fun k c hk=>by exact ALs
  by_cases hroom:ob.xs.length+ys.length<=cap
  .
   have hcsl:cs.toList.length=cs.size:=AOm
   have hcapm:(ob.xs.length+ys.length)*n<=cap*n:=aaF _ hroom
   have hfit:ob.xs.length*i.size+news.length<=cs.size:=AQI
   have hr:=R1 b0 cap cs AOo AOo hroom hvx
   rw[hsz] at hfit
   generalize hcs':(cs.toList.take (ob.xs.length*n)++news++cs.toList.drop (ob.xs.length*n+news.length)).toArray=C' at hr
   have hC's:C'.size=cs.size:=by exact AN5
   have hC'at:∀ k,k<ob.xs.length*n+news.length->C'[k]?=(cs.toList.take (ob.xs.length*n)++news)[k]?:=fun k hk=>by grind
   have hturn:=k1.turn (b:=b0) p1 (uV h hl hlive hβ) hfree c3 (cs':=C') (fun o hbo=>by
    grind) hC's
   have hcell:∀ b' o,St b' o->(w.setRow b0 C').cell? ⟨b',o,none⟩=w.cell? ⟨b',o,none⟩:=fun b' o hbo=>by exact AKj
   have hrr:∀ l' u,BQ w (Am s.st l) β l' u->BQ (w.setRow b0 C') (Am s.st l) β l' u:=by exact AM2
   obtain⟨a1,a2,a3⟩:=hturn.addObB ⟨e,n,ob.xs++ys,ob.wr,true⟩ (some b0) AOm (fun b' hb=>by
    simp only[ai] at hb;subst hb;refine⟨p1,AQA,hfree,fun o hbo=>?_,C',by grind [setRow_heap],hlall,fun k c hk=>?_⟩
    .grind
    .obtain⟨u,u1,u2⟩:=hboth k c hk;have hk':k<ob.xs.length*n+news.length:=by exact ANh
     exact⟨u,AOo,RdB.mono (fun _ _ h=>h) hcell hrr _ _ u2⟩) (by
    refine Vq h hl hlive hβ (ys:=ys) rfl hysno (fun x hx=>?_) AQA hcell (fun l2 o2 b2 h1 h2 h3 h4=>?_) (fun k hk=>?_)
    .exact AL9
    .exact ANM
    .have hk':k<ob.xs.length*n:=by rw[<- hxfl]; exact hk
     rw[World.cell?,World.cell?,setRow_heap w b0 cs C' ob.ty (0,0) c3,c3];grind)
   refine⟨_,_,_,St,_,hr,.inl rfl,a1, ?_⟩
   exact ALW
  .
   have holds:∀ (j:Nat) (v:Value),(cs.toList.take (ob.xs.length*n))[j]?=some v->w.cell? ((⟨b0,0,none⟩:Addr).add j)=some v:=fun j v hj=>by exact AMa
   have hr:=R2 b0 cap (cs.toList.take (ob.xs.length*n)) AOo holds AOl hvx
   have hge:=grownCap_ge w (ob.xs.length+ys.length) cap e
   obtain⟨β',g1,g2⟩:=Vr k1 e n (ob.xs++ys) ob.wr (cs.toList.take (ob.xs.length*n)++news) (Builtin.zeroCells z'.cells (grownCap w (ob.xs.length+ys.length) cap e-(ob.xs.length+ys.length))) (grownCap w (ob.xs.length+ys.length) cap e) hlall (by
    grind) hboth AOo (grownCap_le_maxLen w _ cap e APW) (by rw[size_zeroCells,hzs]; simp) (by
    have hbd:=Fg w (.cells ((cs.toList.take (ob.xs.length*n)++news).toArray++Builtin.zeroCells z'.cells (grownCap w (ob.xs.length+ys.length) cap e-(ob.xs.length+ys.length))) e);refine Vq h hl hlive hβ (ys:=ys) rfl hysno (fun x hx=>⟨fun e2=>AQX,hbd.block x hx.2.2.1⟩) hbd.size (fun b o hbo=>cell_of_block (hbd.block b (h.stIn b o hbo))) (fun l2 o2 b2 h1 h2 h3 _=>hbd.block b2 (h.obs l2 o2 b2 h1 h2 h3).2.1) (fun k hk=>?_);have hk':k<ob.xs.length*n:=AQa;rw[World.cell?,World.cell?,E_ w _,c3];have hkc:k<cs.size:=by have:cs.toList.length=cs.size:=AOm;omega
    simp only[Option.isSome_none,ax,aL];rw[aay (by simp only[aa9,aP,holdl]; omega),aa4,aY (by rw[holdl]; exact hk'),aaC,aV hk',Array.getElem?_toList])
   simp only[hkl,aP] at g2
   have earr:(cs.toList.take (ob.xs.length*n)++news).toArray=(cs.toList.take (ob.xs.length*n)).toArray++news.toArray:=AOm
   rw[earr] at g1 g2
   exact⟨_,_,_,St,β',hr,.inl rfl,g1,g2⟩
theorem kG {n:Nat}:∀ (i:Nat) {xs:List (List Cl)},(∀ x∈xs,x.length=n)->(xs.drop i).flatten=xs.flatten.drop (i*n)
 | 0,xs,_=>AOm
 | i+1,[],_=>AOm
 | i+1,x::xs,h=>by rw[List.drop_succ_cons,kG i (fun y hy=>h y AP_),XV,dE,Nat.one_mul,Nat.add_comm,<- List.drop_drop,List.drop_left' (h x AOm)]
theorem TP {n:Nat}:∀ (i:Nat) {xs:List (List Cl)},(∀ x∈xs,x.length=n)->(xs.take i).flatten=xs.flatten.take (i*n)
 | 0,xs,_=>AOm
 | i+1,[],_=>AOm
 | i+1,x::xs,h=>by rw[aba,XV,TP i (fun y hy=>h y AP_),XV,dE,Nat.one_mul,Nat.add_comm];have:=h x AOm;rw[<- this,List.take_length_add_append]
theorem ABt {cs:List Cl} (h:DK cs=true):∀ c∈cs,AB c=true:=aC.1 h
theorem ABu {xs:List (List Cl)} (h:GL xs=true):∀ x∈xs,DK x=true:=aC.1 h
def ADl (P:Program) (s:MS) (T:TypeId) (x y:AV):Option (AV×List Ob):=match EF P T,x,y with
 | some e,.c (.ref l),.vw (.c (.ref l2)) i n m=>match Af P e,Uj P e,ET P e with
  | some n',some zs,some by'=>if(zs.length=n'/\n=n'/\0<n')/\by'<=65536 then match DF s.st l,DF s.st l2 with
    | some ob,some ob2=>if ob.ty=e/\ob.sz=n/\ob2.sz=n/\0<m/\i+m<=ob2.xs.length/\GL ob2.xs=true/\ob.xs.length+m<=2147483648 then some (.c (.ref s.st.length),Am s.st l ++ [⟨e,n',ob.xs++(ob2.xs.drop i).take m,ob.wr,true⟩]) else none
    | _,_=>none
   else none
  | _,_,_=>none
 | _,_,_=>none
theorem AFU (h:Core w0 St0 St β s a w) (o:Oper) (T:TypeId) (c:Call) (x y:Operand) (ho:o.op = .call c) (hcl:c.callee = .builtin .append) (hca:c.args.toList = [x,y]) (hct:c.argTypes.toList = [T,T]) (hc:Ap x=true) (hc2:Ap y=true)
  {z:AV} {st':List Ob} (hy:ADl P s T (Eo s x) (Eo s y)=some (z,st')):Does P a w w0 St0 s o z st':=by
 have hyy:=CU h y hc2
 have ha1:c.argTypes = #[T,T]:=APC
 have ha2:c.args = #[x,y]:=APD
 have hexec:∀ v w',(Builtin.append_ #[T,T] o.type #[a.eval x,a.eval y]).run P w = .ok v w'->(execOp a.eval o).run P w = .ok (.value v) w':=by exact ALK
 unfold ADl at hy
 split at hy
 .rename_i e l l2 i n m hte hevx hevy
  have ht:=Ju hte
  split at hy
  .rename_i n' cs0 by' hs hz0 hb
   obtain⟨zs,hz,hwz,rfl⟩:=O6 hz0
   split at hy
   .rename_i hcond
    obtain⟨⟨hzl0,rfl,hn⟩,hby⟩:=hcond
    have hzl:zs.length=n:=AP2
    have htab:∃ i z',P.info? e=some i/\i.zero=some z'/\i.size=n/\i.bytes=by'/\z'.cells.size=n:=by exact AI4
    obtain⟨ti,z',hi,hiz,hsz,hbs,hzs⟩:=htab
    split at hy
    .rename_i ob ob2 hob hob2
     split at hy
     .rename_i hoc
      obtain⟨hty,hosz,hosz2,hm0,him,hpu,hle⟩:=hoc
      simp only[ai,bb] at hy
      obtain⟨rfl,rfl⟩:=hy
      rw[hevy] at hyy
      simp only[AVR] at hyy
      obtain⟨b2,len2,cap2,cap',hvy,hcap',hmax',hr2⟩:=hyy
      obtain⟨hl2,hlive2⟩:=Bo hob2
      simp only[RdC,BQ,hl2] at hr2
      have hr3:=hr2.2 hlive2
      have hβ2:β l2=some b2:=by
       cases hβ:β l2 with
       | none=>rw[hβ] at hr3; simp at hr3
       | some b3 =>
        rw[hβ] at hr3
        obtain⟨_,_,e1,_⟩:=hr3
        simp only[Value.slice.injEq,ai,Addr.mk.injEq,yH] at e1
        rw[e1.1]
      obtain⟨_,_,cs,hcs,hrows,hcells⟩:=h.obs l2 ob2 b2 hl2 hlive2 hβ2
      rw[hosz2] at hrows
      have hfl:((ob2.xs.drop i).take m).flatten=(ob2.xs.flatten.drop (i*n)).take (m*n):=by rw[TP m (n:=n) (fun x hx=>hrows x (yE hx)),kG i hrows]
      have hylen:((ob2.xs.drop i).take m).length=m:=AOn
      have hyl:∀ r∈(ob2.xs.drop i).take m,r.length=n:=fun r hr=>hrows r (yE (uF hr))
      have hpc:∀ r∈(ob2.xs.drop i).take m,∀ c∈r,AB c=true:=fun r hr c hc=>ABt (ABu hpu r (yE (uF hr))) c hc
      generalize hys:(ob2.xs.drop i).take m=ys at *
      have hyfl:ys.flatten.length=m*n:=by rw[EO hyl,hylen]
      have hcell:∀ (k:Nat) (c:Cl),ys.flatten[k]?=some c->∃ u,w.cell? ⟨b2,i*n+k,none⟩=some u/\RdC w St s.st β c u:=fun k c hk=>by
       have hpk:AB c=true:=by obtain⟨r,hr,hcr⟩:=aa0.1 (aT hk);exact hpc r hr c hcr
       rw[hfl,aaC] at hk;split at hk
       .rw[aaV] at hk;obtain⟨u,u1,u2⟩:=hcells _ c hk;refine⟨u,by rw[World.cell?,hcs]; simpa using u1, ?_⟩;cases c with
        | ow _ _ _=>simp[AB] at hpk
        | v y=>exact u2
        | sl y=>exact u2
        | ref y=>exact u2
       .cases hk
      obtain⟨news,n1,n2⟩:=KI (R:=fun c u=>RdC w St s.st β c u) (w:=w) (b:=b2) ys.flatten (i*n) hcell
      have hat:∀ (k:Nat) (v:Value),news[k]?=some v->∃ c,ys.flatten[k]?=some c/\w.cell? ⟨b2,i*n+k,none⟩=some v/\RdC w St s.st β c v:=fun k v hk=>by
       have hk':k<ys.flatten.length:=by rw[<- n1]; exact(az.1 hk).1
       obtain⟨u,u1,u2,u3⟩:=n2 k _ (am hk');rw[hk] at u1;cases u1;exact⟨_,am hk',u2,u3⟩
      have hnews:∀ (k:Nat) (v:Value),news[k]?=some v->w.cell? ((⟨b2,i*n,none⟩:Addr).add k)=some v:=fun k v hk=>by obtain⟨_,_,q,_⟩:=hat k v hk;rw[addr_add]; exact q
      have n4:∀ u∈news,u.oneCell'=true:=fun u hu=>by obtain⟨k,hk⟩:=List.getElem?_of_mem hu;obtain⟨c,_,_,q⟩:=hat k u hk;exact RdB.one q.toB
      have hnl:news.length=m*ti.size:=by rw[n1,hyfl,hsz]
      refine dM h o (i:=ti) (z':=z') (news:=news) hsz hzs hn hc hevx hob hty hosz (by rw[hylen]; exact hle) hyl (fun k c hk=>by
       have hpk:AB c=true:=by obtain⟨r,hr,hcr⟩:=aa0.1 (aT hk);exact hpc r hr c hcr
       cases c with
       | ow _ _ _=>simp[AB] at hpk
       | v y=>rfl
       | sl y=>rfl
       | ref y=>rfl) (by rw[n1,hyfl,hylen]) (fun k c hk=>by
       obtain⟨u,u1,_,u3⟩:=n2 k c hk;exact⟨u,u1,u3⟩) (fun b0 cap cs1 q1 q2 q3 q4=>?_) (fun b0 cap olds q1 q2 q3 q4=>?_) (fun q4 q5=>?_)
      .rw[hylen] at q3 ⊢
       have hr:=run_append_room (P:=P) w T o.type e ti ht hi b0 ob.xs.length cap cs1 q1 ⟨b2,i*n,none⟩ m cap' news hnl hnews n4 q3 (by rw[hsz]; exact q2)
       rw[<- q4,<- hvy,hsz] at hr
       exact hexec _ _ hr
      .rw[hylen] at q3 ⊢
       have hr:=run_append_grow (P:=P) w T o.type e ti z' ht hi hiz ⟨b0,0,none⟩ ob.xs.length cap olds q1 q2 ⟨b2,i*n,none⟩ m cap' news hnl hnews q3 AOl (by
        exact growslice_fits AOl APx)
       rw[<- q4,<- hvy] at hr
       exact hexec _ _ hr
      .rw[hylen]
       rw[q5,aj,nY] at hle
       have hr:=run_append_nil (P:=P) w T o.type e ti z' ht hi hiz ⟨b2,i*n,none⟩ m cap' news hnl hnews hm0 AOl (by rw[hbs]; have:=Iz (m:=by') (.inl hle) hby (aG _); omega)
       rw[<- q4,<- hvy] at hr
       exact⟨hm0,hexec _ _ hr⟩
     .cases hy
    .cases hy
   .cases hy
  .cases hy
 .cases hy
def yP (P:Program) (s:MS) (T:TypeId) (x y:AV):Option (AV×List Ob):=match y with
 | .vw _ _ _ _=>ADl P s T x y
 | y=>ADk P s T x y
theorem AFV (h:Core w0 St0 St β s a w) (o:Oper) (T:TypeId) (c:Call) (x y:Operand) (ho:o.op = .call c) (hcl:c.callee = .builtin .append) (hca:c.args.toList = [x,y]) (hct:c.argTypes.toList = [T,T]) (hc:Ap x=true) (hc2:Ap y=true)
  {z:AV} {st':List Ob} (hy:yP P s T (Eo s x) (Eo s y)=some (z,st')):Does P a w w0 St0 s o z st':=by
 unfold yP at hy
 split at hy
 .exact AFU h o T c x y ho hcl hca hct hc hc2 hy
 .exact AFT h o T c x y ho hcl hca hct hc hc2 hy
theorem dN {P:Program} (w:World) (t u ty e:TypeId) (i:TypeInfo) (z:Value) (kq kn:IntKind) (ht:P.underlying t=some (.slice e)) (hu:P.underlying u=some (.int kn)) (hi:P.info? e=some i) (hiz:i.zero=some z) {n:Nat} (hsz:i.size=n) (hn:n=1)
  (g sLen sCap:Nat) (cur:Array Value) (hg:w.heap[g]?=some (.cells cur e (0,0))) (k:Nat) (h0:0<k) (hk:k<=2147483648) (hby:i.bytes<=65536) (h1:∀ v∈(Builtin.zeroCells z.cells k).toList,v.oneCell'=true) (hroom:sLen+k<=sCap) (hfit:sLen*n+(Builtin.zeroCells z.cells k).toList.length<=cur.size) :
  (Builtin.append_ #[t,u] ty #[.slice (some ⟨g,0,none⟩) sLen sCap,.int kq k]).run P w =
   .ok (.slice (some ⟨g,0,none⟩) (sLen+k) sCap) (w.setRow g (cur.toList.take (sLen*n)++(Builtin.zeroCells z.cells k).toList++cur.toList.drop (sLen*n+(Builtin.zeroCells z.cells k).toList.length)).toArray):=by
 have hw:IntKind.i64.wrap (k:Int)=k:=by rw[IntKind.wrap_i64]; omega
 have h48:k*i.bytes<=281474976710656:=by have:=aaZ hk hby;omega
 have h48i:¬ (281474976710656<(k:Int)*(i.bytes:Int)):=by rw[<- Int.natCast_mul];omega
 have hneg:¬ ((k:Int)<0):=AOl
 have hk0:k≠0:=AOl
 subst hn
 have hst:=run_storeCells_at P g sLen e (Builtin.zeroCells z.cells k).toList 0 cur w hg (by simpa using hfit) h1
 simp only[abC] at hst
 rw[Nat.mul_one]
 simp[Builtin.append_,run_underlying ht,run_underlying hu,sizeOf,typeInfo,zeroValue,hi,hiz,asInt,asIntOf,hw,hneg,h48i,hsz,hk0,hroom,Addr.add_lit,hst]
def ADm (P:Program) (s:MS) (e:TypeId) (x y:AV):Option (AV×List Ob):=match Af P e,Uj P e,ET P e with
 | some n,some zs,some by'=>if(zs.length=n/\n=1)/\by'<=65536 then match x,y with
   | .c (.ref l),.c (.v (.int _ k))=>match DF s.st l with
    | some ob=>if ob.ty=e/\ob.sz=n/\0<k/\ob.xs.length+k.toNat<=2147483648 then some (.c (.ref s.st.length),Am s.st l ++ [⟨e,n,ob.xs++List.replicate k.toNat zs,ob.wr,true⟩]) else none
    | none=>none
   | _,_=>none
  else none
 | _,_,_=>none
theorem AFW (h:Core w0 St0 St β s a w) (o:Oper) (T T' e:TypeId) (kn:IntKind) (hte:EF P T=some e) (hu:P.underlying T'=some (.int kn)) (c:Call) (x y:Operand) (ho:o.op = .call c) (hcl:c.callee = .builtin .append) (hca:c.args.toList = [x,y]) (hct:c.argTypes.toList = [T,T']) (hc:Ap x=true) (hc2:Ap y=true)
  {z:AV} {st':List Ob} (hy:ADm P s e (Eo s x) (Eo s y)=some (z,st')):Does P a w w0 St0 s o z st':=by
 have hyy:=CU h y hc2
 have ha1:c.argTypes = #[T,T']:=APC
 have ha2:c.args = #[x,y]:=APD
 have hexec:∀ v w',(Builtin.append_ #[T,T'] o.type #[a.eval x,a.eval y]).run P w = .ok v w'->(execOp a.eval o).run P w = .ok (.value v) w':=by exact ALK
 have ht:=Ju hte
 unfold ADm at hy
 split at hy
 .rename_i n cs0 by' hs hz0 hb
  obtain⟨zs,hz,hwz,rfl⟩:=O6 hz0
  split at hy
  .rename_i hcond
   obtain⟨⟨hzl0,hn1⟩,hby⟩:=hcond
   have hn:0<n:=AOl
   have hzl:zs.length=n:=AP2
   split at hy
   .rename_i l kq k hevx hevy
    rw[hevy] at hyy
    obtain⟨hvy,_⟩:=O8 hyy
    have htab:∃ i z',P.info? e=some i/\i.zero=some z'/\i.size=n/\i.bytes=by'/\z'.cells.size=n/\z'.cells.toList=zs:=by exact AI4
    obtain⟨i,z',hi,hiz,hsz,hbs,hzs,hzt⟩:=htab
    split at hy
    .rename_i ob hob
     split at hy
     .rename_i hoc
      obtain⟨hty,hosz,hk0,hle⟩:=hoc
      simp only[ai,bb] at hy
      obtain⟨rfl,rfl⟩:=hy
      obtain⟨m,rfl⟩:=aF (Int.le_of_lt hk0)
      simp only[aZ] at hle ⊢
      have hm:0<m:=AOl
      obtain⟨v0,rfl⟩:=List.length_eq_one_iff.1 (show zs.length=1 from AOl)
      have hv0:Qv v0=true:=by simpa [ng] using hwz
      have hza:z'.cells = #[v0]:=by apply abm;exact hzt
      have hnw:(Builtin.zeroCells z'.cells m).toList=List.replicate m v0:=by
       rw[hza];apply abF
       .simp[Builtin.zeroCells]
       .intro j h1 h2;simp[Builtin.zeroCells,Nat.mod_one]
      have hna:Builtin.zeroCells z'.cells m=(List.replicate m v0).toArray:=by rw[<- hnw]
      have hfl:(List.replicate m (List.map Cl.v [v0])).flatten=List.replicate m (Cl.v v0):=by simp
      refine dM h o (i:=i) (z':=z') (news:=List.replicate m v0) hsz hzs hn hc hevx hob hty hosz (by simpa using hle) (fun r hr=>by rw[(List.mem_replicate.1 hr).2]; simp[hn1]) (fun k c hk=>by
       rw[hfl] at hk;have:=aT hk;rw[(List.mem_replicate.1 this).2];rfl) (by simp[hn1]) (fun k c hk=>by
       rw[hfl,abh] at hk;split at hk
       .rename_i hkm;simp only[ai] at hk;subst hk;exact⟨v0,by rw[abh,aV hkm],by simp only[RdC,RdD]; exact⟨trivial,hv0⟩⟩
       .cases hk) (fun b0 cap cs q1 q2 q3 q4=>?_) (fun b0 cap olds q1 q2 q3 q4=>?_) (fun q4 q5=>?_)
      .rw[aaa] at q3
       have hr:=dN (P:=P) w T T' o.type e i z' kq kn ht hu hi hiz hsz hn1 b0 ob.xs.length cap cs q1 m hm AOl (by rw[hbs]; exact hby) (fun v hv=>by rw[hnw] at hv; rw[(List.mem_replicate.1 hv).2]; exact nZ hv0) q3 (by rw[hnw]; exact q2)
       rw[<- q4,<- hvy,hnw] at hr
       rw[aaa]
       exact hexec _ _ hr
      .rw[aaa] at q3
       have hr:=run_append_grow_zeros (P:=P) w T T' o.type e i z' kq kn ht hu hi hiz (some ⟨b0,0,none⟩) ob.xs.length cap olds (run_firstCells_some (P:=P) w.drew i.size ob.xs.length ⟨b0,0,none⟩ ob.xs.length cap olds q1 (by simpa using q2)) m hm AOl q3 AOl (by
        rw[hbs]; have:=aaZ (show m<=2147483648 from AOl) hby; omega) (by
        exact growslice_fits AOl APx)
       rw[<- q4,<- hvy,hna] at hr
       rw[aaa]
       exact hexec _ _ hr
      .rw[q5,aj,nY] at hle
       have hr:=run_append_nil_zeros (P:=P) w T T' o.type e i z' kq kn ht hu hi hiz m hm AOl AOl (by
        rw[hbs]; have:=aaZ (show m<=2147483648 from AOl) hby; omega)
       rw[<- q4,<- hvy,hna] at hr
       rw[aaa]
       exact⟨hm,hexec _ _ hr⟩
     .cases hy
    .cases hy
   .cases hy
  .cases hy
 .cases hy
def yQ (P:Program) (s:MS) (T T':TypeId) (x y:AV):Option (AV×List Ob):=match EF P T,P.underlying T' with
 | some e,some .string=>match Af P e,Uj P e,ET P e with
  | some n,some zs,some by'=>if(zs.length=n/\n=1)/\by'<=65536 then match x,y with
    | .c (.ref l),.c (.v (.string b))=>match DF s.st l with
     | some ob=>if ob.ty=e/\ob.sz=n/\0<ob.xs.length/\ob.xs.length+b.size<=2147483648 then some (.c (.ref s.st.length),Am s.st l ++ [⟨e,n,ob.xs++Og b,ob.wr,true⟩]) else none
     | none=>none
    | _,_=>none
   else none
  | _,_,_=>none
 | some e,some (.int _)=>ADm P s e x y
 | _,_=>none
theorem AFX (h:Core w0 St0 St β s a w) (o:Oper) (T T':TypeId) (c:Call) (x y:Operand) (ho:o.op = .call c) (hcl:c.callee = .builtin .append) (hca:c.args.toList = [x,y]) (hct:c.argTypes.toList = [T,T']) (hc:Ap x=true) (hc2:Ap y=true)
  {z:AV} {st':List Ob} (hy:yQ P s T T' (Eo s x) (Eo s y)=some (z,st')):Does P a w w0 St0 s o z st':=by
 have hx:=CU h x hc
 have hyy:=CU h y hc2
 have ha1:c.argTypes = #[T,T']:=APC
 have ha2:c.args = #[x,y]:=APD
 have hexec:∀ v w',(Builtin.append_ #[T,T'] o.type #[a.eval x,a.eval y]).run P w = .ok v w'->(execOp a.eval o).run P w = .ok (.value v) w':=by exact ALK
 unfold yQ at hy
 split at hy
 .rename_i e hte hu
  have ht:=Ju hte
  split at hy
  .rename_i n cs0 by' hs hz0 hb
   obtain⟨zs,hz,_,rfl⟩:=O6 hz0
   split at hy
   .rename_i hcond
    obtain⟨⟨hzl0,hn1⟩,hby⟩:=hcond
    have hn:0<n:=AOl
    have hzl:zs.length=n:=AP2
    split at hy
    .rename_i l bs hevx hevy
     rw[hevy] at hyy
     obtain⟨hvy,_⟩:=O8 hyy
     generalize hysd:Og bs=ys at hy
     generalize hnews:strCells bs=news
     have hys:ys.length=bs.size:=by rw[<- hysd]; exact uX bs
     have hyfl0:ys.flatten=bs.data.toList.map fun x=>.v (.int .u8 x.toNat):=by rw[<- hysd]; exact oQ bs
     have hyl:∀ r∈ys,r.length=n:=fun r hr=>by rw[<- hysd] at hr;obtain⟨x,_,rfl⟩:=jB.1 hr;simp[hn1]
     have hysno:∀ (k:Nat) (c:Cl),ys.flatten[k]?=some c->HY c=false:=fun k c hk=>by rw[hyfl0,nX,aao] at hk;obtain⟨x,_,rfl⟩:=hk;rfl
     have hyfl:ys.flatten.length=ys.length*n:=EO hyl
     have n1:news.length=ys.length*n:=by rw[<- hnews,strCells_length,hys,hn1,Nat.mul_one]
     have n3:∀ (k:Nat) (c:Cl),ys.flatten[k]?=some c->∃ u,news[k]?=some u/\RdC w St s.st β c u:=fun k c hk=>by rw[hyfl0,nX,aao] at hk;obtain⟨x,hx,rfl⟩:=hk;refine⟨.int .u8 x.toNat,by rw[<- hnews,strCells,nX,hx]; rfl, ?_⟩;simp only[RdC,RdD,true_and];have:=x.toNat_lt;simp only[Qv,Lit.wf,ar,aQ];simp[IntKind.min,IntKind.max,IntKind.bits,IntKind.signed];omega
     have n4:∀ u∈news,u.oneCell'=true:=by rw[<- hnews]; exact strCells_oneCell bs
     have htab:∃ i z',P.info? e=some i/\i.zero=some z'/\i.size=n/\i.bytes=by'/\z'.cells.size=n:=by exact AI4
     obtain⟨i,z',hi,hiz,hsz,hbs,hzs⟩:=htab
     split at hy
     .rename_i ob hob
      split at hy
      .rename_i hoc
       obtain⟨hty,hosz,hxpos,hle⟩:=hoc
       rw[<- hys] at hle
       simp only[ai,bb] at hy
       obtain⟨rfl,rfl⟩:=hy
       exact dM h o hsz hzs hn hc hevx hob hty hosz hle hyl hysno n1 n3 (fun b0 cap cs q1 q2 q3 q4=>by
        have hr:=oO (P:=P) w T T' o.type e i ht hu hi hsz hn1 b0 ob.xs.length cap cs q1 bs ys.length hys q3 (by rw[hnews]; exact q2);rw[<- q4,<- hvy,hnews] at hr;exact hexec _ _ hr) (fun b0 cap olds q1 q2 q3 q4=>by
        have hr:=oP (P:=P) w T T' o.type e i z' ht hu hi hiz ⟨b0,0,none⟩ ob.xs.length cap olds q1 q2 bs ys.length hys q3 AOl (by
         exact growslice_fits AOl APx)
        rw[<- q4,<- hvy,hnews] at hr;exact hexec _ _ hr) (fun _ q=>by rw[q] at hxpos; simp at hxpos)
      .cases hy
     .cases hy
    .cases hy
   .cases hy
  .cases hy
 .rename_i e kn hte hu
  exact AFW h o T T' e kn hte hu c x y ho hcl hca hct hc hc2 hy
 .cases hy
def CV (st:List Ob) (l i off:Nat) (ob:Ob) (row:List Cl) (ty:TypeId) (sz:Nat) (xs:List (List Cl)):List Ob:=
 st.set l ⟨ob.ty,ob.sz,ob.xs.set i (row.set off (.ref st.length)),ob.wr,ob.live⟩ ++ [⟨ty,sz,xs,true,true⟩]
def AAZ (P:Program) (s:MS) (T:TypeId) (x:AV):Option (AV×List Ob):=match Bl P T,x with
 | some false,.lp l i off=>match DF s.st l with
  | some ob=>if ob.wr=true then match ob.xs[i]? with
   | some row=>match row[off]? with
    | some (.ow ty sz xs)=>some (.c (.ref s.st.length),CV s.st l i off ob row ty sz xs)
    | _=>none
   | none=>none
   else none
  | none=>none
 | _,_=>none
theorem uY {xs:List (List Cl)} {sz i off:Nat} {row:List Cl} {c:Cl} (hl:∀ x∈xs,x.length=sz) (hi:xs[i]?=some row) (ho:off<row.length) :
  ∀ (k:Nat) (d:Cl),(xs.set i (row.set off c)).flatten[k]?=some d->(k=i*sz+off/\d=c)\/(k≠i*sz+off/\xs.flatten[k]?=some d):=by
 intro k d hk
 have hrl:row.length=sz:=hl row (aT hi)
 have e:xs.set i (row.set off c)=xs.set i (row.take off++([c]++row.drop (off+1))):=by congr 1;rw[List.set_eq_take_append_cons_drop,aV ho];rfl
 have hle:off+1<=row.length:=ho
 have hFl:xs.flatten.length=xs.length*sz:=EO hl
 have hil:i<xs.length:=(az.1 hi).1
 have hpos:i*sz+(off+1)<=xs.flatten.length:=by rw[hFl];have:(i+1)*sz<=xs.length*sz:=aaF _ hil;rw[dE] at this; omega
 rw[e,RZ hl hi hle] at hk
 have l1:(xs.flatten.take (i*sz+off)).length=i*sz+off:=by rw[aU]; omega
 rcases bh k (i*sz+off) with h1 | h1
 .grind
 .rw[aS AOl,l1] at hk
  rcases bh (k-(i*sz+off)) 1 with h2 | h2
  .grind
  .rw[aS AOl,aaV] at hk
   grind
theorem Core.openCell (h:Core w0 St0 St β s a w) {l i off:Nat} {ob:Ob} {row:List Cl} {ty:TypeId} {sz:Nat} {xs:List (List Cl)} (hob:DF s.st l=some ob) (hwr:ob.wr=true) (hrow:ob.xs[i]?=some row) (hcell:row[off]?=some (.ow ty sz xs)) :
  ∃ b u β',β l=some b/\w.cell? ⟨b,i*ob.sz+off,none⟩=some u/\Core w0 St0 St β' ⟨s.n,s.env,CV s.st l i off ob row ty sz xs⟩ a w/\RdC w St (CV s.st l i off ob row ty sz xs) β' (.ref s.st.length) u:=by
 obtain⟨hl,hlive⟩:=Bo hob
 obtain⟨φ,f1,f2,f3⟩:=h.own
 have hll:l<s.st.length:=(az.1 hl).1
 cases hβ:β l with
 | none =>
  have:=h.nil l ob hl hlive hβ
  grind
 | some b =>
  obtain⟨hmay,hlt,cs0,g1,g2,g3⟩:=h.obs l ob b hl hlive hβ
  have hoff:off<row.length:=(az.1 hcell).1
  have hk0:ob.xs.flatten[i*ob.sz+off]?=some (.ow ty sz xs):=F6 g2 i off row _ hrow hcell
  obtain⟨u,hu,hr⟩:=f1 l ob b _ _ hl hlive hβ hk0 rfl
  have hu1:u.oneCell'=true:=(RdO.toB (st:=s.st) (β:=β) hr).one
  have hnew:∃ (nb:Option Nat) (G:Nat->Nat->Prop),(∀ k x,G k x->φ l (i*ob.sz+off) x/\nb≠some x)/\(∀ k k' x,G k x->G k' x->k=k')/\(nb=none->∀ k x,¬ G k x)/\(nb=none->u = .slice none 0 0/\xs = []) /\
    ∀ b',nb=some b'->φ l (i*ob.sz+off) b'/\∃ (cap:Nat) (cs:Array Value),u = .slice (some ⟨b',0,none⟩) xs.length cap/\xs.length<=cap/\cap<=maxLen/\w.heap[b']?=some (.cells cs ty (0,0))/\cs.size=cap*sz/\(∀ x∈xs,x.length=sz) /\
     ∀ (k:Nat) (c:Cl),xs.flatten[k]?=some c->∃ y,cs[k]?=some y/\RdO w St c y (G k):=by
   simp only[RdO] at hr
   rcases hr with ⟨e1,e2⟩ | ⟨b',cap,cs,G,e1,e2,e3,e4,e5,e6,e7,e8,e9,e10⟩
   .exact⟨none,fun _ _=>False,fun _ _ h=>h.elim,fun _ _ _ h=>h.elim,fun _ _ _ h=>h,fun _=>⟨e1,e2⟩,(fun b' h=>AP8)⟩
   .refine⟨some b',G,fun k x hx=>⟨(e8 k x hx).1,fun e=>(e8 k x hx).2 (uG e).symm⟩,e9,(fun h=>AP8),(fun h=>AP8),fun b'' hb=>?_⟩
    cases hb
    exact⟨e7,cap,cs,e1,e2,e3,e4,e5,e6,fun k c hk=>by simpa using e10.at hk⟩
  obtain⟨nb,G,n1,n2,n5,n3,n4⟩:=hnew
  have hset:∀ (l':Nat),(CV s.st l i off ob row ty sz xs)[l']?=if l'=s.st.length then some ⟨ty,sz,xs,true,true⟩ else if l'=l then some ⟨ob.ty,ob.sz,ob.xs.set i (row.set off (.ref s.st.length)),ob.wr,ob.live⟩ else s.st[l']?:=by
   intro l';unfold CV;by_cases e:l'=s.st.length
   .grind
   .grind
  have hl2:∀ (l':Nat) (o2:Ob),(CV s.st l i off ob row ty sz xs)[l']?=some o2->(l'=s.st.length/\o2=⟨ty,sz,xs,true,true⟩)\/(l'=l/\l'<s.st.length/\o2=⟨ob.ty,ob.sz,ob.xs.set i (row.set off (.ref s.st.length)),ob.wr,ob.live⟩)\/(l'≠l/\l'<s.st.length/\s.st[l']?=some o2):=by
   intro l' o2 h2;rw[hset l'] at h2;by_cases e:l'=s.st.length
   .grind
   .grind
  have hold:∀ (l':Nat) (o2:Ob),s.st[l']?=some o2->∃ o3,(CV s.st l i off ob row ty sz xs)[l']?=some o3/\o3.live=o2.live/\o3.sz=o2.sz/\o3.ty=o2.ty/\o3.xs.length=o2.xs.length/\o3.wr=o2.wr:=by
   intro l' o2 h2;have hl':l'<s.st.length:=(az.1 h2).1;rw[hset l'];have e:¬ l'=s.st.length:=AOl;by_cases e2:l'=l
   .grind
   .grind
  have hr':∀ (l':Nat) (v:Value),BQ w s.st β l' v->BQ w (CV s.st l i off ob row ty sz xs) (fun m=>if m=s.st.length then nb else β m) l' v:=by intro l' v hv;have hd:=oC hv;unfold BQ at hv ⊢;exact AMD
  have hp':∀ (l' i' off':Nat) (v:Value),AVR w St s.st β (.lp l' i' off') v->AVR w St (CV s.st l i off ob row ty sz xs) (fun m=>if m=s.st.length then nb else β m) (.lp l' i' off') v:=by intro l' i' off' v hv;have hd:=yL hv;simp only[AVR] at hv ⊢;exact AMD
  have hBB:∀ (c:Cl) (v:Value),RdB w St s.st β c v->RdB w St (CV s.st l i off ob row ty sz xs) (fun m=>if m=s.st.length then nb else β m) c v:=fun c v hv=>RdB.mono (fun _ _ h=>h) (fun _ _ _=>rfl) hr' c v hv
  have href:RdC w St (CV s.st l i off ob row ty sz xs) (fun m=>if m=s.st.length then nb else β m) (.ref s.st.length) u:=by
   simp only[RdC,BQ,hset s.st.length,aO];refine⟨hu1,fun _=>?_⟩;cases hnb:nb with
   | none=>exact n3 hnb
   | some b' =>
    grind
  have hfree:∀ x,φ l (i*ob.sz+off) x->PX w0 (fun _=>False) w St s.st β x:=fun x hx=>(f2 l _ x hx).2
  refine⟨b,u,_,rfl,hu, ?_,href⟩
  exact {
   defers:=h.defers
   size:=h.size
   lim:=h.lim
   env:=fun k=>AVR.mono (fun _ _ h=>h) (fun _ _ _=>rfl) hr' hp' _ _ (h.env k)
   below:=h.below,st0:=h.st0,stOld:=h.stOld,stIn:=h.stIn
   obs:=fun l' o2 b2 h2 hlv hb=>by
    rcases hl2 l' o2 h2 with ⟨rfl,rfl⟩ | ⟨rfl,hl',rfl⟩ | ⟨hne,hl',h3⟩
    .simp only[aO] at hb;obtain⟨q1,cap,cs,e1,e2,e3,e4,e5,e6,e7⟩:=n4 b2 hb;have hf:=hfree b2 q1;refine⟨hf.1,hf.2.2.1,cs,e4,e6,fun k c hk=>?_⟩;obtain⟨y,hy,hro⟩:=e7 k c hk;exact⟨y,hy,hro.toB⟩
    .have e:¬ l'=s.st.length:=by omega
     simp only[e,aL] at hb;rw[hβ] at hb;cases hb;refine⟨hmay,hlt,cs0,g1,fun x hx=>?_,fun k c hk=>?_⟩
     .grind
     .rcases uY g2 hrow hoff k c hk with ⟨rfl,rfl⟩ | ⟨_,hk'⟩
      .refine⟨u,by simpa [World.cell?,g1] using hu,href.toB⟩
      grind
    .have e:¬ l'=s.st.length:=by omega
     simp only[e,aL] at hb;obtain⟨q1,q2,cs,p1,p2,p3⟩:=h.obs l' o2 b2 h3 hlv hb;refine⟨q1,q2,cs,p1,p2,fun k c hk=>?_⟩;grind
   nil:=fun l' o2 h2 hlv hb=>by
    rcases hl2 l' o2 h2 with ⟨rfl,rfl⟩ | ⟨rfl,hl',rfl⟩ | ⟨hne,hl',h3⟩
    .grind
    .grind
    .have e:¬ l'=s.st.length:=by omega
     simp only[e,aL] at hb;exact h.nil l' o2 h3 hlv hb
   inj:=fun l1 l2 o1 o2 b' h1 h2 h3 h4 h5 h6=>by
    have key:∀ (m:Nat) (o:Ob),(CV s.st l i off ob row ty sz xs)[m]?=some o->o.live=true->m≠s.st.length->∃ o',s.st[m]?=some o'/\o'.live=true:=by
     intro m o hm hlv hne;rcases hl2 m o hm with ⟨e,_⟩ | ⟨rfl,hl',rfl⟩ | ⟨_,hl',h3⟩
     .omega
     .grind
     .grind
    by_cases e1:l1=s.st.length<;>by_cases e2:l2=s.st.length
    .omega
    .simp only[e1,e2,aO,aL] at h5 h6;obtain⟨o',p1,p2⟩:=key l2 o2 h2 h4 e2;exact absurd h6 ((hfree b' (n4 b' h5).1).2.2.2.2 l2 o' p1 p2)
    .simp only[e1,e2,aO,aL] at h5 h6;obtain⟨o',p1,p2⟩:=key l1 o1 h1 h3 e1;exact absurd h5 ((hfree b' (n4 b' h6).1).2.2.2.2 l1 o' p1 p2)
    .simp only[e1,e2,aL] at h5 h6;obtain⟨o',p1,p2⟩:=key l1 o1 h1 h3 e1;obtain⟨o'',q1,q2⟩:=key l2 o2 h2 h4 e2;exact h.inj l1 l2 o' o'' b' p1 q1 p2 q2 h5 h6
   sep:=fun l' o2 b2 o h2 hlv hb hbo=>by
    rcases hl2 l' o2 h2 with ⟨rfl,rfl⟩ | ⟨rfl,hl',rfl⟩ | ⟨hne,hl',h3⟩
    .simp only[aO] at hb;exact absurd hbo ((hfree b2 (n4 b2 hb).1).2.2.2.1 o)
    .have e:¬ l'=s.st.length:=by omega
     simp only[e,aL] at hb;have:=h.sep l' ob b2 o hl hlive hb hbo;grind
    .have e:¬ l'=s.st.length:=by omega
     simp only[e,aL] at hb;exact h.sep l' o2 b2 o h3 hlv hb hbo
   own:=by
    refine⟨fun m k x=>(m=s.st.length/\G k x)\/(m<s.st.length/\¬ (m=l/\k=i*ob.sz+off)/\φ m k x), ?_, ?_, ?_⟩
    .intro m o2 b2 k c h2 hlv hb hk hc;rcases hl2 m o2 h2 with ⟨rfl,rfl⟩ | ⟨rfl,hl',rfl⟩ | ⟨hne,hl',h3⟩
     .simp only[aO] at hb;obtain⟨q1,cap,cs,e1,e2,e3,e4,e5,e6,e7⟩:=n4 b2 hb;obtain⟨y,hy,hro⟩:=e7 k c hk;exact⟨y,by simp[World.cell?,e4,hy],RdO.mono (fun _ _ h=>h) (fun _ _ _=>rfl) c y _ _ (fun x hx=>.inl ⟨rfl,hx⟩) (fun _ _=>rfl) hro⟩
     .have e:¬ m=s.st.length:=by omega
      simp only[e,aL] at hb;rcases uY g2 hrow hoff k c hk with ⟨rfl,rfl⟩ | ⟨hne,hk'⟩
      .simp[HY] at hc
      .obtain⟨v,hv,hro⟩:=f1 m ob b2 k c hl hlive hb hk' hc;exact⟨v,hv,RdO.mono (fun _ _ h=>h) (fun _ _ _=>rfl) c v _ _ (fun x hx=>.inr ⟨hl',fun hh=>hne hh.2,hx⟩) (fun _ _=>rfl) hro⟩
     .have e:¬ m=s.st.length:=by omega
      simp only[e,aL] at hb;obtain⟨v,hv,hro⟩:=f1 m o2 b2 k c h3 hlv hb hk hc;exact⟨v,hv,RdO.mono (fun _ _ h=>h) (fun _ _ _=>rfl) c v _ _ (fun x hx=>.inr ⟨hl',fun hh=>hne hh.1,hx⟩) (fun _ _=>rfl) hro⟩
    .have hfr2:∀ x,PX w0 (fun _=>False) w St s.st β x->nb≠some x->PX w0 (fun _=>False) w St (CV s.st l i off ob row ty sz xs) (fun m=>if m=s.st.length then nb else β m) x:=by
      intro x hx hnb;refine⟨hx.1,fun h=>h,hx.2.2.1,hx.2.2.2.1,fun m o2 h2 hlv=>?_⟩;rcases hl2 m o2 h2 with ⟨rfl,rfl⟩ | ⟨rfl,hl',rfl⟩ | ⟨hne,hl',h3⟩
      .grind
      .have e:¬ m=s.st.length:=by omega
       simp only[e,aL];exact hx.2.2.2.2 m ob hl hlive
      .have e:¬ m=s.st.length:=by omega
       simp only[e,aL];exact hx.2.2.2.2 m o2 h3 hlv
     rintro m k x (⟨rfl,hx⟩ | ⟨hm,hne,hx⟩)
     .obtain⟨q1,q2⟩:=n1 k x hx;cases hnb:nb with
      | none =>
       grind
      | some b' =>
       refine⟨⟨⟨ty,sz,xs,true,true⟩,b',AOo,rfl,by simp[hnb]⟩, ?_⟩
       have:=hfr2 x (hfree x q1) q2
       rwa [hnb] at this
     grind
    grind }
def same (st:List Ob):Option AV->Option (AV×List Ob)
 | some y=>some (y,st)
 | none=>none
def oU (st:List Ob):List AV->Option (List (List Cl)×List Ob)
 | []=>some ([],st)
 | .ip row::r=>match oU st r with
  | some (xs,st')=>some (row::xs,st')
  | none=>none
 | .lp l i off::r=>match DF st l with
  | some ob=>if GL ob.xs=true then match ob.xs[i]? with
   | some row=>match oU (Qw st l) r with
    | some (xs,st')=>some (row.drop off::xs,st')
    | none=>none
   | none=>none
   else none
  | none=>none
 | _::_=>none
theorem KJ (h:Core w0 St0 St β s a w):∀ (xs:List Operand),xs.all Ap=true->AVRs w St s.st β (xs.map (Eo s)) (xs.map a.eval)
 | [],_=>by simp[AVRs]
 | x::xs,hc=>by simp only[aI,ar] at hc;simp only[ao,AVRs];exact⟨_,_,rfl,CU h x hc.1,KJ h xs hc.2⟩
theorem oV:∀ (cs:List AV) (vs:List Value) (st st':List Ob) (xs:List (List Cl)) (St:Nat->Nat->Prop),Core w0 St0 St β ⟨s.n,s.env,st⟩ a w->AVRs w St st β cs vs->oU st cs=some (xs,st') ->
  ∃ St',Core w0 St0 St' β ⟨s.n,s.env,st'⟩ a w/\(∀ b o,St b o->St' b o)/\vs.length=xs.length/\∀ (k:Nat) (c:List Cl),xs[k]?=some c->∃ b off,vs[k]?=some (.pointer (some ⟨b,off,none⟩))/\RdL w St' c b off
 | [],vs,st,st',xs,St,h,hv,hx=>by simp only[oU,ai,bb] at hx;obtain⟨rfl,rfl⟩:=hx;simp only[AVRs] at hv;subst hv;exact⟨St,h,fun _ _ h=>h,rfl,fun k c hk=>APZ⟩
 | c::cs,vs,st,st',xs,St,h,hv,hx=>by
  simp only[AVRs] at hv;obtain⟨v,vs,rfl,h1,h2⟩:=hv;cases c with
  | ip row =>
   simp only[oU] at hx
   split at hx
   .rename_i ys st1 hy
    simp only[ai,bb] at hx
    obtain⟨rfl,rfl⟩:=hx
    obtain⟨St',q1,q2,q3,q4⟩:=oV cs vs st st1 ys St h h2 hy
    simp only[AVR] at h1
    grind [ab,ai,RdL.mono]
   .cases hx
  | lp l i off =>
   simp only[oU] at hx
   split at hx
   .rename_i ob hob
    split at hx
    .rename_i hp
     split at hx
     .rename_i row hrow
      split at hx
      .rename_i ys st1 hy
       simp only[ai,bb] at hx
       obtain⟨rfl,rfl⟩:=hx
       obtain⟨St1,f1,f2,_,f4⟩:=h.freeze l hob hp
       obtain⟨hl,hlive⟩:=Bo hob
       simp only[AVR,hl] at h1
       obtain⟨b,hβ,rfl⟩:=h1 hlive
       have h2':AVRs w St1 (Qw st l) β cs vs:=AVRs.mono f2 (fun _ _ _=>rfl) (fun l' u hu=>(XX l' u).2 hu) (Un fun l' ob' hl'=>uP hl') cs vs h2
       obtain⟨St',q1,q2,q3,q4⟩:=oV cs vs (Qw st l) st1 ys St1 f1 h2' hy
       obtain⟨g1,g2⟩:=f4 b hβ
       have hr:RdL w St1 (row.drop off) b (i*ob.sz+off):=by have:=(g2.at ob.sz g1 i row hrow).drop off;simpa using this
       grind [ab,ai,RdL.mono]
      .cases hx
     .cases hx
    .cases hx
   .cases hx
  | _=>simp[oU] at hx
def XA (P:Program) (s:MS) (o:Op):Option (AV×List Ob):=match o with
 | .alloc T=>QP P s T
 | .box T x=>ADW s T (Eo s x)
 | .store T p x=>dG P s T (Eo s p) (Eo s x)
 | .makeSlice T l c=>uN P s T (Eo s l) (Eo s c)
 | .buildSlice T len ps=>MF P s T len ps.toList
 | .build T ps=>if EG P T then Um P s T ps.toList else none
 | .slice T x lo hi none=>Uo P s T (Eo s x) lo hi
 | .load T x=>match I4 P s (.load T x) with
  | some y=>some (y,s.st)
  | none=>AAZ P s T (Eo s x)
 | .makeFunc (.func f) first caps=>if first.toList.isEmpty=true then match oU s.st (caps.toList.map (Eo s)) with
  | some (xs,st')=>some (.clo f xs,st')
  | none=>none
  else none
 | .call c=>match c.callee with
  | .builtin .append=>match c.args.toList,c.argTypes.toList with
   | [x,y],[T,T']=>if T=T' then yP P s T (Eo s x) (Eo s y) else yQ P s T T' (Eo s x) (Eo s y)
   | _,_=>none
  | _=>same s.st (I4 P s (.call c))
 | op=>same s.st (I4 P s op)
theorem AFY {st st':List Ob} {x:Option AV} {y:AV} (h:same st x=some (y,st')):x=some y/\st'=st:=by
 cases x with
 | none=>simp[same] at h
 | some z=>simp only[same,ai,bb] at h; grind
theorem O9 (h:Core w0 St0 St β s a w) {o:Oper} {y:AV} (hg:Gives P a w St s.st β o y):Does P a w w0 St0 s o y s.st:=by obtain⟨v,h1,h2⟩:=hg;exact⟨_,v,w,St,β,h1,.inl rfl,h,h2⟩
theorem ADn (h:Core w0 St0 St β s a w) (o:Oper) (T:TypeId) (x:Operand) (ho:o.op = .load T x) (hc:Ap x=true) {y:AV} {st':List Ob} (hy:AAZ P s T (Eo s x)=some (y,st')):Does P a w w0 St0 s o y st':=by
 have he:=CU h x hc;unfold AAZ at hy;split at hy
 .rename_i l i off hg hev;split at hy
  .rename_i ob hob;split at hy
   .rename_i hwr;split at hy
    .rename_i row hrow;split at hy
     .rename_i ty sz xs hcell;simp only[ai,bb] at hy;obtain⟨rfl,rfl⟩:=hy;obtain⟨b,u,β',hb,hu,hcore,href⟩:=h.openCell hob hwr hrow hcell;rw[hev] at he;obtain⟨hl,hlive⟩:=Bo hob;simp only[AVR,hl] at he;obtain⟨b2,hb2,hv⟩:=he hlive;rw[hb] at hb2;cases hb2;refine⟨.value u,u,w,St,β', ?_,.inl rfl,hcore,by simpa only[AVR] using href⟩;simp[execOp,ho,hv,Instr.loadAt,Instr.sureAddr,loadVar,Vb hg,hu]
     .cases hy
    .cases hy
   .cases hy
  .cases hy
 .cases hy
theorem yR (h:Core w0 St0 St β s a w) (o:Oper) (hc:o.op.operands.toList.all Ap=true) {y:AV} {st':List Ob} (hy:XA P s o.op=some (y,st')):Does P a w w0 St0 s o y st':=by
 have hF:∀ {y:AV} {st':List Ob},same s.st (I4 P s o.op)=some (y,st')->Does P a w w0 St0 s o y st':=fun {y st'} hs=>by obtain⟨h1,rfl⟩:=AFY hs;grind [O9,n_]
 cases hop:o.op with
 | alloc T=>rw[hop] at hy; exact ADX h o T hop hy
 | load T x =>
  rw[hop] at hy hc
  simp only[XA] at hy
  split at hy
  .grind [ai,bb,O9,n_]
  .exact ADn h o T x hop AO_ hy
 | box T x =>
  rw[hop] at hy hc
  exact AHI h o T x hop AO_ hy
 | makeFunc fn first caps =>
  rw[hop] at hy hc
  cases fn with
  | func f =>
   simp only[XA] at hy
   split at hy
   .rename_i hfe
    split at hy
    .rename_i xs st1 hx
     simp only[ai,bb] at hy
     obtain⟨rfl,rfl⟩:=hy
     have hcc:caps.toList.all Ap=true:=by simp only[Op.operands,aaQ,jr,ar] at hc;exact hc.2
     obtain⟨St',q1,q2,q3,q4⟩:=oV _ _ s.st _ xs St h (KJ h caps.toList hcc) hx
     have hf0:first = #[]:=by apply abm;simpa using hfe
     have e:caps.map a.eval=(caps.toList.map a.eval).toArray:=APi
     refine⟨.value (.func (.func f) #[] (caps.map a.eval)),.func (.func f) #[] (caps.map a.eval),w,St',β,by simp[execOp,hop,hf0,Instr.makeFunc],.inl rfl,q1, ?_⟩
     simp only[AVR]
     grind
    .cases hy
   .cases hy
  | _=>simp[XA,I4,same] at hy
 | store T p x =>
  rw[hop] at hy hc
  simp[Op.operands] at hc
  exact ADZ h o T p x hop hc.1 hc.2 hy
 | makeSlice T l c =>
  rw[hop] at hy hc
  simp[Op.operands] at hc
  exact AFL h o T l c hop hc.1 hc.2 hy
 | buildSlice T len ps =>
  rw[hop] at hy hc
  exact jC h o T len ps hop (by simpa [Op.operands,Function.comp_def] using hc) hy
 | build T ps =>
  rw[hop] at hy hc
  simp only[XA] at hy
  split at hy
  .rename_i hfo
   exact ADa h o T ps hop hfo (by simpa [Op.operands,Function.comp_def] using hc) hy
  .cases hy
 | slice T x lo hi mx =>
  cases mx with
  | none =>
   rw[hop] at hy hc
   simp[Op.operands] at hc
   refine ADi h o T x lo hi hop hc.1 ?_ ?_ hy
   .cases lo with
    | none=>rfl
    | some q=>exact hc.2.1 q rfl
   .cases hi with
    | none=>rfl
    | some q=>exact hc.2.2 q rfl
  | some m=>rw[hop] at hy; simp[XA,I4,same] at hy
 | call c =>
  by_cases hap:c.callee = .builtin .append
  .rw[hop] at hy hc
   simp only[XA,hap] at hy
   split at hy
   .rename_i x y2 T T' hca hct
    split at hy
    .rename_i hT
     subst hT
     simp only[Op.operands,Call.operands,aaQ,jr,ar,hca] at hc
     grind [AFV]
    .simp only[Op.operands,Call.operands,aaQ,jr,ar,hca] at hc
     grind [AFX]
   .cases hy
  .rw[hop] at hy
   have:XA P s (.call c)=same s.st (I4 P s (.call c)):=by simp only[XA]
   grind
 | _=>exact hF (by rw[hop] at hy ⊢; exact hy)
theorem Nr (o:Oper) (c:Call) (f:FuncId) (ho:o.op = .call c) (hcl:c.callee = .value (.func f)) (hin:CallsIn P f):(execOp a.eval o).run P w = .ok (.enter f (c.args.map a.eval)) w:=by have:=hin (c.args.map a.eval) w;simp[execOp,ho,resolve,hcl,Act.eval,Deferred.ofValue,invoke,this]
theorem AAa (o:Oper) (c:Call) (f:FuncId) (x:Operand) (caps:Array Value) (ho:o.op = .call c) (hcl:c.callee = .value x) (hx:a.eval x = .func (.func f) #[] caps) (hin:CallsIn P f):(execOp a.eval o).run P w = .ok (.enter f (c.args.map a.eval++caps)) w:=by have:=hin (c.args.map a.eval++caps) w;simp[execOp,ho,resolve,hcl,hx,Deferred.ofValue,invoke,this]
theorem TQ (h:Core w0 St0 St β s a w) {rs:List Res} {e:Ending} {w':World} {us:List Value} {bs:List (Option Nat)} {St':Nat->Nat->Prop} (hb:Back w St rs e w' us bs St'):Core w0 St0 St' β s a w':=
 h.grow hb.below hb.st hb.stOld hb.stIn
theorem ADo (h:Core w0 St0 St β s a w) {rs:List Res} {e:Ending} {w':World} {us:List Value} {bs:List (Option Nat)} {St':Nat->Nat->Prop} (hb:Back w St rs e w' us bs St'):Own w0 (fun x=>w.heap.size<=x) w' St' s.st β:=
 h.own.grow hb.below hb.st hb.stOld h.stIn (fun l ob b h1 h2 h3=>(h.obs l ob b h1 h2 h3).2.1) (fun x h1 h2=>AOl)
theorem ResR.blk {w w':World} {St':Nat->Nat->Prop}:∀ (rs:List Res) (us:List Value) (bs:List (Option Nat)) (Φs:List (Nat->Nat->Prop)),ResR w' St' w.heap.size rs us bs Φs->∀ (i b:Nat),bs[i]?=some (some b)->w.heap.size<=b:=by
 intro rs;induction rs with
 | nil=>intro us bs Φs h i b hi; obtain⟨_,rfl,_⟩:=h; simp at hi
 | cons r rs ih =>
  intro us bs Φs h i b hi
  obtain⟨u,us',b0,bs',Φ,Φs',rfl,rfl,rfl,h1,h2⟩:=h
  cases i with
  | succ i=>grind
  | zero =>
   simp only[ab,ai] at hi
   subst hi
   cases r with
   | val x=>exact absurd h1.2 AOm
   | own ty sz xs wr=>exact h1.1
   | agg cl=>exact absurd h1.1 AOm
theorem Rj (h:Core w0 St0 St β s a w) {rs:List Res} {e:Ending} {w':World} {us:List Value} {bs:List (Option Nat)} {St':Nat->Nat->Prop} (hb:Back w St rs e w' us bs St') :
  ∃ β',Core w0 St0 St' β' ⟨s.n,s.env,(JE s.st rs).2⟩ a w'/\AVRs w' St' (JE s.st rs).2 β' (JE s.st rs).1 us:=by
 obtain⟨Φs,hr,hf⟩:=hb.res
 have hfr:∀ x,w.heap.size<=x->∀ l o2,s.st[l]?=some o2->o2.live=true->β l≠some x:=fun x hx l o2 hl hlv hβ=>by have:=(h.obs l o2 x hl hlv hβ).2.1;omega
 obtain⟨β',q1,q2,_⟩:=ZZ w.heap.size rs us bs Φs s.st β (fun x=>w.heap.size<=x) (TQ h hb) h.below.size (ADo h hb) hr hf
  (fun i b hi=>⟨ResR.blk rs us bs Φs hr i b hi,hfr b (ResR.blk rs us bs Φs hr i b hi)⟩) (fun i Φ k x hi hx=>⟨(hf.fresh i Φ k x hi hx).1,hfr x (hf.fresh i Φ k x hi hx).1⟩)
 grind
def InlS (P:Program) (f:FuncId) (st:List Ob) (args:List AV) (y:AV) (st':List Ob):Prop:=CallsIn P f/\∀ (w0:Bs) (St0 St:Nat->Nat->Prop) (β:Nat->Option Nat) (s:MS) (a:Act) (w:World) (us:List Value),s.st=st->Core w0 St0 St β s a w->AVRs w St st β args us ->
 Calls P f us.toArray w fun e w'=>∃ u,e = .returned u/\∃ St' β',Core w0 St0 St' β' ⟨s.n,s.env,st'⟩ a w'/\AVR w' St' st' β' y u
def C9 (P:Program) (s:MS) (o:Op) (r:AV):Prop:=match o with
 | .call c=>match c.callee with
  | .value (.func f)=>(∃ args rs,(Xb s.st (c.args.toList.map (Eo s))=some (args,s.st)\/(UH s.st (c.args.toList.map (Eo s))=some args/\rs.all EH=true))/\Ctr P f args rs/\r=retA (Xe rs))\/InlS P f s.st (c.args.toList.map (Eo s)) r s.st
  | .value (.tmp t)=>match unpin (CG s.env t) with
   | .clo f xs=>∃ args rs,Xb s.st (c.args.toList.map (Eo s))=some (args,s.st)/\Ctr P f (args++xs.map AV.ip) rs/\r=retA (Xe rs)
   | _=>False
  | .builtin .append=>False
  | _=>I4 P s (.call c)=some r
 | .build T ps=>EG P T=true/\Um P s T ps.toList=some (r,s.st)
 | .slice T x lo hi none=>Uo P s T (Eo s x) lo hi=some (r,s.st)
 | op=>I4 P s op=some r
theorem Xg (h:Core w0 St0 St β s a w) (o:Oper) (hc:o.op.operands.toList.all Ap=true) {r:AV} (hr:C9 P s o.op r) (Q:Exit->Act->World->Prop) :
  o.wp P a w (fun a' w'=>Sim w0 St0 (s.put o.dst r) a' w') Q:=by
 have hD:∀ {r:AV},Does P a w w0 St0 s o r s.st->o.wp P a w (fun a' w'=>Sim w0 St0 (s.put o.dst r) a' w') Q:=fun {r} hd=>by
  obtain⟨nx,v,w',St',β',h1,h2,h3,h4⟩:=hd;unfold Oper.wp;rw[h1];rcases h2 with rfl | ⟨rfl,rfl⟩
  .exact⟨St',β',h3.put o.dst h4⟩
  .exact⟨St',β',h3.put o.dst h4⟩
 have hF:∀ {r:AV},I4 P s o.op=some r->o.wp P a w (fun a' w'=>Sim w0 St0 (s.put o.dst r) a' w') Q:=fun {r} hs=>hD (O9 h (n_ h o hc hs))
 cases hop:o.op with
 | call c =>
  rw[hop] at hr
  simp only[C9] at hr
  split at hr
  .rename_i f hcl
   have hca:c.args.toList.all Ap=true:=by rw[hop] at hc;exact ALS
   rcases hr with hr | ⟨hin,hr⟩
   rotate_left
   .have hcall:=hr w0 St0 St β s a w _ rfl h (KJ h c.args.toList hca)
    have ea:(c.args.toList.map a.eval).toArray=c.args.map a.eval:=APi
    rw[ea] at hcall
    unfold Oper.wp
    rw[Nr o c f hop hcl hin]
    simp only[Oper.upon]
    refine hcall.mono fun e w' hb=>?_
    obtain⟨u,rfl,St',β',h1,h2⟩:=hb
    exact⟨St',β',h1.put o.dst h2⟩
   obtain⟨args,rs,hf,hspec,rfl⟩:=hr
   rcases hf with hf | hf
   .obtain⟨St1,q1,q2,q3⟩:=Vg _ _ _ _ St h hf
    have hargs:=q3 _ (KJ h c.args.toList hca)
    unfold Oper.wp
    rw[Nr o c f hop hcl hspec.1]
    simp only[Oper.upon]
    have hcall:=hspec.2 w St1 (c.args.toList.map a.eval) q1.stIn hargs
    have ea:(c.args.toList.map a.eval).toArray=c.args.map a.eval:=APi
    rw[ea] at hcall
    refine hcall.mono fun e w' hb=>?_
    obtain⟨us,bs,St2,hb⟩:=hb
    obtain⟨bs3,St3,hb3⟩:=Vj hb
    have k1:=TQ q1 hb3
    exact AH8
   .obtain⟨φ,hφ⟩:=h.own
    have hargs:=dL h hφ hf.1 (KJ h c.args.toList hca)
    unfold Oper.wp
    rw[Nr o c f hop hcl hspec.1]
    simp only[Oper.upon]
    have hcall:=hspec.2 w _ (c.args.toList.map a.eval) (fun b o hb=>AllSt.lt h hφ hb) hargs
    have ea:(c.args.toList.map a.eval).toArray=c.args.map a.eval:=APi
    rw[ea] at hcall
    refine hcall.mono fun e w' hb=>?_
    obtain⟨us,bs,St2,hb⟩:=hb
    have hb:=hb.clo hf.2 h.stIn
    obtain⟨bs3,St3,hb3⟩:=Vj hb
    have k1:=TQ h hb3
    exact AH8
  .rename_i t hcl
   split at hr
   .rename_i f xs hev
    obtain⟨args,rs,hf,hspec,rfl⟩:=hr
    have hca:c.args.toList.all Ap=true:=by rw[hop] at hc;exact ALS
    obtain⟨St1,q1,q2,q3⟩:=Vg _ _ _ _ St h hf
    have hargs:=q3 _ (KJ h c.args.toList hca)
    have he:AVR w St s.st β (unpin (CG s.env t)) (a.eval (.tmp t)):=CU h (.tmp t) (aC.1 hc _ (by rw[hop]; simp[Op.operands,Call.operands,hcl]))
    rw[hev] at he
    simp only[AVR] at he
    obtain⟨us0,hu0,hul,hur⟩:=he
    have hcap:RdAs w St1 (xs.map AV.ip) us0:=Xc hul fun k c hk=>by grind [RdL.mono]
    unfold Oper.wp
    rw[AAa o c f (.tmp t) us0.toArray hop hcl hu0 hspec.1]
    simp only[Oper.upon]
    have hcall:=hspec.2 w St1 (c.args.toList.map a.eval++us0) q1.stIn (dJ hargs hcap)
    have ea:(c.args.toList.map a.eval++us0).toArray=c.args.map a.eval++us0.toArray:=APi
    rw[ea] at hcall
    refine hcall.mono fun e w' hb=>?_
    obtain⟨us,bs,St2,hb⟩:=hb
    obtain⟨bs3,St3,hb3⟩:=Vj hb
    have k1:=TQ q1 hb3
    exact AH8
   grind
  .exact hr.elim
  grind
 | build T ps =>
  rw[hop] at hr
  refine hD (yR h o hc ?_)
  rw[hop]
  simp only[C9] at hr
  simp only[XA,hr.1,aO]
  exact hr.2
 | slice T x lo hi mx =>
  rw[hop] at hr
  cases mx with
  | none =>
   refine hD (yR h o hc ?_)
   rw[hop]
   exact hr
  | some m=>simp only[C9,I4] at hr; cases hr
 | _=>exact hF (by rw[hop] at hr ⊢; exact hr)
theorem kH {s s':MS} {x:Operand} (h:∀ t,x = .tmp t->CG s'.env t=CG s.env t):Eo s' x=Eo s x:=by
 cases x with
 | tmp t=>exact congrArg unpin (h t rfl)
 | _=>rfl
theorem QQ {s s':MS} (hst:s'.st=s.st) (o:Op) (h:∀ t,.tmp t∈o.operands.toList->CG s'.env t=CG s.env t) (r:AV) (hr:C9 P s o r):C9 P s' o r:=by
 have he:∀ x,x∈o.operands.toList->Eo s' x=Eo s x:=fun x hx=>kH fun t ht=>h t AOo;cases o with
 | call c =>
  have hargs:∀ x∈c.args.toList,Eo s' x=Eo s x:=fun x hx=>he x (by
   simp only[Op.operands,Call.operands,aaQ,yF];exact .inr hx)
  have hmap:c.args.toList.map (Eo s')=c.args.toList.map (Eo s):=aaP hargs
  simp only[C9] at hr ⊢
  split at hr
  .grind
  .rename_i t hcl
   have ht:CG s'.env t=CG s.env t:=h t (by simp[Op.operands,Call.operands,hcl])
   grind
  .exact hr
  .simp only[I4] at hr ⊢
   grind
 | build T ps =>
  have hps:∀ p∈ps.toList,Eo s' p.2=Eo s p.2:=fun p hp=>he p.2 (by
   simp only[Op.operands];grind)
  have key:∀ (l:List (Nat×Operand)),(∀ p∈l,Eo s' p.2=Eo s p.2)->I5 s' l=I5 s l:=by exact AMc
  simp only[C9,Um,key _ hps,hst] at hr ⊢
  exact hr
 | slice T x lo hi mx =>
  cases mx with
  | none =>
   have h1:Eo s' x=Eo s x:=he x AOv
   have h2:∀ d,I7 s' lo d=I7 s lo d:=fun d=>by
    cases lo with
    | none=>rfl
    | some q=>simp only[I7]; rw[he q AOv]
   have h3:∀ d,I7 s' hi d=I7 s hi d:=fun d=>by
    cases hi with
    | none=>rfl
    | some q=>simp only[I7]; rw[he q AOv]
   simp only[C9,Uo,vwE,h1,h2,h3,hst] at hr ⊢
   exact hr
  | some m=>simp only[C9,I4] at hr; cases hr
 | move x=>simp only[C9,I4] at hr ⊢; rw[he x AOv]; exact hr
 | assign x=>simp only[C9,I4] at hr ⊢; rw[he x AOv]; exact hr
 | pick c x y=>simp only[C9,I4] at hr ⊢; rw[he c AOv,he x AOv,he y AOv]; exact hr
 | load T x=>simp only[C9,I4] at hr ⊢; rw[he x AOv,hst]; exact hr
 | nilCheck x=>simp only[C9,I4] at hr ⊢; rw[he x AOv,hst]; exact hr
 | binOp op T x y T2=>simp only[C9,I4] at hr ⊢; rw[he x AOv,he y AOv]; exact hr
 | unOp op T x=>simp only[C9,I4] at hr ⊢; rw[he x AOv]; exact hr
 | convert a b x=>simp only[C9,I4] at hr ⊢; rw[he x AOv,hst]; exact hr
 | fieldAddr T x f=>simp only[C9,I4] at hr ⊢; rw[he x AOv,hst]; exact hr
 | field T x f=>simp only[C9,I4] at hr ⊢; rw[he x AOv]; exact hr
 | indexAddr T x y=>simp only[C9,I4] at hr ⊢; rw[he x AOv,he y AOv,hst]; exact hr
 | index T x y=>simp only[C9,I4] at hr ⊢; rw[he x AOv,he y AOv]; exact hr
 | extract x i=>simp only[C9,I4] at hr ⊢; rw[he x AOv]; exact hr
 | _=>simp only[C9,I4] at hr; cases hr
def oW (ops:Array Oper) (env:List (Nat×AV)) (g:Option (Nat×Bool)):Option Bool:=match g with
 | none=>some true
 | some (j,want)=>match (ops[j]?).bind (·.dst) with
  | some d=>match (if d<1000000 then CG env d else .un) with
   | .c (.v (.bool t))=>some (t==want)
   | .undef=>some false
   | _=>none
  | none=>some false
theorem oZ (h:Core w0 St0 St β s a w) {ops:Array Oper} {o:Oper} {b:Bool} (hg:oW ops s.env o.guard=some b):Region.wanted o (yielded ops a.tmps)=b:=by
 unfold oW at hg;unfold Region.wanted;split at hg
 .grind
 .rename_i j want hn;simp only[hn];unfold yielded;split at hg
  .rename_i d hd;rw[hd]
   have henv:AVR w St s.st β (if d<1000000 then CG s.env d else .un) (a.tmps.getD d undef):=by
    split
    .have:=h.env d;rwa [Va ‹_›] at this
    .simp only[AVR]
   split at hg
   .rename_i t hev;simp only[ai] at hg;subst hg;rw[hev] at henv;obtain⟨hv,_⟩:=O8 henv
    have hlt:d<a.tmps.size:=by
     rcases bh d a.tmps.size with h' | h'
     .exact h'
     .simp[h',undef] at hv
    simp_all
   .rename_i hev;simp only[ai] at hg;subst hg;rw[hev] at henv;simp only[AVR] at henv;simp only[abv];cases hq:a.tmps[d]? with
    | none=>simp
    | some v =>
     have:v=undef:=by simpa [hq] using henv
     subst this
     simp[undef]
   .cases hg
  grind
def CondK (b:Bool) (x y:Prop):Prop:=(b=true->x)/\(b=false->y)
theorem LV {x y:Prop}:CondK true x y=x:=by simp[CondK]
theorem Jw {x y:Prop}:CondK false x y=y:=by simp[CondK]
theorem AEW {b:Bool} {x y:Prop} (h1:b=true->x) (h2:b=false->y):CondK b x y:=⟨h1,h2⟩
def UI (x:Option (AV×List Ob)) (K:AV->List Ob->Prop):Prop:=match x with
 | some (y,st)=>K y st
 | none=>False
def uZ (x:Option (List AV×List Ob)) (K:List AV->List Ob->Prop):Prop:=match x with
 | some (y,st)=>K y st
 | none=>False
def UJ (x:Option Bool) (K:Bool->Prop):Prop:=match x with
 | some b=>K b
 | none=>False
def AAb (x:AV) (K:Bool->Prop):Prop:=match x with
 | .c (.v (.bool b))=>K b
 | _=>False
theorem yS {y:AV} {st:List Ob} {K:AV->List Ob->Prop}:UI (some (y,st)) K=K y st:=rfl
theorem yT {y:List AV} {st:List Ob} {K:List AV->List Ob->Prop}:uZ (some (y,st)) K=K y st:=rfl
theorem yU {b:Bool} {K:Bool->Prop}:UJ (some b) K=K b:=rfl
theorem yV {b:Bool} {K:Bool->Prop}:AAb (.c (.v (.bool b))) K=K b:=rfl
def DrK (P:Program) (s:MS) (o:Op) (K:AV->Prop):Prop:=∃ r,C9 P s o r/\K r
def uf (s:MS) (dst:Option Nat) (K:MS->Prop) (r:AV):Prop:=K (s.put dst r)
def gD (P:Program) (o:Oper) (K:MS->Prop) (s:MS) (b:Bool):Prop:=CondK b (DrK P s o.op (uf s o.dst K)) (K (s.put o.dst .undef))
theorem AFZ {P:Program} {o:Oper} {K:MS->Prop} {s:MS}:gD P o K s true=DrK P s o.op (uf s o.dst K):=LV
theorem ADp {P:Program} {o:Oper} {K:MS->Prop} {s:MS}:gD P o K s false=K (s.put o.dst .undef):=Jw
theorem gD.mk {P:Program} {o:Oper} {K:MS->Prop} {s:MS} {b:Bool} (h1:b=true->DrK P s o.op (uf s o.dst K)) (h2:b=false->K (s.put o.dst .undef)):gD P o K s b:=AEW h1 h2
def vpD (P:Program) (ops:Array Oper) (K:MS->Prop):List Oper->MS->Prop
 | [],s=>K s
 | o::rest,s=>UJ (oW ops s.env o.guard) (gD P o (vpD P ops K rest) s)
def Bj (o:Oper) (i:Nat):Bool:=o.after.any fun e=>e.on==i&&Region.binds .any e
def Rk (ops:Array Oper) (o:Oper):List Nat:=
 (o.op.operands.toList.filterMap fun x=>match x with | .tmp t=>some t | _=>none)++(match o.guard with | some (j,_)=>((ops[j]?).bind (·.dst)).toList | none=>[])
def Vt (ops:Array Oper) (i j:Nat):Bool:=match ops[i]?,ops[j]? with
 | some oi,some oj=>match oi.dst with
  | some d=>(i==j||oj.dst != some d)&&(i==j || !(Rk ops oj).contains d||(if i<j then Bj oj i else Bj oi j))
  | none=>true
 | _,_=>true
def FY (n:Nat) (ops:Array Oper):Bool:=
 ((List.range ops.size).all fun i=>(List.range ops.size).all fun j=>Vt ops i j) &&
 ((List.range ops.size).all fun i=>match ops[i]? with | some o=>(o.after.all fun e=>!Region.binds .any e||e.on<i)&&(match o.dst with | some d=>d<n | none=>true) | none=>true)
theorem Core.congr (h:Core w0 St0 St β s a w) {s':MS} (hn:s'.n=s.n) (hst:s'.st=s.st) (he:∀ t,CG s'.env t=CG s.env t):Core w0 St0 St β s' a w:={
 defers:=h.defers
 size:=by rw[hn]; exact h.size
 lim:=by rw[hn]; exact h.lim
 env:=fun i=>by rw[he,hst]; exact h.env i
 below:=h.below,st0:=h.st0,stOld:=h.stOld,stIn:=h.stIn
 obs:=by rw[hst]; exact h.obs
 nil:=by rw[hst]; exact h.nil
 inj:=by rw[hst]; exact h.inj
 sep:=by rw[hst]; exact h.sep
 own:=by rw[hst]; exact h.own }
section draw
variable (ops:Array Oper) (R:Nat->AV)
def B_ (env:List (Nat×AV)) (X:Nat->Bool):Nat->List (Nat×AV)
 | 0=>env
 | k+1=>match (ops[k]?).bind (·.dst) with
  | some d=>if X k then(d,R k)::B_ env X k else B_ env X k
  | none=>B_ env X k
variable {ops R}
theorem F7 {env:List (Nat×AV)} {X:Nat->Bool} (hd:∀ (i j d:Nat),(ops[i]?).bind (·.dst)=some d->(ops[j]?).bind (·.dst)=some d->i=j) {i d:Nat} (hi:(ops[i]?).bind (·.dst)=some d) (hX:X i=true) :
  ∀ k,i<k->CG (B_ ops R env X k) d=R i
 | 0,h=>AOl
 | k+1,h=>by
  simp only[B_];rcases bh i k with h' | h'
  .have ih:=F7 (env:=env) (X:=X) hd hi hX k h';split
   .rename_i d' hk;split
    .simp only[CG];by_cases e:d'=d
     .subst e;have:=hd i k d' hi hk;omega
     .simp only[e,aL]; exact ih
    .exact ih
   .exact ih
  .have:i=k:=by omega
   subst this;simp only[hi,hX,aO,CG]
theorem Bg {env:List (Nat×AV)} {X:Nat->Bool} {d:Nat}:∀ k,(∀ (i:Nat),i<k->(ops[i]?).bind (·.dst)=some d->X i=false)->CG (B_ ops R env X k) d=CG env d
 | 0,_=>rfl
 | k+1,hm=>by
  have ih:=Bg (env:=env) (X:=X) k (fun i hi=>hm i AOl);simp only[B_];split
  .rename_i d' hk;split
   .rename_i hx;simp only[CG];by_cases e:d'=d
    .subst e;have:=hm k AOl hk;rw[hx] at this; cases this
    .simp only[e,aL]; exact ih
   .exact ih
  .exact ih
end draw
theorem YZ {n:Nat} {ops:Array Oper} (h:FY n ops=true) {i j:Nat} (hi:i<ops.size) (hj:j<ops.size):Vt ops i j=true:=by simp only[FY,ar] at h;grind
theorem dO {n:Nat} {ops:Array Oper} (h:FY n ops=true):∀ (i j d:Nat),(ops[i]?).bind (·.dst)=some d->(ops[j]?).bind (·.dst)=some d->i=j:=by
 intro i j d hi hj;cases hoi:ops[i]? with
 | none=>grind
 | some oi =>
  cases hoj:ops[j]? with
  | none=>grind
  | some oj =>
   simp only[hoi,hoj,abv] at hi hj
   have:=YZ h (bd.1 hoi).1 (bd.1 hoj).1
   simp only[Vt,hoi,hoj,hi,ar,aaN,qX,bne_iff_ne] at this
   grind
theorem Oh {n:Nat} {ops:Array Oper} (h:FY n ops=true) {i j d:Nat} {oi oj:Oper} (hoi:ops[i]?=some oi) (hoj:ops[j]?=some oj) (hd:oi.dst=some d) (hr:d∈Rk ops oj) (hne:i≠j) :
  (i<j->Bj oj i=true)/\(j<i->Bj oi j=true):=by
 have:=YZ h (bd.1 hoi).1 (bd.1 hoj).1
 simp only[Vt,hoi,hoj,hd,ar,aaN,qX,bne_iff_ne] at this
 grind
theorem Gs {n:Nat} {ops:Array Oper} (h:FY n ops=true) {i:Nat} {o:Oper} (ho:ops[i]?=some o):(∀ e∈o.after,Region.binds .any e=true->e.on<i)/\∀ d,o.dst=some d->d<n:=by simp only[FY,ar] at h;grind [aC,bd,Array.all_eq_true']
theorem Dp {o:Oper} {i:Nat} {listed:Array Bool} (h:Bj o i=true) (hall:∀ e∈o.after,Region.binds .any e=true->listed.getD e.on false=true):listed.getD i false=true:=by unfold Bj at h;grind
theorem dP {n:Nat} {ops:Array Oper} {K:MS->Prop} (hok:FY n ops=true) (hn:s.n=n):∀ (l:List Oper) (k:Nat) (R0:Nat->AV),(∀ j,l[j]?=ops[k+j]?)->k+l.length=ops.size ->
  vpD P ops K l ⟨s.n,B_ ops R0 s.env (fun i=>decide (i<k)) k,s.st⟩ ->
  ∃ R:Nat->AV,(∀ i,i<k->R i=R0 i)/\K ⟨s.n,B_ ops R s.env (fun _=>true) ops.size,s.st⟩ /\
   ∀ (i:Nat) (o:Oper),k<=i->ops[i]?=some o->∃ b,oW ops (B_ ops R s.env (fun _=>true) i) o.guard=some b/\(b=true->C9 P ⟨s.n,B_ ops R s.env (fun _=>true) i,s.st⟩ o.op (R i))/\(b=false->R i = .undef)
 | [],k,R0,hl,hk,h=>by
  simp only[aj,abC] at hk;simp only[vpD] at h;refine⟨R0,fun _ _=>rfl, ?_,fun i o hi ho=>?_⟩
  .have key:∀ m,m<=k->B_ ops R0 s.env (fun i=>decide (i<k)) m=B_ ops R0 s.env (fun _=>true) m:=by intro m;exact AMe
   grind
  grind
 | o::l,k,R0,hl,hk,h=>by
  have ho:ops[k]?=some o:=by simpa using(hl 0).symm
  have key:∀ (R1:Nat->AV) (m:Nat),m<=k->B_ ops R1 s.env (fun i=>decide (i<k)) m=B_ ops R1 s.env (fun _=>true) m:=by intro R1 m;exact AMe
  have keyR:∀ (R1 R2:Nat->AV) (m:Nat),(∀ i,i<m->R1 i=R2 i)->B_ ops R1 s.env (fun _=>true) m=B_ ops R2 s.env (fun _=>true) m:=by
   intro R1 R2 m;induction m with
   | zero=>intro _; rfl
   | succ m ih =>
    intro hm
    simp only[B_,ih (fun i hi=>hm i AOl),hm m AOl]
  simp only[vpD,UJ,gD,uf] at h
  have step:∀ r:AV,vpD P ops K l (MS.put ⟨s.n,B_ ops R0 s.env (fun i=>decide (i<k)) k,s.st⟩ o.dst r) ->
    ∃ R:Nat->AV,(∀ i,i<k->R i=R0 i)/\R k=r/\K ⟨s.n,B_ ops R s.env (fun _=>true) ops.size,s.st⟩ /\
     ∀ (i:Nat) (o:Oper),k+1<=i->ops[i]?=some o->∃ b,oW ops (B_ ops R s.env (fun _=>true) i) o.guard=some b/\(b=true->C9 P ⟨s.n,B_ ops R s.env (fun _=>true) i,s.st⟩ o.op (R i))/\(b=false->R i = .undef):=by
   intro r hr
   have e1:MS.put ⟨s.n,B_ ops R0 s.env (fun i=>decide (i<k)) k,s.st⟩ o.dst r=⟨s.n,B_ ops (fun i=>if i=k then r else R0 i) s.env (fun i=>decide (i<k+1)) (k+1),s.st⟩:=by
    have key2:∀ m,m<=k->B_ ops (fun i=>if i=k then r else R0 i) s.env (fun i=>decide (i<k+1)) m=B_ ops R0 s.env (fun i=>decide (i<k)) m:=by
     intro m;induction m with
     | zero=>intro _; rfl
     | succ m ih =>
      intro hm
      have h1:m<k:=AOl
      have h2:m<k+1:=AOl
      have h3:¬ m=k:=AOl
      simp only[B_,ih AOl,h1,h2,h3,decide_true,aL]
    simp only[B_,ho,abv,key2 k (aG _)];cases hd:o.dst with
    | none=>simp only[MS.put]
    | some d =>
     have:=(Gs hok ho).2 d hd
     have h2:k<k+1:=AOl
     simp[MS.put,hn,this,h2]
   rw[e1] at hr
   obtain⟨R,h1,h2,h3⟩:=dP hok hn l (k+1) _ (fun j=>by
    have:=hl (j+1);grind) AOo hr
   exact⟨R,fun i hi=>AOo,AOo,h2,h3⟩
  split at h
  .rename_i b hb;cases b with
   | true =>
    obtain⟨r,hr1,hr2⟩:=h.1 rfl
    obtain⟨R,h1,h2,h3,h4⟩:=step r hr2
    grind
   | false =>
    obtain⟨R,h1,h2,h3,h4⟩:=step _ (h.2 rfl)
    grind
  grind
theorem Sim.congr {s s':MS} (h:Sim w0 St0 s a w) (hn:s'.n=s.n) (hst:s'.st=s.st) (he:∀ t,CG s'.env t=CG s.env t):Sim w0 St0 s' a w:=by obtain⟨St,β,h⟩:=h;exact⟨St,β,h.congr hn hst he⟩
theorem Xh {ops:Array Oper} {env env':List (Nat×AV)} {o:Oper} (h:∀ t∈Rk ops o,CG env' t=CG env t):oW ops env' o.guard=oW ops env o.guard:=by
 unfold oW;split
 .rfl
 .rename_i j want hg;split
  .rename_i d hd;rw[h d (by simp only[Rk,hg,hd,Option.toList]; simp)]
  .rfl
theorem I9 {listed:Array Bool} {i j:Nat} (hi:i<listed.size):(listed.setIfInBounds i true).getD j false=if i=j then true else listed.getD j false:=by
 by_cases e:i=j
 .simp_all
 simp_all
theorem MG {ops:Array Oper} (h:(ops.toList.all fun o=>o.op.operands.toList.all Ap)=true) {i:Nat} {o:Oper} (ho:ops[i]?=some o):o.op.operands.toList.all Ap=true:=
 aC.1 h o (by
  grind)
theorem ADq {ops:Array Oper} {n:Nat} (hok:FY n ops=true) (hops:(ops.toList.all fun o=>o.op.operands.toList.all Ap)=true) (env:List (Nat×AV)) (st:List Ob) (R:Nat->AV)
  (hR:∀ (i:Nat) (o:Oper),ops[i]?=some o->∃ b,oW ops (B_ ops R env (fun _=>true) i) o.guard=some b/\(b=true->C9 P ⟨n,B_ ops R env (fun _=>true) i,st⟩ o.op (R i))/\(b=false->R i = .undef))
  (Q:Exit->Act->World->Prop) (hQ:∀ a w,Sim w0 St0 ⟨n,B_ ops R env (fun _=>true) ops.size,st⟩ a w->Q .normal a w) :
  ∀ (fuel:Nat) (listed:Array Bool) (a:Act) (w:World),listed.size=ops.size->listed.toList.countP (fun b=>!b)<=fuel ->
   (∀ (i:Nat) (o:Oper),listed.getD i false=true->ops[i]?=some o->∀ e∈o.after,Region.binds .any e=true->listed.getD e.on false=true) ->
   Sim w0 St0 ⟨n,B_ ops R env (fun i=>listed.getD i false) ops.size,st⟩ a w->wpAny P .any ops Q fuel listed a w:=by
 have hdst:=dO hok
 have hall:∀ (listed:Array Bool) (a:Act) (w:World),(∀ i,i<ops.size->listed.getD i false=true)->Sim w0 St0 ⟨n,B_ ops R env (fun i=>listed.getD i false) ops.size,st⟩ a w->Q .normal a w:=by intro listed a w hl hs;refine hQ a w (hs.congr rfl rfl fun t=>?_);exact ALM
 have hready:∀ (listed:Array Bool),Region.ready .any ops listed = []->listed.size=ops.size->∀ i,i<ops.size->listed.getD i false=true:=by intro listed hr hsz i;exact AK8
 intro fuel
 induction fuel with
 | zero =>
  intro listed a w hsz hcnt hcl hs
  have hl:∀ i,i<ops.size->listed.getD i false=true:=by exact ALn
  refine⟨?_,hall listed a w hl hs⟩
  apply List.eq_nil_iff_forall_not_mem.2
  grind [mem_ready,bd]
 | succ fuel ih =>
  intro listed a w hsz hcnt hcl hs
  refine⟨fun hr=>hall listed a w (hready listed hr hsz) hs,fun i hi=>?_⟩
  rw[mem_ready] at hi
  obtain⟨hun,o,ho,hafter⟩:=hi
  have hi':i<ops.size:=(bd.1 ho).1
  have hi2:i<listed.size:=AOl
  have hun':listed.getD i false=false:=by exact AOQ
  have hread:∀ t∈Rk ops o,CG (B_ ops R env (fun i=>listed.getD i false) ops.size) t=CG (B_ ops R env (fun _=>true) i) t:=by
   intro t ht;by_cases hj:∃ (j:Nat),(ops[j]?).bind (·.dst)=some t
   .obtain⟨j,hj⟩:=hj;cases hoj:ops[j]? with
    | none=>grind
    | some oj =>
     have hjd:oj.dst=some t:=by simpa [hoj] using hj
     have hjs:j<ops.size:=(bd.1 hoj).1
     rcases Nat.lt_trichotomy j i with h1 | h1 | h1
     .have hb:=(Oh hok hoj ho hjd ht AOl).1 h1
      grind [Dp,F7]
     .grind [Bg]
     .have hb:=(Oh hok hoj ho hjd ht AOl).2 h1
      grind [Dp,Bg]
   .grind [Bg]
  obtain⟨b,hb1,hb2,hb3⟩:=hR i o ho
  rw[<- Xh hread] at hb1
  obtain⟨St,β,hcore⟩:=hs
  have hwant:=oZ hcore (o:=o) hb1
  have hnext:∀ (r:AV) (a':Act) (w':World),r=R i->Sim w0 St0 (MS.put ⟨n,B_ ops R env (fun i=>listed.getD i false) ops.size,st⟩ o.dst r) a' w'->wpAny P .any ops Q fuel (listed.setIfInBounds i true) a' w':=by
   intro r a' w' hr hsim;subst hr;refine ih _ a' w' AOo ?_ ?_ ?_
   .have hset:(listed.setIfInBounds i true).toList=listed.toList.set i true:=by simp
    rw[hset,List.countP_set AOl];have hv:listed.toList[i]' AOl=false:=by simpa [hi2] using hun'
    grind
   .grind [I9,ai]
   .refine hsim.congr ?_ ?_ fun t=>?_
    .exact AL4
    .exact AL4
    .have hX:(fun j=>(listed.setIfInBounds i true).getD j false)=fun j=>if i=j then true else listed.getD j false:=funext fun j=>I9 hi2
     rw[hX];cases hd:o.dst with
     | none =>
      simp only[MS.put]
      by_cases hj:∃ (j:Nat),(ops[j]?).bind (·.dst)=some t
      .grind [bd,F7,Bg]
      grind [Bg]
     | some d =>
      have hdn:=(Gs hok ho).2 d hd
      have hid:(ops[i]?).bind (·.dst)=some d:=by simp[ho,hd]
      simp only[MS.put,hdn,aO,CG]
      grind [F7,bd,uG,Bg]
  unfold wpOp
  simp only[ho,hwant]
  cases b with
  | true =>
   simp only[aO]
   left
   have hstep:=QQ (P:=P) (s:=⟨n,B_ ops R env (fun _=>true) i,st⟩) (s':=⟨n,B_ ops R env (fun i=>listed.getD i false) ops.size,st⟩) rfl o.op (fun t ht=>hread t (by
    simp only[Rk,yF];grind)) (R i) (hb2 rfl)
   exact Oper.wp_mono (fun a' w' hs=>hnext (R i) a' w' rfl hs) (Xg hcore o (MG hops ho) hstep Q)
  | false =>
   simp only[ax,aL]
   refine hnext .undef _ _ (hb3 rfl).symm ⟨St,β,hcore.put o.dst ?_⟩
   simp only[AVR]
theorem Ya {ops:Array Oper} (hok:FY s.n ops=true) (hops:(ops.toList.all fun o=>o.op.operands.toList.all Ap)=true) (h:Core w0 St0 St β s a w) {K:MS->Prop} (hK:vpD P ops K ops.toList s) :
  wpAny P .any ops (fun e a' w'=>e = .normal/\∃ s',K s'/\s'.n=s.n/\Sim w0 St0 s' a' w') ops.size (Array.replicate ops.size false) a { w with drawn:=w.drawn+1 }:=by
 obtain⟨R,_,hKs,hR⟩:=dP (K:=K) hok rfl ops.toList 0 (fun _=>.un) (fun j=>AOm) AOm (by simpa [B_] using hK)
 have hgrow:Core w0 St0 St β s a { w with drawn:=w.drawn+1 }:=h.grow (w':={ w with drawn:=w.drawn+1 }) ⟨rfl,rfl,rfl,aG _,fun _ _=>rfl⟩ (fun _ _ h=>h) (fun _ _ h _=>h) h.stIn
 refine ADq (P:=P) (n:=s.n) hok hops s.env s.st R (fun i o ho=>hR i o (aq _) ho) _ (fun a w hs=>⟨rfl,_,hKs,rfl,hs⟩) ops.size (Array.replicate ops.size false) a _ AOm ?_ ?_ ?_
 .grind [List.countP_le_length]
 .intro i o hi
  have:(Array.replicate ops.size false).getD i false=false:=by simp[aa5];split<;>rfl
  grind
 .refine⟨St,β,hgrow.congr rfl rfl fun t=>?_⟩
  rw[Bg ops.size (fun k _ _=>AQA)]
