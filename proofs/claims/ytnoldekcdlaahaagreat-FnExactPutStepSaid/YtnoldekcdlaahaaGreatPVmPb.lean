/- A part. -/
import Derived.Test.YtnoldekcdlaahaaGreatPVmPa
import Derived.Lib.AppendStr
import Derived.Lib.AppendZerosOnto
set_option linter.unusedSimpArgs false
set_option linter.unusedVariables false
set_option maxHeartbeats 2000000
namespace Go.Vm
open Go.RowKit Go.Lib
variable {P:Program} {w0:Bs} {St0 St:Nat→Nat→Prop} {β:Nat→Option Nat} {s:MS} {a:Act} {w:World}
theorem nK {P:Program} (w:World) (t u ty e:TypeId) (i:TypeInfo) (ht:P.underlying t=some (.slice e)) (hu:P.underlying u=some .string) (hi:P.info? e=some i) {n:Nat} (hsz:i.size=n) (hn:n=1)
  (g sLen sCap:Nat) (cur:Array Value) (hg:w.heap[g]?=some (.cells cur e (0,0))) (s:ByteArray) (m:Nat) (hm:m=s.size) (hroom:sLen+m≤sCap) (hfit:sLen*n+(strCells s).length≤cur.size) :
  (Builtin.append_ #[t,u] ty #[.slice (some ⟨g,0,none⟩) sLen sCap,.string s]).run P w =
   .ok (.slice (some ⟨g,0,none⟩) (sLen+m) sCap) (w.setRow g (cur.toList.take (sLen*n)++strCells s++cur.toList.drop (sLen*n+(strCells s).length)).toArray):=by
 grind [strCells_length,run_append_room_string]
theorem nM {P:Program} (w:World) (t u ty e:TypeId) (i:TypeInfo) (z:Value) (ht:P.underlying t=some (.slice e)) (hu:P.underlying u=some .string) (hi:P.info? e=some i) (hz:i.zero=some z)
  (b:Addr) (sLen sCap:Nat) (olds:List Value) (hlo:olds.length=sLen*i.size) (holds:∀ j v,olds[j]?=some v→w.cell? (b.add j)=some v) (s:ByteArray) (m:Nat) (hm:m=s.size)
  (hg:sCap<sLen+m) (h63:((sLen+m:Nat):Int)≤9223372036854775807) (hfit:Builtin.nextslicecap (sLen+m) sCap*i.bytes≤281474976710656) :
  (Builtin.append_ #[t,u] ty #[.slice (some b) sLen sCap,.string s]).run P w =
   .ok (.slice (some ⟨w.heap.size,0,none⟩) (sLen+m) (grownCap w (sLen+m) sCap e))
    (w.drew.alloc (.cells (olds.toArray++(strCells s).toArray++Builtin.zeroCells z.cells (grownCap w (sLen+m) sCap e-(sLen+m))) e)):=by
 grind [run_append_grow_string]
def Ny (b:ByteArray):List (List Cl):=b.data.toList.map fun x=>[.v (.int .u8 x.toNat)]
theorem tH (b:ByteArray):(Ny b).length=b.size:=by simp only[Ny,ae]; rfl
theorem nN (b:ByteArray):(Ny b).flatten=b.data.toList.map fun x=>.v (.int .u8 x.toNat):=by
 unfold Ny
 induction b.data.toList with
 | nil=>rfl
 | cons x l ih=>grind
theorem Zw (h:Core w0 St0 St β s a w) (o:Oper) {x:Operand} {l n:Nat} {ob:Ob} {e:TypeId} {i:TypeInfo} {z':Value} {ys:List (List Cl)} {news:List Value} (hsz:i.size=n) (hzs:z'.cells.size=n) (hn:0<n) (hc:Ak x=true) (hevx:Ei s x = .c (.ref l)) (hob:Cf s.st l=some ob)
  (hty:ob.ty=e) (hosz:ob.sz=n) (hle:ob.xs.length+ys.length≤2147483648) (hyl:∀ r∈ys,r.length=n) (hysno:∀ (k:Nat) (c:Cl),ys.flatten[k]?=some c→Gm c=false) (n1:news.length=ys.length*n)
  (n3:∀ (k:Nat) (c:Cl),ys.flatten[k]?=some c→∃ u,news[k]?=some u∧RdC w St s.st β c u)
  (R1:∀ b0 cap cs,w.heap[b0]?=some (.cells cs e (0,0))→ob.xs.length*n+news.length≤cs.size→ob.xs.length+ys.length≤cap→a.eval x = .slice (some ⟨b0,0,none⟩) ob.xs.length cap →
   (execOp a.eval o).run P w = .ok (.value (.slice (some ⟨b0,0,none⟩) (ob.xs.length+ys.length) cap)) (w.setRow b0 (cs.toList.take (ob.xs.length*n)++news++cs.toList.drop (ob.xs.length*n+news.length)).toArray))
  (R2:∀ b0 cap (olds:List Value),olds.length=ob.xs.length*i.size→(∀ (j:Nat) (v:Value),olds[j]?=some v→w.cell? ((⟨b0,0,none⟩:Addr).add j)=some v)→cap<ob.xs.length+ys.length→a.eval x = .slice (some ⟨b0,0,none⟩) ob.xs.length cap →
   (execOp a.eval o).run P w = .ok (.value (.slice (some ⟨w.heap.size,0,none⟩) (ob.xs.length+ys.length) (grownCap w (ob.xs.length+ys.length) cap e)))
    (w.drew.alloc (.cells (olds.toArray++news.toArray++Builtin.zeroCells z'.cells (grownCap w (ob.xs.length+ys.length) cap e-(ob.xs.length+ys.length))) e)))
  (R3:a.eval x = .slice none 0 0→ob.xs = []→0<ys.length∧(execOp a.eval o).run P w = .ok (.value (.slice (some ⟨w.heap.size,0,none⟩) ys.length (grownCap w ys.length 0 e)))
    (w.drew.alloc (.cells (news.toArray++Builtin.zeroCells z'.cells (grownCap w ys.length 0 e-ys.length)) e))) :
  Does P a w w0 St0 s o (.c (.ref s.st.length)) (Ai s.st l ++ [⟨e,n,ob.xs++ys,ob.wr,true⟩]):=by
 have hxx:AVR w St s.st β (Ei s x) (a.eval x):=CO h x hc
 rw[hevx] at hxx
 obtain⟨hl,hlive⟩:=Bo hob
 simp only[AVR,RdC,BM,hl] at hxx
 have hx2:=hxx.2 hlive
 obtain⟨k1,k2⟩:=h.kill l
 have hkr:∀ c u,RdC w St s.st β c u→RdC w St (Ai s.st l) β c u:=fun c u hc=>by
  exact AMJ
 have hkrB:∀ c u,RdB w St s.st β c u→RdB w St (Ai s.st l) β c u:=fun c u hc=>by
  exact ALE
 have hll:l<s.st.length:=(aF.1 hl).1
 have hkl:=Ie s.st l
 cases hβ:β l with
 | none =>
  simp only[hβ] at hx2
  obtain⟨hvx,hobx⟩:=hx2
  obtain⟨hpos,hr⟩:=R3 hvx hobx
  rw[hobx] at hle ⊢
  simp only[aO]
  simp only[aW,sF] at hle
  have hge:=grownCap_ge w ys.length 0 e
  obtain⟨β',g1,g2⟩:=nJ k1 e n ys ob.wr news (Builtin.zeroCells z'.cells (grownCap w ys.length 0 e-ys.length)) (grownCap w ys.length 0 e) hyl n1 (fun k c hk=>by
   obtain⟨u,u1,u2⟩:=n3 k c hk
   exact⟨u,u1,hkr _ _ u2⟩) hge (grownCap_le_maxLen w ys.length 0 e AO5) APu
  simp only[hkl] at g2
  exact⟨_,_,_,St,β',hr,.inl rfl,g1,g2⟩
 | some b0 =>
  simp only[hβ] at hx2
  obtain⟨cap,cs,hvx,c1,c2,c3,c4⟩:=hx2
  obtain⟨p1,p2,cs',p3,p4,p5⟩:=h.obs l ob b0 hl hlive hβ
  rw[c3] at p3
  simp only[ak,Obj.cells.injEq,xU] at p3
  subst p3
  have hfree:∀ l' o2,(Ai s.st l)[l']?=some o2→o2.live=true→β l'≠some b0:=fun l' o2 h2 hl2 hb2=>by
   exact AMV
  have hkeep:∀ o,St b0 o→ob.wr=false∧o<ob.xs.length*ob.sz:=fun o hbo=>h.sep l ob b0 o hl hlive hβ hbo
  have hxfl:ob.xs.flatten.length=ob.xs.length*n:=by rw[EK p4,hosz]
  have hlall:∀ r∈ob.xs++ys,r.length=n:=fun r hr=>by
   grind
  have hcap:cs.size=cap*n:=by rw[c4,hosz]
  have hFC:ob.xs.flatten.length≤cs.toList.length:=MN (R:=fun c u=>RdB w St s.st β c u) (fun k c hk=>AOT)
  have holdl:(cs.toList.take (ob.xs.length*n)).length=ob.xs.length*n:=by
   rw[bI,Zl AOQ]
  have hold:∀ (k:Nat) (c:Cl),ob.xs.flatten[k]?=some c→∃ u,(cs.toList.take (ob.xs.length*n))[k]?=some u∧RdB w St s.st β c u:=fun k c hk=>by
   grind
  have hboth:∀ (k:Nat) (c:Cl),(ob.xs++ys).flatten[k]?=some c→∃ u,(cs.toList.take (ob.xs.length*n)++news)[k]?=some u∧RdB w St (Ai s.st l) β c u:=fun k c hk=>by
   exact ALo
  by_cases hroom:ob.xs.length+ys.length≤cap
  ·
   have hcsl:cs.toList.length=cs.size:=AOR
   have hcapm:(ob.xs.length+ys.length)*n≤cap*n:=aaE _ hroom
   have hfit:ob.xs.length*i.size+news.length≤cs.size:=APn
   have hr:=R1 b0 cap cs AOT AOT hroom hvx
   rw[hsz] at hfit
   generalize hcs':(cs.toList.take (ob.xs.length*n)++news++cs.toList.drop (ob.xs.length*n+news.length)).toArray=C' at hr
   have hC's:C'.size=cs.size:=by
    exact ANs
   have hC'at:∀ k,k<ob.xs.length*n+news.length→C'[k]?=(cs.toList.take (ob.xs.length*n)++news)[k]?:=fun k hk=>by
    grind
   have hturn:=k1.turn (b:=b0) p1 (tC h hl hlive hβ) hfree c3 (cs':=C') (fun o hbo=>by
    grind) hC's
   have hcell:∀ b' o,St b' o→(w.setRow b0 C').cell? ⟨b',o,none⟩=w.cell? ⟨b',o,none⟩:=fun b' o hbo=>by
    exact AKW
   have hrr:∀ l' u,BM w (Ai s.st l) β l' u→BM (w.setRow b0 C') (Ai s.st l) β l' u:=by
    exact AMr
   obtain⟨a1,a2,a3⟩:=hturn.addObB ⟨e,n,ob.xs++ys,ob.wr,true⟩ (some b0) AOR (fun b' hb=>by
    simp only[ak] at hb
    subst hb
    refine⟨p1,APj,hfree,fun o hbo=>?_,C',by grind [setRow_heap],hlall,fun k c hk=>?_⟩
    ·grind
    ·obtain⟨u,u1,u2⟩:=hboth k c hk
     have hk':k<ob.xs.length*n+news.length:=by
      exact ANT
     exact⟨u,AOT,RdB.mono (fun _ _ h=>h) hcell hrr _ _ u2⟩) (by
    refine VI h hl hlive hβ (ys:=ys) rfl hysno (fun x hx=>?_) APj hcell (fun l2 o2 b2 h1 h2 h3 h4=>?_) (fun k hk=>?_)
    ·exact AL1
    ·exact AM_
    ·have hk':k<ob.xs.length*n:=by rw[← hxfl]; exact hk
     rw[World.cell?,World.cell?,setRow_heap w b0 cs C' ob.ty (0,0) c3,c3]
     grind)
   refine⟨_,_,_,St,_,hr,.inl rfl,a1, ?_⟩
   exact ALS
  ·
   have holds:∀ (j:Nat) (v:Value),(cs.toList.take (ob.xs.length*n))[j]?=some v→w.cell? ((⟨b0,0,none⟩:Addr).add j)=some v:=fun j v hj=>by
    exact AMQ
   have hr:=R2 b0 cap (cs.toList.take (ob.xs.length*n)) AOT holds AOQ hvx
   have hge:=grownCap_ge w (ob.xs.length+ys.length) cap e
   obtain⟨β',g1,g2⟩:=VJ k1 e n (ob.xs++ys) ob.wr (cs.toList.take (ob.xs.length*n)++news) (Builtin.zeroCells z'.cells (grownCap w (ob.xs.length+ys.length) cap e-(ob.xs.length+ys.length))) (grownCap w (ob.xs.length+ys.length) cap e) hlall (by
    grind) hboth AOT (grownCap_le_maxLen w _ cap e AO5) (by rw[size_zeroCells,hzs]; simp) (by
    have hbd:=Fb w (.cells ((cs.toList.take (ob.xs.length*n)++news).toArray++Builtin.zeroCells z'.cells (grownCap w (ob.xs.length+ys.length) cap e-(ob.xs.length+ys.length))) e)
    refine VI h hl hlive hβ (ys:=ys) rfl hysno (fun x hx=>⟨fun e2=>APw,hbd.block x hx.2.2.1⟩) hbd.size (fun b o hbo=>cell_of_block (hbd.block b (h.stIn b o hbo))) (fun l2 o2 b2 h1 h2 h3 _=>hbd.block b2 (h.obs l2 o2 b2 h1 h2 h3).2.1) (fun k hk=>?_)
    have hk':k<ob.xs.length*n:=APz
    rw[World.cell?,World.cell?,Ew w _,c3]
    have hkc:k<cs.size:=by
     have:cs.toList.length=cs.size:=AOR
     omega
    simp only[abx,aB,aX]
    rw[aax (by simp only[aa8,bu,holdl]; omega),aa4,bH (by rw[holdl]; exact hk'),aaB,bF hk',Array.getElem?_toList])
   simp only[hkl,bu] at g2
   have earr:(cs.toList.take (ob.xs.length*n)++news).toArray=(cs.toList.take (ob.xs.length*n)).toArray++news.toArray:=AOR
   rw[earr] at g1 g2
   exact⟨_,_,_,St,β',hr,.inl rfl,g1,g2⟩
theorem je {n:Nat}:∀ (i:Nat) {xs:List (List Cl)},(∀ x∈xs,x.length=n)→(xs.drop i).flatten=xs.flatten.drop (i*n)
 | 0,xs,_=>AOR
 | i+1,[],_=>AOR
 | i+1,x::xs,h=>by
  rw[List.drop_succ_cons,je i (fun y hy=>h y APi),df,Zm,Nat.one_mul,Nat.add_comm,← List.drop_drop,List.drop_left' (h x AOR)]
theorem SN {n:Nat}:∀ (i:Nat) {xs:List (List Cl)},(∀ x∈xs,x.length=n)→(xs.take i).flatten=xs.flatten.take (i*n)
 | 0,xs,_=>AOR
 | i+1,[],_=>AOR
 | i+1,x::xs,h=>by
  rw[aa9,df,SN i (fun y hy=>h y APi),df,Zm,Nat.one_mul,Nat.add_comm]
  have:=h x AOR
  rw[← this,List.take_length_add_append]
theorem ABV {cs:List Cl} (h:C_ cs=true):∀ c∈cs,AB c=true:=aJ.1 h
theorem ABW {xs:List (List Cl)} (h:Gq xs=true):∀ x∈xs,C_ x=true:=aJ.1 h
def ADO (P:Program) (s:MS) (T:TypeId) (x y:AV):Option (AV×List Ob):=match D_ P T,x,y with
 | some e,.c (.ref l),.vw (.c (.ref l2)) i n m=>match Ac P e,Tt P e,EQ P e with
  | some n',some zs,some by'=>if(zs.length=n'∧n=n'∧0<n')∧by'≤65536 then match Cf s.st l,Cf s.st l2 with
    | some ob,some ob2=>if ob.ty=e∧ob.sz=n∧ob2.sz=n∧0<m∧i+m≤ob2.xs.length∧Gq ob2.xs=true∧ob.xs.length+m≤2147483648 then some (.c (.ref s.st.length),Ai s.st l ++ [⟨e,n',ob.xs++(ob2.xs.drop i).take m,ob.wr,true⟩]) else none
    | _,_=>none
   else none
  | _,_,_=>none
 | _,_,_=>none
theorem AFD (h:Core w0 St0 St β s a w) (o:Oper) (T:TypeId) (c:Call) (x y:Operand) (ho:o.op = .call c) (hcl:c.callee = .builtin .append) (hca:c.args.toList = [x,y]) (hct:c.argTypes.toList = [T,T]) (hc:Ak x=true) (hc2:Ak y=true)
  {z:AV} {st':List Ob} (hy:ADO P s T (Ei s x) (Ei s y)=some (z,st')):Does P a w w0 St0 s o z st':=by
 have hyy:=CO h y hc2
 have ha1:c.argTypes = #[T,T]:=AOp
 have ha2:c.args = #[x,y]:=AOq
 have hexec:∀ v w',(Builtin.append_ #[T,T] o.type #[a.eval x,a.eval y]).run P w = .ok v w'→(execOp a.eval o).run P w = .ok (.value v) w':=by
  exact ALF
 unfold ADO at hy
 split at hy
 ·rename_i e l l2 i n m hte hevx hevy
  have ht:=Ja hte
  split at hy
  ·rename_i n' cs0 by' hs hz0 hb
   obtain⟨zs,hz,hwz,rfl⟩:=OL hz0
   split at hy
   ·rename_i hcond
    obtain⟨⟨hzl0,rfl,hn⟩,hby⟩:=hcond
    have hzl:zs.length=n:=APb
    have htab:∃ i z',P.info? e=some i∧i.zero=some z'∧i.size=n∧i.bytes=by'∧z'.cells.size=n:=by
     exact AIH
    obtain⟨ti,z',hi,hiz,hsz,hbs,hzs⟩:=htab
    split at hy
    ·rename_i ob ob2 hob hob2
     split at hy
     ·rename_i hoc
      obtain⟨hty,hosz,hosz2,hm0,him,hpu,hle⟩:=hoc
      simp only[ak,bK] at hy
      obtain⟨rfl,rfl⟩:=hy
      rw[hevy] at hyy
      simp only[AVR] at hyy
      obtain⟨b2,len2,cap2,cap',hvy,hcap',hmax',hr2⟩:=hyy
      obtain⟨hl2,hlive2⟩:=Bo hob2
      simp only[RdC,BM,hl2] at hr2
      have hr3:=hr2.2 hlive2
      have hβ2:β l2=some b2:=by
       cases hβ:β l2 with
       | none=>rw[hβ] at hr3; simp at hr3
       | some b3 =>
        rw[hβ] at hr3
        obtain⟨_,_,e1,_⟩:=hr3
        simp only[Value.slice.injEq,ak,Addr.mk.injEq,xU] at e1
        rw[e1.1]
      obtain⟨_,_,cs,hcs,hrows,hcells⟩:=h.obs l2 ob2 b2 hl2 hlive2 hβ2
      rw[hosz2] at hrows
      have hfl:((ob2.xs.drop i).take m).flatten=(ob2.xs.flatten.drop (i*n)).take (m*n):=by
       rw[SN m (n:=n) (fun x hx=>hrows x (xR hx)),je i hrows]
      have hylen:((ob2.xs.drop i).take m).length=m:=AOS
      have hyl:∀ r∈(ob2.xs.drop i).take m,r.length=n:=fun r hr=>hrows r (xR (ru hr))
      have hpc:∀ r∈(ob2.xs.drop i).take m,∀ c∈r,AB c=true:=fun r hr c hc=>ABV (ABW hpu r (xR (ru hr))) c hc
      generalize hys:(ob2.xs.drop i).take m=ys at *
      have hyfl:ys.flatten.length=m*n:=by rw[EK hyl,hylen]
      have hcell:∀ (k:Nat) (c:Cl),ys.flatten[k]?=some c→∃ u,w.cell? ⟨b2,i*n+k,none⟩=some u∧RdC w St s.st β c u:=fun k c hk=>by
       have hpk:AB c=true:=by
        obtain⟨r,hr,hcr⟩:=aa2.1 (bC hk)
        exact hpc r hr c hcr
       rw[hfl,aaB] at hk
       split at hk
       ·rw[aaY] at hk
        obtain⟨u,u1,u2⟩:=hcells _ c hk
        refine⟨u,by rw[World.cell?,hcs]; simpa using u1, ?_⟩
        cases c with
        | ow _ _ _=>simp[AB] at hpk
        | v y=>exact u2
        | sl y=>exact u2
        | ref y=>exact u2
       ·cases hk
      obtain⟨news,n1,n2⟩:=Jn (R:=fun c u=>RdC w St s.st β c u) (w:=w) (b:=b2) ys.flatten (i*n) hcell
      have hat:∀ (k:Nat) (v:Value),news[k]?=some v→∃ c,ys.flatten[k]?=some c∧w.cell? ⟨b2,i*n+k,none⟩=some v∧RdC w St s.st β c v:=fun k v hk=>by
       have hk':k<ys.flatten.length:=by rw[← n1]; exact(aF.1 hk).1
       obtain⟨u,u1,u2,u3⟩:=n2 k _ (au hk')
       rw[hk] at u1
       cases u1
       exact⟨_,au hk',u2,u3⟩
      have hnews:∀ (k:Nat) (v:Value),news[k]?=some v→w.cell? ((⟨b2,i*n,none⟩:Addr).add k)=some v:=fun k v hk=>by
       obtain⟨_,_,q,_⟩:=hat k v hk
       rw[addr_add]; exact q
      have n4:∀ u∈news,u.oneCell'=true:=fun u hu=>by
       obtain⟨k,hk⟩:=List.getElem?_of_mem hu
       obtain⟨c,_,_,q⟩:=hat k u hk
       exact RdB.one q.toB
      have hnl:news.length=m*ti.size:=by rw[n1,hyfl,hsz]
      refine Zw h o (i:=ti) (z':=z') (news:=news) hsz hzs hn hc hevx hob hty hosz (by rw[hylen]; exact hle) hyl (fun k c hk=>by
       have hpk:AB c=true:=by
        obtain⟨r,hr,hcr⟩:=aa2.1 (bC hk)
        exact hpc r hr c hcr
       cases c with
       | ow _ _ _=>simp[AB] at hpk
       | v y=>rfl
       | sl y=>rfl
       | ref y=>rfl) (by rw[n1,hyfl,hylen]) (fun k c hk=>by
       obtain⟨u,u1,_,u3⟩:=n2 k c hk
       exact⟨u,u1,u3⟩) (fun b0 cap cs1 q1 q2 q3 q4=>?_) (fun b0 cap olds q1 q2 q3 q4=>?_) (fun q4 q5=>?_)
      ·rw[hylen] at q3 ⊢
       have hr:=run_append_room (P:=P) w T o.type e ti ht hi b0 ob.xs.length cap cs1 q1 ⟨b2,i*n,none⟩ m cap' news hnl hnews n4 q3 (by rw[hsz]; exact q2)
       rw[← q4,← hvy,hsz] at hr
       exact hexec _ _ hr
      ·rw[hylen] at q3 ⊢
       have hr:=run_append_grow (P:=P) w T o.type e ti z' ht hi hiz ⟨b0,0,none⟩ ob.xs.length cap olds q1 q2 ⟨b2,i*n,none⟩ m cap' news hnl hnews q3 AOQ (by
        exact growslice_fits AOQ APW)
       rw[← q4,← hvy] at hr
       exact hexec _ _ hr
      ·rw[hylen]
       rw[q5,aW,sF] at hle
       have hr:=run_append_nil (P:=P) w T o.type e ti z' ht hi hiz ⟨b2,i*n,none⟩ m cap' news hnl hnews hm0 AOQ (by rw[hbs]; have:=Ig (m:=by') (.inl hle) hby (aT _); omega)
       rw[← q4,← hvy] at hr
       exact⟨hm0,hexec _ _ hr⟩
     ·cases hy
    ·cases hy
   ·cases hy
  ·cases hy
 ·cases hy
def xk (P:Program) (s:MS) (T:TypeId) (x y:AV):Option (AV×List Ob):=match y with
 | .vw _ _ _ _=>ADO P s T x y
 | y=>ADN P s T x y
theorem AFE (h:Core w0 St0 St β s a w) (o:Oper) (T:TypeId) (c:Call) (x y:Operand) (ho:o.op = .call c) (hcl:c.callee = .builtin .append) (hca:c.args.toList = [x,y]) (hct:c.argTypes.toList = [T,T]) (hc:Ak x=true) (hc2:Ak y=true)
  {z:AV} {st':List Ob} (hy:xk P s T (Ei s x) (Ei s y)=some (z,st')):Does P a w w0 St0 s o z st':=by
 unfold xk at hy
 split at hy
 ·exact AFD h o T c x y ho hcl hca hct hc hc2 hy
 ·exact AFC h o T c x y ho hcl hca hct hc hc2 hy
theorem Zx {P:Program} (w:World) (t u ty e:TypeId) (i:TypeInfo) (z:Value) (kq kn:IntKind) (ht:P.underlying t=some (.slice e)) (hu:P.underlying u=some (.int kn)) (hi:P.info? e=some i) (hiz:i.zero=some z) {n:Nat} (hsz:i.size=n) (hn:n=1)
  (g sLen sCap:Nat) (cur:Array Value) (hg:w.heap[g]?=some (.cells cur e (0,0))) (k:Nat) (h0:0<k) (hk:k≤2147483648) (hby:i.bytes≤65536) (h1:∀ v∈(Builtin.zeroCells z.cells k).toList,v.oneCell'=true) (hroom:sLen+k≤sCap) (hfit:sLen*n+(Builtin.zeroCells z.cells k).toList.length≤cur.size) :
  (Builtin.append_ #[t,u] ty #[.slice (some ⟨g,0,none⟩) sLen sCap,.int kq k]).run P w =
   .ok (.slice (some ⟨g,0,none⟩) (sLen+k) sCap) (w.setRow g (cur.toList.take (sLen*n)++(Builtin.zeroCells z.cells k).toList++cur.toList.drop (sLen*n+(Builtin.zeroCells z.cells k).toList.length)).toArray):=by
 have hw:IntKind.i64.wrap (k:Int)=k:=by rw[IntKind.wrap_i64]; omega
 have h48:k*i.bytes≤281474976710656:=by
  have:=aa0 hk hby
  omega
 have h48i:¬ (281474976710656<(k:Int)*(i.bytes:Int)):=by
  rw[← Int.natCast_mul]
  omega
 have hneg:¬ ((k:Int)<0):=AOQ
 have hk0:k≠0:=AOQ
 subst hn
 have hst:=run_storeCells_at P g sLen e (Builtin.zeroCells z.cells k).toList 0 cur w hg (by simpa using hfit) h1
 simp only[abA] at hst
 rw[Nat.mul_one]
 simp[Builtin.append_,run_underlying ht,run_underlying hu,sizeOf,typeInfo,zeroValue,hi,hiz,asInt,asIntOf,hw,hneg,h48i,hsz,hk0,hroom,Addr.add_lit,hst]
def ADP (P:Program) (s:MS) (e:TypeId) (x y:AV):Option (AV×List Ob):=match Ac P e,Tt P e,EQ P e with
 | some n,some zs,some by'=>if(zs.length=n∧n=1)∧by'≤65536 then match x,y with
   | .c (.ref l),.c (.v (.int _ k))=>match Cf s.st l with
    | some ob=>if ob.ty=e∧ob.sz=n∧0<k∧ob.xs.length+k.toNat≤2147483648 then some (.c (.ref s.st.length),Ai s.st l ++ [⟨e,n,ob.xs++List.replicate k.toNat zs,ob.wr,true⟩]) else none
    | none=>none
   | _,_=>none
  else none
 | _,_,_=>none
theorem AFF (h:Core w0 St0 St β s a w) (o:Oper) (T T' e:TypeId) (kn:IntKind) (hte:D_ P T=some e) (hu:P.underlying T'=some (.int kn)) (c:Call) (x y:Operand) (ho:o.op = .call c) (hcl:c.callee = .builtin .append) (hca:c.args.toList = [x,y]) (hct:c.argTypes.toList = [T,T']) (hc:Ak x=true) (hc2:Ak y=true)
  {z:AV} {st':List Ob} (hy:ADP P s e (Ei s x) (Ei s y)=some (z,st')):Does P a w w0 St0 s o z st':=by
 have hyy:=CO h y hc2
 have ha1:c.argTypes = #[T,T']:=AOp
 have ha2:c.args = #[x,y]:=AOq
 have hexec:∀ v w',(Builtin.append_ #[T,T'] o.type #[a.eval x,a.eval y]).run P w = .ok v w'→(execOp a.eval o).run P w = .ok (.value v) w':=by
  exact ALF
 have ht:=Ja hte
 unfold ADP at hy
 split at hy
 ·rename_i n cs0 by' hs hz0 hb
  obtain⟨zs,hz,hwz,rfl⟩:=OL hz0
  split at hy
  ·rename_i hcond
   obtain⟨⟨hzl0,hn1⟩,hby⟩:=hcond
   have hn:0<n:=AOQ
   have hzl:zs.length=n:=APb
   split at hy
   ·rename_i l kq k hevx hevy
    rw[hevy] at hyy
    obtain⟨hvy,_⟩:=OO hyy
    have htab:∃ i z',P.info? e=some i∧i.zero=some z'∧i.size=n∧i.bytes=by'∧z'.cells.size=n∧z'.cells.toList=zs:=by
     exact AIH
    obtain⟨i,z',hi,hiz,hsz,hbs,hzs,hzt⟩:=htab
    split at hy
    ·rename_i ob hob
     split at hy
     ·rename_i hoc
      obtain⟨hty,hosz,hk0,hle⟩:=hoc
      simp only[ak,bK] at hy
      obtain⟨rfl,rfl⟩:=hy
      obtain⟨m,rfl⟩:=aQ (Int.le_of_lt hk0)
      simp only[bW] at hle ⊢
      have hm:0<m:=AOQ
      obtain⟨v0,rfl⟩:=List.length_eq_one_iff.1 (show zs.length=1 from AOQ)
      have hv0:QN v0=true:=by simpa [mY] using hwz
      have hza:z'.cells = #[v0]:=by
       apply abl
       exact hzt
      have hnw:(Builtin.zeroCells z'.cells m).toList=List.replicate m v0:=by
       rw[hza]
       apply abE
       ·simp[Builtin.zeroCells]
       ·intro j h1 h2
        simp[Builtin.zeroCells,Nat.mod_one]
      have hna:Builtin.zeroCells z'.cells m=(List.replicate m v0).toArray:=by rw[← hnw]
      have hfl:(List.replicate m (List.map Cl.v [v0])).flatten=List.replicate m (Cl.v v0):=by
       simp
      refine Zw h o (i:=i) (z':=z') (news:=List.replicate m v0) hsz hzs hn hc hevx hob hty hosz (by simpa using hle) (fun r hr=>by rw[(List.mem_replicate.1 hr).2]; simp[hn1]) (fun k c hk=>by
       rw[hfl] at hk
       have:=bC hk
       rw[(List.mem_replicate.1 this).2]
       rfl) (by simp[hn1]) (fun k c hk=>by
       rw[hfl,abh] at hk
       split at hk
       ·rename_i hkm
        simp only[ak] at hk
        subst hk
        exact⟨v0,by rw[abh,bF hkm],by simp only[RdC,RdD]; exact⟨trivial,hv0⟩⟩
       ·cases hk) (fun b0 cap cs q1 q2 q3 q4=>?_) (fun b0 cap olds q1 q2 q3 q4=>?_) (fun q4 q5=>?_)
      ·rw[bU] at q3
       have hr:=Zx (P:=P) w T T' o.type e i z' kq kn ht hu hi hiz hsz hn1 b0 ob.xs.length cap cs q1 m hm AOQ (by rw[hbs]; exact hby) (fun v hv=>by rw[hnw] at hv; rw[(List.mem_replicate.1 hv).2]; exact mX hv0) q3 (by rw[hnw]; exact q2)
       rw[← q4,← hvy,hnw] at hr
       rw[bU]
       exact hexec _ _ hr
      ·rw[bU] at q3
       have hr:=run_append_grow_zeros (P:=P) w T T' o.type e i z' kq kn ht hu hi hiz (some ⟨b0,0,none⟩) ob.xs.length cap olds (run_firstCells_some (P:=P) w.drew i.size ob.xs.length ⟨b0,0,none⟩ ob.xs.length cap olds q1 (by simpa using q2)) m hm AOQ q3 AOQ (by
        rw[hbs]; have:=aa0 (show m≤2147483648 from AOQ) hby; omega) (by
        exact growslice_fits AOQ APW)
       rw[← q4,← hvy,hna] at hr
       rw[bU]
       exact hexec _ _ hr
      ·rw[q5,aW,sF] at hle
       have hr:=run_append_nil_zeros (P:=P) w T T' o.type e i z' kq kn ht hu hi hiz m hm AOQ AOQ (by
        rw[hbs]; have:=aa0 (show m≤2147483648 from AOQ) hby; omega)
       rw[← q4,← hvy,hna] at hr
       rw[bU]
       exact⟨hm,hexec _ _ hr⟩
     ·cases hy
    ·cases hy
   ·cases hy
  ·cases hy
 ·cases hy
def xm (P:Program) (s:MS) (T T':TypeId) (x y:AV):Option (AV×List Ob):=match D_ P T,P.underlying T' with
 | some e,some .string=>match Ac P e,Tt P e,EQ P e with
  | some n,some zs,some by'=>if(zs.length=n∧n=1)∧by'≤65536 then match x,y with
    | .c (.ref l),.c (.v (.string b))=>match Cf s.st l with
     | some ob=>if ob.ty=e∧ob.sz=n∧0<ob.xs.length∧ob.xs.length+b.size≤2147483648 then some (.c (.ref s.st.length),Ai s.st l ++ [⟨e,n,ob.xs++Ny b,ob.wr,true⟩]) else none
     | none=>none
    | _,_=>none
   else none
  | _,_,_=>none
 | some e,some (.int _)=>ADP P s e x y
 | _,_=>none
theorem AFG (h:Core w0 St0 St β s a w) (o:Oper) (T T':TypeId) (c:Call) (x y:Operand) (ho:o.op = .call c) (hcl:c.callee = .builtin .append) (hca:c.args.toList = [x,y]) (hct:c.argTypes.toList = [T,T']) (hc:Ak x=true) (hc2:Ak y=true)
  {z:AV} {st':List Ob} (hy:xm P s T T' (Ei s x) (Ei s y)=some (z,st')):Does P a w w0 St0 s o z st':=by
 have hx:=CO h x hc
 have hyy:=CO h y hc2
 have ha1:c.argTypes = #[T,T']:=AOp
 have ha2:c.args = #[x,y]:=AOq
 have hexec:∀ v w',(Builtin.append_ #[T,T'] o.type #[a.eval x,a.eval y]).run P w = .ok v w'→(execOp a.eval o).run P w = .ok (.value v) w':=by
  exact ALF
 unfold xm at hy
 split at hy
 ·rename_i e hte hu
  have ht:=Ja hte
  split at hy
  ·rename_i n cs0 by' hs hz0 hb
   obtain⟨zs,hz,_,rfl⟩:=OL hz0
   split at hy
   ·rename_i hcond
    obtain⟨⟨hzl0,hn1⟩,hby⟩:=hcond
    have hn:0<n:=AOQ
    have hzl:zs.length=n:=APb
    split at hy
    ·rename_i l bs hevx hevy
     rw[hevy] at hyy
     obtain⟨hvy,_⟩:=OO hyy
     generalize hysd:Ny bs=ys at hy
     generalize hnews:strCells bs=news
     have hys:ys.length=bs.size:=by rw[← hysd]; exact tH bs
     have hyfl0:ys.flatten=bs.data.toList.map fun x=>.v (.int .u8 x.toNat):=by rw[← hysd]; exact nN bs
     have hyl:∀ r∈ys,r.length=n:=fun r hr=>by
      rw[← hysd] at hr
      obtain⟨x,_,rfl⟩:=sD.1 hr
      simp[hn1]
     have hysno:∀ (k:Nat) (c:Cl),ys.flatten[k]?=some c→Gm c=false:=fun k c hk=>by
      rw[hyfl0,mW,zf] at hk
      obtain⟨x,_,rfl⟩:=hk
      rfl
     have hyfl:ys.flatten.length=ys.length*n:=EK hyl
     have n1:news.length=ys.length*n:=by rw[← hnews,strCells_length,hys,hn1,Nat.mul_one]
     have n3:∀ (k:Nat) (c:Cl),ys.flatten[k]?=some c→∃ u,news[k]?=some u∧RdC w St s.st β c u:=fun k c hk=>by
      rw[hyfl0,mW,zf] at hk
      obtain⟨x,hx,rfl⟩:=hk
      refine⟨.int .u8 x.toNat,by rw[← hnews,strCells,mW,hx]; rfl, ?_⟩
      simp only[RdC,RdD,true_and]
      have:=x.toNat_lt
      simp only[QN,Lit.wf,ay,aZ]
      simp[IntKind.min,IntKind.max,IntKind.bits,IntKind.signed]
      omega
     have n4:∀ u∈news,u.oneCell'=true:=by rw[← hnews]; exact strCells_oneCell bs
     have htab:∃ i z',P.info? e=some i∧i.zero=some z'∧i.size=n∧i.bytes=by'∧z'.cells.size=n:=by
      exact AIH
     obtain⟨i,z',hi,hiz,hsz,hbs,hzs⟩:=htab
     split at hy
     ·rename_i ob hob
      split at hy
      ·rename_i hoc
       obtain⟨hty,hosz,hxpos,hle⟩:=hoc
       rw[← hys] at hle
       simp only[ak,bK] at hy
       obtain⟨rfl,rfl⟩:=hy
       exact Zw h o hsz hzs hn hc hevx hob hty hosz hle hyl hysno n1 n3 (fun b0 cap cs q1 q2 q3 q4=>by
        have hr:=nK (P:=P) w T T' o.type e i ht hu hi hsz hn1 b0 ob.xs.length cap cs q1 bs ys.length hys q3 (by rw[hnews]; exact q2)
        rw[← q4,← hvy,hnews] at hr
        exact hexec _ _ hr) (fun b0 cap olds q1 q2 q3 q4=>by
        have hr:=nM (P:=P) w T T' o.type e i z' ht hu hi hiz ⟨b0,0,none⟩ ob.xs.length cap olds q1 q2 bs ys.length hys q3 AOQ (by
         exact growslice_fits AOQ APW)
        rw[← q4,← hvy,hnews] at hr
        exact hexec _ _ hr) (fun _ q=>by rw[q] at hxpos; simp at hxpos)
      ·cases hy
     ·cases hy
    ·cases hy
   ·cases hy
  ·cases hy
 ·rename_i e kn hte hu
  exact AFF h o T T' e kn hte hu c x y ho hcl hca hct hc hc2 hy
 ·cases hy
end Go.Vm
