/- A part. -/
import Derived.Test.YtnfbaclikokapaaGreatVmY
import Derived.Lib.AppendStr
import Derived.Orders
set_option linter.unusedSimpArgs false
set_option linter.unusedVariables false
namespace Go.Vm
open Go.RowKit Go.Lib
variable {P:Program} {w0:Bs} {St0 St:Nat→Nat→Prop} {β:Nat→Option Nat} {s:MS} {a:Act} {w:World}
theorem jJ {P:Program} (w:World) (t u ty e:TypeId) (i:TypeInfo) (ht:P.underlying t=some (.slice e)) (hu:P.underlying u=some .string) (hi:P.info? e=some i) {n:Nat} (hsz:i.size=n) (hn:n=1)
  (g sLen sCap:Nat) (cur:Array Value) (hg:w.heap[g]?=some (.cells cur e (0,0))) (s:ByteArray) (m:Nat) (hm:m=s.size) (hroom:sLen+m≤sCap) (hfit:sLen*n+(strCells s).length≤cur.size) :
  (Builtin.append_ #[t,u] ty #[.slice (some ⟨g,0,none⟩) sLen sCap,.string s]).run P w =
   .ok (.slice (some ⟨g,0,none⟩) (sLen+m) sCap) (w.setRow g (cur.toList.take (sLen*n)++strCells s++cur.toList.drop (sLen*n+(strCells s).length)).toArray):=by
 grind [strCells_length,run_append_room_string]
theorem jK {P:Program} (w:World) (t u ty e:TypeId) (i:TypeInfo) (z:Value) (ht:P.underlying t=some (.slice e)) (hu:P.underlying u=some .string) (hi:P.info? e=some i) (hz:i.zero=some z)
  (b:Addr) (sLen sCap:Nat) (olds:List Value) (hlo:olds.length=sLen*i.size) (holds:∀ j v,olds[j]?=some v→w.cell? (b.add j)=some v) (s:ByteArray) (m:Nat) (hm:m=s.size)
  (hg:sCap<sLen+m) (h63:((sLen+m:Nat):Int)≤9223372036854775807) (hfit:Builtin.nextslicecap (sLen+m) sCap*i.bytes≤281474976710656) :
  (Builtin.append_ #[t,u] ty #[.slice (some b) sLen sCap,.string s]).run P w =
   .ok (.slice (some ⟨w.heap.size,0,none⟩) (sLen+m) (grownCap w (sLen+m) sCap e))
    (w.drew.alloc (.cells (olds.toArray++(strCells s).toArray++Builtin.zeroCells z.cells (grownCap w (sLen+m) sCap e-(sLen+m))) e)):=by
 grind [run_append_grow_string]
def MQ (b:ByteArray):List (List Cl):=b.data.toList.map fun x=>[.v (.int .u8 x.toNat)]
theorem oG (b:ByteArray):(MQ b).length=b.size:=by simp only[MQ,ae]; rfl
theorem jL (b:ByteArray):(MQ b).flatten=b.data.toList.map fun x=>.v (.int .u8 x.toNat):=by
 unfold MQ
 induction b.data.toList with
 | nil=>rfl
 | cons x l ih=>grind
def tK (P:Program) (s:MS) (T T':TypeId) (x y:AV):Option (AV×List Ob):=match DZ P T,P.underlying T' with
 | some e,some .string=>match AZ P e,TQ P e,EE P e with
  | some n,some zs,some by'=>if(zs.length=n∧n=1)∧by'≤65536 then match x,y with
    | .c (.ref l),.c (.v (.string b))=>match CO s.st l with
     | some ob=>if ob.ty=e∧ob.sz=n∧0<ob.xs.length∧ob.xs.length+b.size≤2147483648 then some (.c (.ref s.st.length),Ae s.st l ++ [⟨e,n,ob.xs++MQ b,ob.wr,true⟩]) else none
     | none=>none
    | _,_=>none
   else none
  | _,_,_=>none
 | _,_=>none
theorem ACo (h:Core w0 St0 St β s a w) (o:Oper) (T T':TypeId) (c:Call) (x y:Operand) (ho:o.op = .call c) (hcl:c.callee = .builtin .append) (hca:c.args.toList = [x,y]) (hct:c.argTypes.toList = [T,T']) (hc:Ar x=true) (hc2:Ar y=true)
  {z:AV} {st':List Ob} (hy:tK P s T T' (EC s x) (EC s y)=some (z,st')):Does P a w w0 St0 s o z st':=by
 have hx:=Bl h x hc
 have hyy:=Bl h y hc2
 have ha1:c.argTypes = #[T,T']:=by have:=congrArg List.toArray hct; simpa using this
 have ha2:c.args = #[x,y]:=by have:=congrArg List.toArray hca; simpa using this
 have hexec:∀ v w',(Builtin.append_ #[T,T'] o.type #[a.eval x,a.eval y]).run P w = .ok v w'→(execOp a.eval o).run P w = .ok (.value v) w':=by
  intro v w' hr
  simp[execOp,ho,resolve,hcl,ha1,ha2,invoke,builtin,hr]
 unfold tK at hy
 split at hy
 ·rename_i e hte hu
  have ht:=LJ hte
  split at hy
  ·rename_i n cs0 by' hs hz0 hb
   obtain⟨zs,hz,_,rfl⟩:=PW hz0
   split at hy
   ·rename_i hcond
    obtain⟨⟨hzl0,hn1⟩,hby⟩:=hcond
    have hn:0<n:=by omega
    have hzl:zs.length=n:=by simpa using hzl0
    split at hy
    ·rename_i l bs hevx hevy
     rw[hevy] at hyy
     obtain⟨hvy,_⟩:=Nb hyy
     have hxx:AVR w St s.st β (EC s x) (a.eval x):=hx
     generalize hysd:MQ bs=ys at hy
     generalize hnews:strCells bs=news
     have hys:ys.length=bs.size:=by rw[← hysd]; exact oG bs
     have hyfl0:ys.flatten=bs.data.toList.map fun x=>.v (.int .u8 x.toNat):=by rw[← hysd]; exact jL bs
     have hyl:∀ r∈ys,r.length=n:=fun r hr=>by
      rw[← hysd] at hr
      obtain⟨x,_,rfl⟩:=WY.1 hr
      simp[hn1]
     have hysno:∀ (k:Nat) (c:Cl),ys.flatten[k]?=some c→E8 c=false:=fun k c hk=>by
      rw[hyfl0,lD,yQ] at hk
      obtain⟨x,_,rfl⟩:=hk
      rfl
     have hyfl:ys.flatten.length=ys.length*n:=Dp hyl
     have n1:news.length=ys.length*n:=by rw[← hnews,strCells_length,hys,hn1,Nat.mul_one]
     have n3:∀ (k:Nat) (c:Cl),ys.flatten[k]?=some c→∃ u,news[k]?=some u∧RdC w St s.st β c u:=fun k c hk=>by
      rw[hyfl0,lD,yQ] at hk
      obtain⟨x,hx,rfl⟩:=hk
      refine⟨.int .u8 x.toNat,by rw[← hnews,strCells,lD,hx]; rfl, ?_⟩
      simp only[RdC,RdD,true_and]
      have:=x.toNat_lt
      simp only[O9,Lit.wf,ak,bf]
      simp[IntKind.min,IntKind.max,IntKind.bits,IntKind.signed]
      omega
     have n4:∀ u∈news,u.oneCell'=true:=by rw[← hnews]; exact strCells_oneCell bs
     have htab:∃ i z',P.info? e=some i∧i.zero=some z'∧i.size=n∧i.bytes=by'∧z'.cells.size=n:=by
      unfold AZ at hs; unfold PV at hz; unfold EE at hb
      cases hi:P.info? e with
      | none=>grind
      | some i =>
       cases hiz:i.zero with
       | none=>grind
       | some z' =>
        grind
     obtain⟨i,z',hi,hiz,hsz,hbs,hzs⟩:=htab
     split at hy
     ·rename_i ob hob
      split at hy
      ·rename_i hoc
       obtain⟨hty,hosz,hxpos,hle⟩:=hoc
       rw[← hys] at hle
       simp only[ah,bJ] at hy
       obtain⟨rfl,rfl⟩:=hy
       rw[hevx] at hxx
       obtain⟨hl,hlive⟩:=Aw hob
       simp only[AVR,RdC,A_,hl] at hxx
       have hx2:=hxx.2 hlive
       obtain⟨k1,k2⟩:=h.kill l
       have hkr:∀ c u,RdC w St s.st β c u→RdC w St (Ae s.st l) β c u:=fun c u hc=>by
        have:=k2 (.c c) u (by simpa only[AVR] using hc)
        simpa only[AVR] using this
       have hkrB:∀ c u,RdB w St s.st β c u→RdB w St (Ae s.st l) β c u:=fun c u hc=>by
        cases c with
        | ow ty sz xs=>exact hc
        | v y=>exact hkr (.v y) u hc
        | sl y=>exact hkr (.sl y) u hc
        | ref y=>exact hkr (.ref y) u hc
       have hll:l<s.st.length:=(az.1 hl).1
       have hkl:=Hf s.st l
       cases hβ:β l with
       | none =>
        grind
       | some b0 =>
        simp only[hβ] at hx2
        obtain⟨cap,cs,hvx,c1,c2,c3,c4⟩:=hx2
        obtain⟨p1,p2,cs',p3,p4,p5⟩:=h.obs l ob b0 hl hlive hβ
        rw[c3] at p3
        simp only[ah,Obj.cells.injEq,yY] at p3
        subst p3
        have hfree:∀ l' o2,(Ae s.st l)[l']?=some o2→o2.live=true→β l'≠some b0:=fun l' o2 h2 hl2 hb2=>by
         obtain⟨o3,r1,r2,r3⟩:=GV h2
         by_cases e2:l=l'
         ·grind
         ·have:=r3 e2
          subst this
          exact e2 (h.inj l l' ob o2 b0 hl r1 hlive hl2 hβ hb2)
        have hkeep:∀ o,St b0 o→ob.wr=false∧o<ob.xs.length*ob.sz:=fun o hbo=>h.sep l ob b0 o hl hlive hβ hbo
        have hxfl:ob.xs.flatten.length=ob.xs.length*n:=by rw[Dp p4,hosz]
        have hlall:∀ r∈ob.xs++ys,r.length=n:=fun r hr=>by
         grind
        have hcap:cs.size=cap*n:=by rw[c4,hosz]
        have hFC:ob.xs.flatten.length≤cs.toList.length:=Kq (R:=fun c u=>RdB w St s.st β c u) (fun k c hk=>by grind)
        have holdl:(cs.toList.take (ob.xs.length*n)).length=ob.xs.length*n:=by
         rw[bC,X4 (by omega)]
        have hold:∀ (k:Nat) (c:Cl),ob.xs.flatten[k]?=some c→∃ u,(cs.toList.take (ob.xs.length*n))[k]?=some u∧RdB w St s.st β c u:=fun k c hk=>by
         grind
        have hboth:∀ (k:Nat) (c:Cl),(ob.xs++ys).flatten[k]?=some c→∃ u,(cs.toList.take (ob.xs.length*n)++news)[k]?=some u∧RdB w St (Ae s.st l) β c u:=fun k c hk=>by
         rw[aaP] at hk
         rcases bI k (ob.xs.length*n) with h' | h'
         ·grind
         ·rw[aX (by omega),hxfl] at hk
          rw[aX (by omega),holdl]
          obtain⟨u,u1,u2⟩:=n3 _ c hk
          exact⟨u,u1,(hkr _ _ u2).toB⟩
        by_cases hroom:ob.xs.length+ys.length≤cap
        ·
         have hcsl:cs.toList.length=cs.size:=by simp
         have hcapm:(ob.xs.length+ys.length)*n≤cap*n:=aaE _ hroom
         have hfit:ob.xs.length*i.size+news.length≤cs.size:=by rw[hsz,n1,hcap,← iW]; exact hcapm
         have hr:=jJ (P:=P) w T T' o.type e i ht hu hi hsz hn1 b0 ob.xs.length cap cs (by grind) bs ys.length hys hroom (by grind)
         rw[← hvx,← hvy,hnews] at hr
         rw[hsz] at hfit
         generalize hcs':(cs.toList.take (ob.xs.length*n)++news++cs.toList.drop (ob.xs.length*n+news.length)).toArray=C' at hr
         have hC's:C'.size=cs.size:=by
          rw[← hcs']
          simp only[abk,aW,yT,holdl]
          omega
         have hC'at:∀ k,k<ob.xs.length*n+news.length→C'[k]?=(cs.toList.take (ob.xs.length*n)++news)[k]?:=fun k hk=>by
          grind
         have hturn:=k1.turn (b:=b0) p1 (oD h hl hlive hβ) hfree c3 (cs':=C') (fun o hbo=>by
          grind) hC's
         have hcell:∀ b' o,St b' o→(w.setRow b0 C').cell? ⟨b',o,none⟩=w.cell? ⟨b',o,none⟩:=fun b' o hbo=>by
          by_cases e2:b'=b0
          ·subst e2
           have ho:=(hkeep o hbo).2
           rw[hosz] at ho
           rw[World.cell?,World.cell?,setRow_heap w b' cs C' ob.ty (0,0) c3,c3]
           grind
          grind [cell_of_block,setRow_other]
         have hrr:∀ l' u,A_ w (Ae s.st l) β l' u→A_ (w.setRow b0 C') (Ae s.st l) β l' u:=by
          intro l' u hu
          unfold A_ at hu ⊢
          cases hq:(Ae s.st l)[l']? with
          | none=>grind
          | some o2 =>
           grind [setRow_other]
         obtain⟨a1,a2,a3⟩:=hturn.addObB ⟨e,n,ob.xs++ys,ob.wr,true⟩ (some b0) (by simp) (fun b' hb=>by
          simp only[ah] at hb
          subst hb
          refine⟨p1,by simp_all,hfree,fun o hbo=>?_,C',by grind [setRow_heap],hlall,fun k c hk=>?_⟩
          ·grind
          ·obtain⟨u,u1,u2⟩:=hboth k c hk
           have hk':k<ob.xs.length*n+news.length:=by
            have:=(az.1 u1).1
            simpa only[aW,holdl] using this
           exact⟨u,by grind,RdB.mono (fun _ _ h=>h) hcell hrr _ _ u2⟩) (by
          refine Tc h hl hlive hβ (ys:=ys) rfl hysno (fun x hx=>?_) (by simp_all) hcell (fun l2 o2 b2 h1 h2 h3 h4=>?_) (fun k hk=>?_)
          ·have hxb:x≠b0:=fun e2=>hx.2.2.2.2 l ob hl hlive (by rw[hβ,e2])
           grind [setRow_other]
          ·exact setRow_other w b0 b2 C' fun e2=>h4 (h.inj l l2 ob o2 b0 hl h1 hlive h2 hβ (by rw[h3,e2]))
          ·have hk':k<ob.xs.length*n:=by rw[← hxfl]; exact hk
           rw[World.cell?,World.cell?,setRow_heap w b0 cs C' ob.ty (0,0) c3,c3]
           grind)
         refine⟨_,_,_,St,_,hexec _ _ hr,.inl rfl,a1, ?_⟩
         rw[← hkl]
         exact LZ (b:=some b0) rfl (by simp) fun _=>⟨cap,C',by simp,by grind,c2,by grind [setRow_heap],by grind⟩
        ·
         have holds:∀ (j:Nat) (v:Value),(cs.toList.take (ob.xs.length*n))[j]?=some v→w.cell? ((⟨b0,0,none⟩:Addr).add j)=some v:=fun j v hj=>by
          rw[yS] at hj
          split at hj
          ·rw[addr_add,World.cell?,c3]
           grind
          ·cases hj
         have hr:=jK (P:=P) w T T' o.type e i z' ht hu hi hiz ⟨b0,0,none⟩ ob.xs.length cap (cs.toList.take (ob.xs.length*n)) (by grind) holds bs ys.length hys (by omega) (by omega) (by
          exact growslice_fits (by omega) (by rw[hbs]; exact Jn (.inl hle) hby (aN _)))
         rw[← hvx,← hvy,hnews] at hr
         have hge:=grownCap_ge w (ob.xs.length+ys.length) cap e
         obtain⟨β',g1,g2⟩:=Td k1 e n (ob.xs++ys) ob.wr (cs.toList.take (ob.xs.length*n)++news) (Builtin.zeroCells z'.cells (grownCap w (ob.xs.length+ys.length) cap e-(ob.xs.length+ys.length))) (grownCap w (ob.xs.length+ys.length) cap e) hlall (by
          grind) hboth (by grind) (grownCap_le_maxLen w _ cap e (by simp only[maxLen]; omega)) (by rw[size_zeroCells,hzs]; simp) (by
          have hbd:=EX w (.cells ((cs.toList.take (ob.xs.length*n)++news).toArray++Builtin.zeroCells z'.cells (grownCap w (ob.xs.length+ys.length) cap e-(ob.xs.length+ys.length))) e)
          refine Tc h hl hlive hβ (ys:=ys) rfl hysno (fun x hx=>⟨fun e2=>by have:=hx.2.2.1; omega,hbd.block x hx.2.2.1⟩) hbd.size (fun b o hbo=>cell_of_block (hbd.block b (h.stIn b o hbo))) (fun l2 o2 b2 h1 h2 h3 _=>hbd.block b2 (h.obs l2 o2 b2 h1 h2 h3).2.1) (fun k hk=>?_)
          have hk':k<ob.xs.length*n:=by rw[← hxfl]; exact hk
          rw[World.cell?,World.cell?,D6 w _,c3]
          grind)
         simp only[hkl,aW] at g2
         have earr:(cs.toList.take (ob.xs.length*n)++news).toArray=(cs.toList.take (ob.xs.length*n)).toArray++news.toArray:=by simp
         rw[earr] at g1 g2
         exact⟨_,_,_,St,β',hexec _ _ hr,.inl rfl,g1,g2⟩
      ·cases hy
     ·cases hy
    ·cases hy
   ·cases hy
  ·cases hy
 ·cases hy
def same (st:List Ob):Option AV→Option (AV×List Ob)
 | some y=>some (y,st)
 | none=>none
def jM (st:List Ob):List AV→Option (List (List Cl)×List Ob)
 | []=>some ([],st)
 | .ip row::r=>match jM st r with
  | some (xs,st')=>some (row::xs,st')
  | none=>none
 | .lp l i off::r=>match CO st l with
  | some ob=>if F5 ob.xs=true then match ob.xs[i]? with
   | some row=>match jM (O5 st l) r with
    | some (xs,st')=>some (row.drop off::xs,st')
    | none=>none
   | none=>none
   else none
  | none=>none
 | _::_=>none
theorem Hw (h:Core w0 St0 St β s a w):∀ (xs:List Operand),xs.all Ar=true→AVRs w St s.st β (xs.map (EC s)) (xs.map a.eval)
 | [],_=>by simp[AVRs]
 | x::xs,hc=>by
  simp only[bK,ak] at hc
  simp only[XA,AVRs]
  exact⟨_,_,rfl,Bl h x hc.1,Hw h xs hc.2⟩
theorem jO:∀ (cs:List AV) (vs:List Value) (st st':List Ob) (xs:List (List Cl)) (St:Nat→Nat→Prop),Core w0 St0 St β ⟨s.n,s.env,st⟩ a w→AVRs w St st β cs vs→jM st cs=some (xs,st') →
  ∃ St',Core w0 St0 St' β ⟨s.n,s.env,st'⟩ a w∧(∀ b o,St b o→St' b o)∧vs.length=xs.length∧∀ (k:Nat) (c:List Cl),xs[k]?=some c→∃ b off,vs[k]?=some (.pointer (some ⟨b,off,none⟩))∧RdL w St' c b off
 | [],vs,st,st',xs,St,h,hv,hx=>by
  simp only[jM,ah,bJ] at hx
  obtain⟨rfl,rfl⟩:=hx
  simp only[AVRs] at hv
  subst hv
  exact⟨St,h,fun _ _ h=>h,rfl,fun k c hk=>by simp at hk⟩
 | c::cs,vs,st,st',xs,St,h,hv,hx=>by
  simp only[AVRs] at hv
  obtain⟨v,vs,rfl,h1,h2⟩:=hv
  cases c with
  | ip row =>
   simp only[jM] at hx
   split at hx
   ·rename_i ys st1 hy
    simp only[ah,bJ] at hx
    obtain⟨rfl,rfl⟩:=hx
    obtain⟨St',q1,q2,q3,q4⟩:=jO cs vs st st1 ys St h h2 hy
    simp only[AVR] at h1
    grind [aB,ah,RdL.mono]
   ·cases hx
  | lp l i off =>
   simp only[jM] at hx
   split at hx
   ·rename_i ob hob
    split at hx
    ·rename_i hp
     split at hx
     ·rename_i row hrow
      split at hx
      ·rename_i ys st1 hy
       simp only[ah,bJ] at hx
       obtain⟨rfl,rfl⟩:=hx
       obtain⟨St1,f1,f2,_,f4⟩:=h.freeze l hob hp
       obtain⟨hl,hlive⟩:=Aw hob
       simp only[AVR,hl] at h1
       obtain⟨b,hβ,rfl⟩:=h1 hlive
       have h2':AVRs w St1 (O5 st l) β cs vs:=AVRs.mono f2 (fun _ _ _=>rfl) (fun l' u hu=>(U1 l' u).2 hu) (LY fun l' ob' hl'=>ng hl') cs vs h2
       obtain⟨St',q1,q2,q3,q4⟩:=jO cs vs (O5 st l) st1 ys St1 f1 h2' hy
       obtain⟨g1,g2⟩:=f4 b hβ
       have hr:RdL w St1 (row.drop off) b (i*ob.sz+off):=by
        have:=(g2.at ob.sz g1 i row hrow).drop off
        simpa using this
       grind [aB,ah,RdL.mono]
      ·cases hx
     ·cases hx
    ·cases hx
   ·cases hx
  | _=>simp[jM] at hx
def Uj (P:Program) (s:MS) (o:Op):Option (AV×List Ob):=match o with
 | .alloc T=>OO P s T
 | .box T x=>AAx s T (EC s x)
 | .store T p x=>X8 P s T (EC s p) (EC s x)
 | .makeSlice T l c=>nY P s T (EC s l) (EC s c)
 | .buildSlice T len ps=>Ju P s T len ps.toList
 | .build T ps=>if Dk P T then Ro P s T ps.toList else none
 | .slice T x lo hi none=>Rw P s T (EC s x) lo hi
 | .load T x=>match Hr P s (.load T x) with
  | some y=>some (y,s.st)
  | none=>wZ P s T (EC s x)
 | .makeFunc (.func f) first caps=>if first.toList.isEmpty=true then match jM s.st (caps.toList.map (EC s)) with
  | some (xs,st')=>some (.clo f xs,st')
  | none=>none
  else none
 | .call c=>match c.callee with
  | .builtin .append=>match c.args.toList,c.argTypes.toList with
   | [x,y],[T,T']=>if T=T' then uG P s T (EC s x) (EC s y) else tK P s T T' (EC s x) (EC s y)
   | _,_=>none
  | _=>same s.st (Hr P s (.call c))
 | op=>same s.st (Hr P s op)
theorem ACp {st st':List Ob} {x:Option AV} {y:AV} (h:same st x=some (y,st')):x=some y∧st'=st:=by
 cases x with
 | none=>simp[same] at h
 | some z=>simp only[same,ah,bJ] at h; grind
theorem NG (h:Core w0 St0 St β s a w) {o:Oper} {y:AV} (hg:Gives P a w St s.st β o y):Does P a w w0 St0 s o y s.st:=by
 obtain⟨v,h1,h2⟩:=hg
 exact⟨_,v,w,St,β,h1,.inl rfl,h,h2⟩
theorem AA9 (h:Core w0 St0 St β s a w) (o:Oper) (T:TypeId) (x:Operand) (ho:o.op = .load T x) (hc:Ar x=true) {y:AV} {st':List Ob} (hy:wZ P s T (EC s x)=some (y,st')):Does P a w w0 St0 s o y st':=by
 have he:=Bl h x hc
 unfold wZ at hy
 split at hy
 ·rename_i l i off hg hev
  split at hy
  ·rename_i ob hob
   split at hy
   ·rename_i hwr
    split at hy
    ·rename_i row hrow
     split at hy
     ·rename_i ty sz xs hcell
      simp only[ah,bJ] at hy
      obtain⟨rfl,rfl⟩:=hy
      obtain⟨b,u,β',hb,hu,hcore,href⟩:=h.openCell hob hwr hrow hcell
      rw[hev] at he
      obtain⟨hl,hlive⟩:=Aw hob
      simp only[AVR,hl] at he
      obtain⟨b2,hb2,hv⟩:=he hlive
      rw[hb] at hb2
      cases hb2
      refine⟨.value u,u,w,St,β', ?_,.inl rfl,hcore,by simpa only[AVR] using href⟩
      simp[execOp,ho,hv,Instr.loadAt,Instr.sureAddr,loadVar,TR hg,hu]
     ·cases hy
    ·cases hy
   ·cases hy
  ·cases hy
 ·cases hy
theorem tN (h:Core w0 St0 St β s a w) (o:Oper) (hc:o.op.operands.toList.all Ar=true) {y:AV} {st':List Ob} (hy:Uj P s o.op=some (y,st')):Does P a w w0 St0 s o y st':=by
 have hF:∀ {y:AV} {st':List Ob},same s.st (Hr P s o.op)=some (y,st')→Does P a w w0 St0 s o y st':=fun {y st'} hs=>by
  obtain⟨h1,rfl⟩:=ACp hs
  grind [NG,iq]
 cases hop:o.op with
 | alloc T=>rw[hop] at hy; exact AAy h o T hop hy
 | load T x =>
  rw[hop] at hy hc
  simp only[Uj] at hy
  split at hy
  ·grind [ah,bJ,NG,iq]
  ·exact AA9 h o T x hop (by simpa [Op.operands] using hc) hy
 | box T x =>
  rw[hop] at hy hc
  exact AEg h o T x hop (by simpa [Op.operands] using hc) hy
 | makeFunc fn first caps =>
  rw[hop] at hy hc
  cases fn with
  | func f =>
   simp only[Uj] at hy
   split at hy
   ·rename_i hfe
    split at hy
    ·rename_i xs st1 hx
     simp only[ah,bJ] at hy
     obtain⟨rfl,rfl⟩:=hy
     have hcc:caps.toList.all Ar=true:=by
      simp only[Op.operands,aaO,Zi,ak] at hc
      exact hc.2
     obtain⟨St',q1,q2,q3,q4⟩:=jO _ _ s.st _ xs St h (Hw h caps.toList hcc) hx
     have hf0:first = #[]:=by
      apply wC
      simpa using hfe
     have e:caps.map a.eval=(caps.toList.map a.eval).toArray:=by apply wC; simp
     refine⟨.value (.func (.func f) #[] (caps.map a.eval)),.func (.func f) #[] (caps.map a.eval),w,St',β,by simp[execOp,hop,hf0,Instr.makeFunc],.inl rfl,q1, ?_⟩
     simp only[AVR]
     grind
    ·cases hy
   ·cases hy
  | _=>simp[Uj,Hr,same] at hy
 | store T p x =>
  rw[hop] at hy hc
  simp[Op.operands] at hc
  exact AA0 h o T p x hop hc.1 hc.2 hy
 | makeSlice T l c =>
  rw[hop] at hy hc
  simp[Op.operands] at hc
  exact ACh h o T l c hop hc.1 hc.2 hy
 | buildSlice T len ps =>
  rw[hop] at hy hc
  exact Zk h o T len ps hop (by simpa [Op.operands,Function.comp_def] using hc) hy
 | build T ps =>
  rw[hop] at hy hc
  simp only[Uj] at hy
  split at hy
  ·rename_i hfo
   exact AA1 h o T ps hop hfo (by simpa [Op.operands,Function.comp_def] using hc) hy
  ·cases hy
 | slice T x lo hi mx =>
  cases mx with
  | none =>
   rw[hop] at hy hc
   simp[Op.operands] at hc
   refine AA8 h o T x lo hi hop hc.1 ?_ ?_ hy
   ·cases lo with
    | none=>rfl
    | some q=>exact hc.2.1 q rfl
   ·cases hi with
    | none=>rfl
    | some q=>exact hc.2.2 q rfl
  | some m=>rw[hop] at hy; simp[Uj,Hr,same] at hy
 | call c =>
  by_cases hap:c.callee = .builtin .append
  ·rw[hop] at hy hc
   simp only[Uj,hap] at hy
   split at hy
   ·rename_i x y2 T T' hca hct
    split at hy
    ·rename_i hT
     subst hT
     simp only[Op.operands,Call.operands,aaO,Zi,ak,hca] at hc
     grind [AC8]
    ·simp only[Op.operands,Call.operands,aaO,Zi,ak,hca] at hc
     grind [ACo]
   ·cases hy
  ·rw[hop] at hy
   have:Uj P s (.call c)=same s.st (Hr P s (.call c)):=by
    simp only[Uj]
   grind
 | _=>exact hF (by rw[hop] at hy ⊢; exact hy)
theorem I4 (o:Oper) (c:Call) (f:FuncId) (ho:o.op = .call c) (hcl:c.callee = .value (.func f)) (hin:CallsIn P f):(execOp a.eval o).run P w = .ok (.enter f (c.args.map a.eval)) w:=by
 have:=hin (c.args.map a.eval) w
 simp[execOp,ho,resolve,hcl,Act.eval,Deferred.ofValue,invoke,this]
theorem wL (o:Oper) (c:Call) (f:FuncId) (x:Operand) (caps:Array Value) (ho:o.op = .call c) (hcl:c.callee = .value x) (hx:a.eval x = .func (.func f) #[] caps) (hin:CallsIn P f):(execOp a.eval o).run P w = .ok (.enter f (c.args.map a.eval++caps)) w:=by
 have:=hin (c.args.map a.eval++caps) w
 simp[execOp,ho,resolve,hcl,hx,Deferred.ofValue,invoke,this]
theorem Qc (h:Core w0 St0 St β s a w) {rs:List Res} {e:Ending} {w':World} {us:List Value} {bs:List (Option Nat)} {St':Nat→Nat→Prop} (hb:Back w St rs e w' us bs St'):Core w0 St0 St' β s a w':=
 h.grow hb.below hb.st hb.stOld hb.stIn
theorem AA_ (h:Core w0 St0 St β s a w) {rs:List Res} {e:Ending} {w':World} {us:List Value} {bs:List (Option Nat)} {St':Nat→Nat→Prop} (hb:Back w St rs e w' us bs St'):Own w0 (fun x=>w.heap.size≤x) w' St' s.st β:=
 h.own.grow hb.below hb.st hb.stOld h.stIn (fun l ob b h1 h2 h3=>(h.obs l ob b h1 h2 h3).2.1) (fun x h1 h2=>by omega)
theorem ResR.blk {w w':World} {St':Nat→Nat→Prop}:∀ (rs:List Res) (us:List Value) (bs:List (Option Nat)) (Φs:List (Nat→Nat→Prop)),ResR w' St' w.heap.size rs us bs Φs→∀ (i b:Nat),bs[i]?=some (some b)→w.heap.size≤b:=by
 intro rs
 induction rs with
 | nil=>intro us bs Φs h i b hi; obtain⟨_,rfl,_⟩:=h; simp at hi
 | cons r rs ih =>
  intro us bs Φs h i b hi
  obtain⟨u,us',b0,bs',Φ,Φs',rfl,rfl,rfl,h1,h2⟩:=h
  cases i with
  | succ i=>grind
  | zero =>
   simp only[aB,ah] at hi
   subst hi
   cases r with
   | val x=>exact absurd h1.2 (by simp)
   | own ty sz xs wr=>exact h1.1
   | agg cl=>exact absurd h1.1 (by simp)
theorem YD (h:Core w0 St0 St β s a w) {rs:List Res} {e:Ending} {w':World} {us:List Value} {bs:List (Option Nat)} {St':Nat→Nat→Prop} (hb:Back w St rs e w' us bs St') :
  ∃ β',Core w0 St0 St' β' ⟨s.n,s.env,(Ii s.st rs).2⟩ a w'∧AVRs w' St' (Ii s.st rs).2 β' (Ii s.st rs).1 us:=by
 obtain⟨Φs,hr,hf⟩:=hb.res
 have hfr:∀ x,w.heap.size≤x→∀ l o2,s.st[l]?=some o2→o2.live=true→β l≠some x:=fun x hx l o2 hl hlv hβ=>by
  have:=(h.obs l o2 x hl hlv hβ).2.1
  omega
 obtain⟨β',q1,q2,_⟩:=XE w.heap.size rs us bs Φs s.st β (fun x=>w.heap.size≤x) (Qc h hb) h.below.size (AA_ h hb) hr hf
  (fun i b hi=>⟨ResR.blk rs us bs Φs hr i b hi,hfr b (ResR.blk rs us bs Φs hr i b hi)⟩) (fun i Φ k x hi hx=>⟨(hf.fresh i Φ k x hi hx).1,hfr x (hf.fresh i Φ k x hi hx).1⟩)
 grind
def InlS (P:Program) (f:FuncId) (st:List Ob) (args:List AV) (y:AV) (st':List Ob):Prop:=CallsIn P f∧∀ (w0:Bs) (St0 St:Nat→Nat→Prop) (β:Nat→Option Nat) (s:MS) (a:Act) (w:World) (us:List Value),s.st=st→Core w0 St0 St β s a w→AVRs w St st β args us →
 Calls P f us.toArray w fun e w'=>∃ u,e = .returned u∧∃ St' β',Core w0 St0 St' β' ⟨s.n,s.env,st'⟩ a w'∧AVR w' St' st' β' y u
def Bj (P:Program) (s:MS) (o:Op) (r:AV):Prop:=match o with
 | .call c=>match c.callee with
  | .value (.func f)=>(∃ args rs,(O6 s.st (c.args.toList.map (EC s))=some (args,s.st)∨(Q8 s.st (c.args.toList.map (EC s))=some args∧rs.all Pi=true))∧Ctr P f args rs∧r=retA (U5 rs))∨InlS P f s.st (c.args.toList.map (EC s)) r s.st
  | .value (.tmp t)=>match unpin (BZ s.env t) with
   | .clo f xs=>∃ args rs,O6 s.st (c.args.toList.map (EC s))=some (args,s.st)∧Ctr P f (args++xs.map AV.ip) rs∧r=retA (U5 rs)
   | _=>False
  | .builtin .append=>False
  | _=>Hr P s (.call c)=some r
 | .build T ps=>Dk P T=true∧Ro P s T ps.toList=some (r,s.st)
 | .slice T x lo hi none=>Rw P s T (EC s x) lo hi=some (r,s.st)
 | op=>Hr P s op=some r
theorem U6 (h:Core w0 St0 St β s a w) (o:Oper) (hc:o.op.operands.toList.all Ar=true) {r:AV} (hr:Bj P s o.op r) (Q:Exit→Act→World→Prop) :
  o.wp P a w (fun a' w'=>Sim w0 St0 (s.put o.dst r) a' w') Q:=by
 have hD:∀ {r:AV},Does P a w w0 St0 s o r s.st→o.wp P a w (fun a' w'=>Sim w0 St0 (s.put o.dst r) a' w') Q:=fun {r} hd=>by
  obtain⟨nx,v,w',St',β',h1,h2,h3,h4⟩:=hd
  unfold Oper.wp
  rw[h1]
  rcases h2 with rfl | ⟨rfl,rfl⟩
  ·exact⟨St',β',h3.put o.dst h4⟩
  ·exact⟨St',β',h3.put o.dst h4⟩
 have hF:∀ {r:AV},Hr P s o.op=some r→o.wp P a w (fun a' w'=>Sim w0 St0 (s.put o.dst r) a' w') Q:=fun {r} hs=>hD (NG h (iq h o hc hs))
 cases hop:o.op with
 | call c =>
  rw[hop] at hr
  simp only[Bj] at hr
  split at hr
  ·rename_i f hcl
   have hca:c.args.toList.all Ar=true:=by
    rw[hop] at hc
    simp only[Op.operands,Call.operands,aaO,Zi,ak] at hc
    exact hc.2
   rcases hr with hr | ⟨hin,hr⟩
   rotate_left
   ·have hcall:=hr w0 St0 St β s a w _ rfl h (Hw h c.args.toList hca)
    have ea:(c.args.toList.map a.eval).toArray=c.args.map a.eval:=by apply wC; simp
    rw[ea] at hcall
    unfold Oper.wp
    rw[I4 o c f hop hcl hin]
    simp only[Oper.upon]
    refine hcall.mono fun e w' hb=>?_
    obtain⟨u,rfl,St',β',h1,h2⟩:=hb
    exact⟨St',β',h1.put o.dst h2⟩
   obtain⟨args,rs,hf,hspec,rfl⟩:=hr
   rcases hf with hf | hf
   ·obtain⟨St1,q1,q2,q3⟩:=MO _ _ _ _ St h hf
    have hargs:=q3 _ (Hw h c.args.toList hca)
    unfold Oper.wp
    rw[I4 o c f hop hcl hspec.1]
    simp only[Oper.upon]
    have hcall:=hspec.2 w St1 (c.args.toList.map a.eval) q1.stIn hargs
    have ea:(c.args.toList.map a.eval).toArray=c.args.map a.eval:=by apply wC; simp
    rw[ea] at hcall
    refine hcall.mono fun e w' hb=>?_
    obtain⟨us,bs,St2,hb⟩:=hb
    obtain⟨bs3,St3,hb3⟩:=TW hb
    have k1:=Qc q1 hb3
    have e1:=hb.ret
    subst e1
    obtain⟨Φs3,hr3,_⟩:=hb3.res
    have k3:=jG rs hr3
    refine⟨St3,β,k1.put o.dst (Ji ?_)⟩
    have key:∀ (xs:List AV) (us:List Value),RdAs w' St3 xs us→AVRs w' St3 s.st β xs us:=by
     intro xs
     induction xs with
     | nil=>intro us h; simp only[AVRs]; exact h
     | cons x xs ih =>
      intro us h
      obtain⟨y,ys,h1,h2,h3⟩:=h
      simp only[AVRs]
      exact⟨y,ys,h1,h2.toAVR,ih ys h3⟩
    grind
   ·obtain⟨φ,hφ⟩:=h.own
    have hargs:=YB h hφ hf.1 (Hw h c.args.toList hca)
    unfold Oper.wp
    rw[I4 o c f hop hcl hspec.1]
    simp only[Oper.upon]
    have hcall:=hspec.2 w _ (c.args.toList.map a.eval) (fun b o hb=>AllSt.lt h hφ hb) hargs
    have ea:(c.args.toList.map a.eval).toArray=c.args.map a.eval:=by apply wC; simp
    rw[ea] at hcall
    refine hcall.mono fun e w' hb=>?_
    obtain⟨us,bs,St2,hb⟩:=hb
    have hb:=hb.clo hf.2 h.stIn
    obtain⟨bs3,St3,hb3⟩:=TW hb
    have k1:=Qc h hb3
    have e1:=hb.ret
    subst e1
    obtain⟨Φs3,hr3,_⟩:=hb3.res
    have k3:=jG rs hr3
    refine⟨St3,β,k1.put o.dst (Ji ?_)⟩
    have key:∀ (xs:List AV) (us:List Value),RdAs w' St3 xs us→AVRs w' St3 s.st β xs us:=by
     intro xs
     induction xs with
     | nil=>intro us h; simp only[AVRs]; exact h
     | cons x xs ih =>
      intro us h
      obtain⟨y,ys,h1,h2,h3⟩:=h
      simp only[AVRs]
      exact⟨y,ys,h1,h2.toAVR,ih ys h3⟩
    grind
  ·rename_i t hcl
   split at hr
   ·rename_i f xs hev
    obtain⟨args,rs,hf,hspec,rfl⟩:=hr
    have hca:c.args.toList.all Ar=true:=by
     rw[hop] at hc
     simp only[Op.operands,Call.operands,aaO,Zi,ak] at hc
     exact hc.2
    obtain⟨St1,q1,q2,q3⟩:=MO _ _ _ _ St h hf
    have hargs:=q3 _ (Hw h c.args.toList hca)
    have he:AVR w St s.st β (unpin (BZ s.env t)) (a.eval (.tmp t)):=Bl h (.tmp t) (aF.1 hc _ (by rw[hop]; simp[Op.operands,Call.operands,hcl]))
    rw[hev] at he
    simp only[AVR] at he
    obtain⟨us0,hu0,hul,hur⟩:=he
    have hcap:RdAs w St1 (xs.map AV.ip) us0:=U4 hul fun k c hk=>by
     grind [RdL.mono]
    unfold Oper.wp
    rw[wL o c f (.tmp t) us0.toArray hop hcl hu0 hspec.1]
    simp only[Oper.upon]
    have hcall:=hspec.2 w St1 (c.args.toList.map a.eval++us0) q1.stIn (X_ hargs hcap)
    have ea:(c.args.toList.map a.eval++us0).toArray=c.args.map a.eval++us0.toArray:=by apply wC; simp
    rw[ea] at hcall
    refine hcall.mono fun e w' hb=>?_
    obtain⟨us,bs,St2,hb⟩:=hb
    obtain⟨bs3,St3,hb3⟩:=TW hb
    have k1:=Qc q1 hb3
    have e1:=hb.ret
    subst e1
    obtain⟨Φs3,hr3,_⟩:=hb3.res
    have k3:=jG rs hr3
    refine⟨St3,β,k1.put o.dst (Ji ?_)⟩
    have key:∀ (xs:List AV) (us:List Value),RdAs w' St3 xs us→AVRs w' St3 s.st β xs us:=by
     intro xs
     induction xs with
     | nil=>intro us h; simp only[AVRs]; exact h
     | cons x xs ih =>
      intro us h
      obtain⟨y,ys,h1,h2,h3⟩:=h
      simp only[AVRs]
      exact⟨y,ys,h1,h2.toAVR,ih ys h3⟩
    grind
   grind
  ·exact hr.elim
  grind
 | build T ps =>
  rw[hop] at hr
  refine hD (tN h o hc ?_)
  rw[hop]
  simp only[Bj] at hr
  simp only[Uj,hr.1,bD]
  exact hr.2
 | slice T x lo hi mx =>
  rw[hop] at hr
  cases mx with
  | none =>
   refine hD (tN h o hc ?_)
   rw[hop]
   exact hr
  | some m=>simp only[Bj,Hr] at hr; cases hr
 | _=>exact hF (by rw[hop] at hr ⊢; exact hr)
theorem dV {s s':MS} {x:Operand} (h:∀ t,x = .tmp t→BZ s'.env t=BZ s.env t):EC s' x=EC s x:=by
 cases x with
 | tmp t=>exact congrArg unpin (h t rfl)
 | _=>rfl
theorem OQ {s s':MS} (hst:s'.st=s.st) (o:Op) (h:∀ t,.tmp t∈o.operands.toList→BZ s'.env t=BZ s.env t) (r:AV) (hr:Bj P s o r):Bj P s' o r:=by
 have he:∀ x,x∈o.operands.toList→EC s' x=EC s x:=fun x hx=>dV fun t ht=>h t (by grind)
 cases o with
 | call c =>
  have hargs:∀ x∈c.args.toList,EC s' x=EC s x:=fun x hx=>he x (by
   simp only[Op.operands,Call.operands,aaO,yU]
   exact .inr hx)
  have hmap:c.args.toList.map (EC s')=c.args.toList.map (EC s):=aaM hargs
  simp only[Bj] at hr ⊢
  split at hr
  ·grind
  ·rename_i t hcl
   have ht:BZ s'.env t=BZ s.env t:=h t (by simp[Op.operands,Call.operands,hcl])
   grind
  ·exact hr
  ·simp only[Hr] at hr ⊢
   grind
 | build T ps =>
  have hps:∀ p∈ps.toList,EC s' p.2=EC s p.2:=fun p hp=>he p.2 (by
   simp only[Op.operands]
   grind)
  have key:∀ (l:List (Nat×Operand)),(∀ p∈l,EC s' p.2=EC s p.2)→He s' l=He s l:=by
   intro l
   induction l with
   | nil=>intro _; rfl
   | cons p l ih=>intro hl; simp only[He,hl p (by simp),ih (fun q hq=>hl q (by simp[hq]))]
  simp only[Bj,Ro,key _ hps,hst] at hr ⊢
  exact hr
 | slice T x lo hi mx =>
  cases mx with
  | none =>
   have h1:EC s' x=EC s x:=he x (by simp[Op.operands])
   have h2:∀ d,IV s' lo d=IV s lo d:=fun d=>by
    cases lo with
    | none=>rfl
    | some q=>simp only[IV]; rw[he q (by simp[Op.operands])]
   have h3:∀ d,IV s' hi d=IV s hi d:=fun d=>by
    cases hi with
    | none=>rfl
    | some q=>simp only[IV]; rw[he q (by simp[Op.operands])]
   simp only[Bj,Rw,h1,h2,h3,hst] at hr ⊢
   exact hr
  | some m=>simp only[Bj,Hr] at hr; cases hr
 | move x=>simp only[Bj,Hr] at hr ⊢; rw[he x (by simp[Op.operands])]; exact hr
 | assign x=>simp only[Bj,Hr] at hr ⊢; rw[he x (by simp[Op.operands])]; exact hr
 | pick c x y=>simp only[Bj,Hr] at hr ⊢; rw[he c (by simp[Op.operands]),he x (by simp[Op.operands]),he y (by simp[Op.operands])]; exact hr
 | load T x=>simp only[Bj,Hr] at hr ⊢; rw[he x (by simp[Op.operands]),hst]; exact hr
 | nilCheck x=>simp only[Bj,Hr] at hr ⊢; rw[he x (by simp[Op.operands]),hst]; exact hr
 | binOp op T x y T2=>simp only[Bj,Hr] at hr ⊢; rw[he x (by simp[Op.operands]),he y (by simp[Op.operands])]; exact hr
 | unOp op T x=>simp only[Bj,Hr] at hr ⊢; rw[he x (by simp[Op.operands])]; exact hr
 | convert a b x=>simp only[Bj,Hr] at hr ⊢; rw[he x (by simp[Op.operands]),hst]; exact hr
 | fieldAddr T x f=>simp only[Bj,Hr] at hr ⊢; rw[he x (by simp[Op.operands]),hst]; exact hr
 | field T x f=>simp only[Bj,Hr] at hr ⊢; rw[he x (by simp[Op.operands])]; exact hr
 | indexAddr T x y=>simp only[Bj,Hr] at hr ⊢; rw[he x (by simp[Op.operands]),he y (by simp[Op.operands]),hst]; exact hr
 | index T x y=>simp only[Bj,Hr] at hr ⊢; rw[he x (by simp[Op.operands]),he y (by simp[Op.operands])]; exact hr
 | extract x i=>simp only[Bj,Hr] at hr ⊢; rw[he x (by simp[Op.operands])]; exact hr
 | _=>simp only[Bj,Hr] at hr; cases hr
end Go.Vm
