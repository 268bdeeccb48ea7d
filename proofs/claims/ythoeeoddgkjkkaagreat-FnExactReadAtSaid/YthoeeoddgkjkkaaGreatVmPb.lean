/- The value machine, part Pb: append(bytes, text...). -/
import Derived.Test.YthoeeoddgkjkkaaGreatVmPa
import Derived.Lib.AppendStr
namespace Go.Vm
set_option linter.unusedSimpArgs false
set_option linter.unusedVariables false
open Go.RowKit Go.Lib
variable {P:Program} {w0:Bs} {St0 St:Nat→Nat→Prop} {β:Nat→Option Nat} {s:MS} {a:Act} {w:World}
theorem XL {P:Program} (w:World) (t u ty e:TypeId) (i:TypeInfo) (ht:P.underlying t=some (.slice e)) (hu:P.underlying u=some .string) (hi:P.info? e=some i) {n:Nat} (hsz:i.size=n) (hn:n=1)
  (g sLen sCap:Nat) (cur:Array Value) (hg:w.heap[g]?=some (.cells cur e (0,0))) (s:ByteArray) (m:Nat) (hm:m=s.size) (hroom:sLen+m≤sCap) (hfit:sLen*n+(strCells s).length≤cur.size) :
  (Builtin.append_ #[t,u] ty #[.slice (some ⟨g,0,none⟩) sLen sCap,.string s]).run P w =
   .ok (.slice (some ⟨g,0,none⟩) (sLen+m) sCap) (w.setRow g (cur.toList.take (sLen*n)++strCells s++cur.toList.drop (sLen*n+(strCells s).length)).toArray):=by
 subst hn; subst hm
 rw[strCells_length,Nat.mul_one] at hfit ⊢
 exact run_append_room_string (P:=P) w t u ty e i ht hu hi hsz g sLen sCap cur hg s hroom hfit
theorem XM {P:Program} (w:World) (t u ty e:TypeId) (i:TypeInfo) (z:Value) (ht:P.underlying t=some (.slice e)) (hu:P.underlying u=some .string) (hi:P.info? e=some i) (hz:i.zero=some z)
  (b:Addr) (sLen sCap:Nat) (olds:List Value) (hlo:olds.length=sLen*i.size) (holds:∀ j v,olds[j]?=some v→w.cell? (b.add j)=some v) (s:ByteArray) (m:Nat) (hm:m=s.size)
  (hg:sCap<sLen+m) (h63:((sLen+m:Nat):Int)≤9223372036854775807) (hfit:Builtin.nextslicecap (sLen+m) sCap*i.bytes≤281474976710656) :
  (Builtin.append_ #[t,u] ty #[.slice (some b) sLen sCap,.string s]).run P w =
   .ok (.slice (some ⟨w.heap.size,0,none⟩) (sLen+m) (grownCap w (sLen+m) sCap e))
    (w.drew.alloc (.cells (olds.toArray++(strCells s).toArray++Builtin.zeroCells z.cells (grownCap w (sLen+m) sCap e-(sLen+m))) e)):=by
 subst hm
 exact run_append_grow_string (P:=P) w t u ty e i z ht hu hi hz b sLen sCap olds hlo holds s hg h63 hfit
def JU (b:ByteArray):List (List Cl):=b.data.toList.map fun x=>[.v (.int .u8 x.toNat)]
theorem ZJ (b:ByteArray):(JU b).length=b.size:=by simp only[JU,List.length_map]; rfl
theorem XN (b:ByteArray):(JU b).flatten=b.data.toList.map fun x=>.v (.int .u8 x.toNat):=by
 unfold JU
 induction b.data.toList with
 | nil=>rfl
 | cons x l ih=>simp only[List.map_cons,List.flatten_cons,ih]; rfl
def bz (P:Program) (s:MS) (T T':TypeId) (x y:AV):Option (AV×List Ob):=match C_ P T,P.underlying T' with
 | some e,some .string=>match AO P e,E8 P e,AQ P e with
  | some n,some zs,some by'=>if(zs.length=n∧n=1)∧by'≤65536 then match x,y with
    | .c (.ref l),.c (.v (.string b))=>match Cc s.st l with
     | some ob=>if ob.ty=e∧ob.sz=n∧0<ob.xs.length∧ob.xs.length+b.size≤2147483648 then some (.c (.ref s.st.length),Aa s.st l ++ [⟨e,n,ob.xs++JU b,ob.wr,true⟩]) else none
     | none=>none
    | _,_=>none
   else none
  | _,_,_=>none
 | _,_=>none
theorem ou (h:Core w0 St0 St β s a w) (o:Oper) (T T':TypeId) (c:Call) (x y:Operand) (ho:o.op = .call c) (hcl:c.callee = .builtin .append) (hca:c.args.toList = [x,y]) (hct:c.argTypes.toList = [T,T']) (hc:Ap x=true) (hc2:Ap y=true)
  {z:AV} {st':List Ob} (hy:bz P s T T' (Dp s x) (Dp s y)=some (z,st')):Does P a w w0 St0 s o z st':=by
 have hx:=BR h x hc
 have hyy:=BR h y hc2
 have ha1:c.argTypes = #[T,T']:=by have:=congrArg List.toArray hct; simpa using this
 have ha2:c.args = #[x,y]:=by have:=congrArg List.toArray hca; simpa using this
 have hexec:∀ v w',(Builtin.append_ #[T,T'] o.type #[a.eval x,a.eval y]).run P w = .ok v w'→(execOp a.eval o).run P w = .ok (.value v) w':=by
  intro v w' hr
  simp[execOp,ho,resolve,hcl,ha1,ha2,invoke,builtin,hr]
 unfold bz at hy
 split at hy
 ·rename_i e hte hu
  have ht:=Ii hte
  split at hy
  ·rename_i n cs0 by' hs hz0 hb
   obtain⟨zs,hz,_,rfl⟩:=LY hz0
   split at hy
   ·rename_i hcond
    obtain⟨⟨hzl0,hn1⟩,hby⟩:=hcond
    have hn:0<n:=by omega
    have hzl:zs.length=n:=by simpa using hzl0
    split at hy
    ·rename_i l bs hevx hevy
     rw[hevy] at hyy
     obtain⟨hvy,_⟩:=Jp hyy
     have hxx:AVR w St s.st β (Dp s x) (a.eval x):=hx
     generalize hysd:JU bs=ys at hy
     generalize hnews:strCells bs=news
     have hys:ys.length=bs.size:=by rw[← hysd]; exact ZJ bs
     have hyfl0:ys.flatten=bs.data.toList.map fun x=>.v (.int .u8 x.toNat):=by rw[← hysd]; exact XN bs
     have hyl:∀ r∈ys,r.length=n:=fun r hr=>by
      rw[← hysd] at hr
      obtain⟨x,_,rfl⟩:=List.mem_map.1 hr
      simp[hn1]
     have hysno:∀ (k:Nat) (c:Cl),ys.flatten[k]?=some c→Ei c=false:=fun k c hk=>by
      rw[hyfl0,List.getElem?_map,Option.map_eq_some_iff] at hk
      obtain⟨x,_,rfl⟩:=hk
      rfl
     have hyfl:ys.flatten.length=ys.length*n:=DW hyl
     have n1:news.length=ys.length*n:=by rw[← hnews,strCells_length,hys,hn1,Nat.mul_one]
     have n3:∀ (k:Nat) (c:Cl),ys.flatten[k]?=some c→∃ u,news[k]?=some u∧RdC w St s.st β c u:=fun k c hk=>by
      rw[hyfl0,List.getElem?_map,Option.map_eq_some_iff] at hk
      obtain⟨x,hx,rfl⟩:=hk
      refine⟨.int .u8 x.toNat,by rw[← hnews,strCells,List.getElem?_map,hx]; rfl, ?_⟩
      simp only[RdC,RdD,true_and]
      have:=x.toNat_lt
      simp only[Kt,Lit.wf,Bool.and_eq_true,decide_eq_true_eq]
      simp[IntKind.min,IntKind.max,IntKind.bits,IntKind.signed]
      omega
     have n4:∀ u∈news,u.oneCell'=true:=by rw[← hnews]; exact strCells_oneCell bs
     have htab:∃ i z',P.info? e=some i∧i.zero=some z'∧i.size=n∧i.bytes=by'∧z'.cells.size=n:=by
      unfold AO at hs; unfold LX at hz; unfold AQ at hb
      cases hi:P.info? e with
      | none=>simp[hi] at hs
      | some i =>
       cases hiz:i.zero with
       | none=>simp[hi,hiz] at hz
       | some z' =>
        simp[hi] at hs hb
        simp[hi,hiz] at hz
        exact⟨i,z',rfl,hiz,hs,hb,by rw[← hzl,← hz]; simp⟩
     obtain⟨i,z',hi,hiz,hsz,hbs,hzs⟩:=htab
     split at hy
     ·rename_i ob hob
      split at hy
      ·rename_i hoc
       obtain⟨hty,hosz,hxpos,hle⟩:=hoc
       rw[← hys] at hle
       simp only[Option.some.injEq,Prod.mk.injEq] at hy
       obtain⟨rfl,rfl⟩:=hy
       rw[hevx] at hxx
       obtain⟨hl,hlive⟩:=BG hob
       simp only[AVR,RdC,Aw,hl] at hxx
       have hx2:=hxx.2 hlive
       obtain⟨k1,k2⟩:=h.kill l
       have hkr:∀ c u,RdC w St s.st β c u→RdC w St (Aa s.st l) β c u:=fun c u hc=>by
        have:=k2 (.c c) u (by simpa only[AVR] using hc)
        simpa only[AVR] using this
       have hkrB:∀ c u,RdB w St s.st β c u→RdB w St (Aa s.st l) β c u:=fun c u hc=>by
        cases c with
        | ow ty sz xs=>exact hc
        | v y=>exact hkr (.v y) u hc
        | sl y=>exact hkr (.sl y) u hc
        | ref y=>exact hkr (.ref y) u hc
       have hll:l<s.st.length:=(List.getElem?_eq_some_iff.1 hl).1
       have hkl:=Fa s.st l
       cases hβ:β l with
       | none =>
        simp only[hβ] at hx2
        obtain⟨_,hobx⟩:=hx2
        rw[hobx] at hxpos
        simp at hxpos
       | some b0 =>
        simp only[hβ] at hx2
        obtain⟨cap,cs,hvx,c1,c2,c3,c4⟩:=hx2
        obtain⟨p1,p2,cs',p3,p4,p5⟩:=h.obs l ob b0 hl hlive hβ
        rw[c3] at p3
        simp only[Option.some.injEq,Obj.cells.injEq,and_true] at p3
        subst p3
        have hfree:∀ l' o2,(Aa s.st l)[l']?=some o2→o2.live=true→β l'≠some b0:=fun l' o2 h2 hl2 hb2=>by
         obtain⟨o3,r1,r2,r3⟩:=Dz h2
         by_cases e2:l=l'
         ·rw[r2 e2] at hl2; simp at hl2
         ·have:=r3 e2
          subst this
          exact e2 (h.inj l l' ob o2 b0 hl r1 hlive hl2 hβ hb2)
        have hkeep:∀ o,St b0 o→ob.wr=false∧o<ob.xs.length*ob.sz:=fun o hbo=>h.sep l ob b0 o hl hlive hβ hbo
        have hxfl:ob.xs.flatten.length=ob.xs.length*n:=by rw[DW p4,hosz]
        have hlall:∀ r∈ob.xs++ys,r.length=n:=fun r hr=>by
         rcases List.mem_append.1 hr with h1 | h1
         ·rw[p4 r h1,hosz]
         ·exact hyl r h1
        have hcap:cs.size=cap*n:=by rw[c4,hosz]
        have hFC:ob.xs.flatten.length≤cs.toList.length:=IW (R:=fun c u=>RdB w St s.st β c u) (fun k c hk=>by simpa using p5 k c hk)
        have holdl:(cs.toList.take (ob.xs.length*n)).length=ob.xs.length*n:=by
         rw[List.length_take,Nat.min_eq_left (by omega)]
        have hold:∀ (k:Nat) (c:Cl),ob.xs.flatten[k]?=some c→∃ u,(cs.toList.take (ob.xs.length*n))[k]?=some u∧RdB w St s.st β c u:=fun k c hk=>by
         obtain⟨u,u1,u2⟩:=p5 k c hk
         have hk':k<ob.xs.length*n:=by rw[← hxfl]; exact(List.getElem?_eq_some_iff.1 hk).1
         exact⟨u,by rw[List.getElem?_take,if_pos hk']; simpa using u1,u2⟩
        have hboth:∀ (k:Nat) (c:Cl),(ob.xs++ys).flatten[k]?=some c→∃ u,(cs.toList.take (ob.xs.length*n)++news)[k]?=some u∧RdB w St (Aa s.st l) β c u:=fun k c hk=>by
         rw[List.flatten_append] at hk
         rcases Nat.lt_or_ge k (ob.xs.length*n) with h' | h'
         ·rw[List.getElem?_append_left (by omega)] at hk ⊢
          obtain⟨u,u1,u2⟩:=hold k c hk
          exact⟨u,u1,hkrB _ _ u2⟩
         ·rw[List.getElem?_append_right (by omega),hxfl] at hk
          rw[List.getElem?_append_right (by omega),holdl]
          obtain⟨u,u1,u2⟩:=n3 _ c hk
          exact⟨u,u1,(hkr _ _ u2).toB⟩
        by_cases hroom:ob.xs.length+ys.length≤cap
        ·
         have hcsl:cs.toList.length=cs.size:=by simp
         have hcapm:(ob.xs.length+ys.length)*n≤cap*n:=Nat.mul_le_mul_right _ hroom
         have hfit:ob.xs.length*i.size+news.length≤cs.size:=by rw[hsz,n1,hcap,← Nat.add_mul]; exact hcapm
         have hr:=XL (P:=P) w T T' o.type e i ht hu hi hsz hn1 b0 ob.xs.length cap cs (by rw[← hty]; exact c3) bs ys.length hys hroom (by rw[hnews,← hsz]; exact hfit)
         rw[← hvx,← hvy,hnews] at hr
         rw[hsz] at hfit
         generalize hcs':(cs.toList.take (ob.xs.length*n)++news++cs.toList.drop (ob.xs.length*n+news.length)).toArray=C' at hr
         have hC's:C'.size=cs.size:=by
          rw[← hcs']
          simp only[List.size_toArray,List.length_append,List.length_drop,holdl]
          omega
         have hC'at:∀ k,k<ob.xs.length*n+news.length→C'[k]?=(cs.toList.take (ob.xs.length*n)++news)[k]?:=fun k hk=>by
          rw[← hcs']
          simp only[List.getElem?_toArray]
          rw[List.getElem?_append_left (by simp only[List.length_append,holdl]; exact hk)]
         have hturn:=k1.turn (b:=b0) p1 (ZI h hl hlive hβ) hfree c3 (cs':=C') (fun o hbo=>by
          have ho:=(hkeep o hbo).2
          rw[hosz] at ho
          rw[hC'at o (by omega),List.getElem?_append_left (by omega),List.getElem?_take,if_pos ho]
          simp) hC's
         have hcell:∀ b' o,St b' o→(w.setRow b0 C').cell? ⟨b',o,none⟩=w.cell? ⟨b',o,none⟩:=fun b' o hbo=>by
          by_cases e2:b'=b0
          ·subst e2
           have ho:=(hkeep o hbo).2
           rw[hosz] at ho
           rw[World.cell?,World.cell?,setRow_heap w b' cs C' ob.ty (0,0) c3,c3]
           simp only[Option.isSome_none,Bool.false_eq_true,if_false]
           rw[hC'at o (by omega),List.getElem?_append_left (by omega),List.getElem?_take,if_pos ho]
           simp
          ·exact cell_of_block (setRow_other w b0 b' C' e2)
         have hrr:∀ l' u,Aw w (Aa s.st l) β l' u→Aw (w.setRow b0 C') (Aa s.st l) β l' u:=by
          intro l' u hu
          unfold Aw at hu ⊢
          cases hq:(Aa s.st l)[l']? with
          | none=>simp[hq] at hu
          | some o2 =>
           simp only[hq] at hu ⊢
           refine⟨hu.1,fun hl2=>?_⟩
           have h2:=hu.2 hl2
           cases hb2:β l' with
           | none=>simpa [hb2] using h2
           | some b2 =>
            simp only[hb2] at h2 ⊢
            have hne2:b2≠b0:=fun e2=>hfree l' o2 hq hl2 (by rw[hb2,e2])
            rw[setRow_other w b0 b2 C' hne2]; exact h2
         obtain⟨a1,a2,a3⟩:=hturn.addObB ⟨e,n,ob.xs++ys,ob.wr,true⟩ (some b0) (by simp) (fun b' hb=>by
          simp only[Option.some.injEq] at hb
          subst hb
          refine⟨p1,by simpa [World.setRow] using p2,hfree,fun o hbo=>?_,C',by rw[setRow_heap w b0 cs C' ob.ty (0,0) c3,hty],hlall,fun k c hk=>?_⟩
          ·have:=hkeep o hbo
           rw[hosz] at this
           refine⟨this.1, ?_⟩
           simp only[List.length_append,Nat.add_mul]
           omega
          ·obtain⟨u,u1,u2⟩:=hboth k c hk
           have hk':k<ob.xs.length*n+news.length:=by
            have:=(List.getElem?_eq_some_iff.1 u1).1
            simpa only[List.length_append,holdl] using this
           exact⟨u,by rw[hC'at k hk']; exact u1,RdB.mono (fun _ _ h=>h) hcell hrr _ _ u2⟩) (by
          refine PD h hl hlive hβ (ys:=ys) rfl hysno (fun x hx=>?_) (by simp[World.setRow]) hcell (fun l2 o2 b2 h1 h2 h3 h4=>?_) (fun k hk=>?_)
          ·have hxb:x≠b0:=fun e2=>hx.2.2.2.2 l ob hl hlive (by rw[hβ,e2])
           exact⟨hxb,setRow_other w b0 x C' hxb⟩
          ·exact setRow_other w b0 b2 C' fun e2=>h4 (h.inj l l2 ob o2 b0 hl h1 hlive h2 hβ (by rw[h3,e2]))
          ·have hk':k<ob.xs.length*n:=by rw[← hxfl]; exact hk
           rw[World.cell?,World.cell?,setRow_heap w b0 cs C' ob.ty (0,0) c3,c3]
           simp only[Option.isSome_none,Bool.false_eq_true,if_false]
           rw[hC'at k (by omega),List.getElem?_append_left (by omega),List.getElem?_take,if_pos hk']
           simp)
         refine⟨_,_,_,St,_,hexec _ _ hr,.inl rfl,a1, ?_⟩
         rw[← hkl]
         exact Iw (b:=some b0) rfl (by simp) fun _=>⟨cap,C',by simp,by simpa using hroom,c2,by rw[setRow_heap w b0 cs C' ob.ty (0,0) c3,hty],by rw[hC's,hcap]⟩
        ·
         have holds:∀ (j:Nat) (v:Value),(cs.toList.take (ob.xs.length*n))[j]?=some v→w.cell? ((⟨b0,0,none⟩:Addr).add j)=some v:=fun j v hj=>by
          rw[List.getElem?_take] at hj
          split at hj
          ·rw[addr_add,World.cell?,c3]
           simp only[Option.isSome_none,Bool.false_eq_true,if_false,Nat.zero_add]
           simpa using hj
          ·cases hj
         have hr:=XM (P:=P) w T T' o.type e i z' ht hu hi hiz ⟨b0,0,none⟩ ob.xs.length cap (cs.toList.take (ob.xs.length*n)) (by rw[hsz]; exact holdl) holds bs ys.length hys (by omega) (by omega) (by
          exact growslice_fits (by omega) (by rw[hbs]; exact H7 (.inl hle) hby (Nat.le_refl _)))
         rw[← hvx,← hvy,hnews] at hr
         have hge:=grownCap_ge w (ob.xs.length+ys.length) cap e
         obtain⟨β',g1,g2⟩:=PG k1 e n (ob.xs++ys) ob.wr (cs.toList.take (ob.xs.length*n)++news) (Builtin.zeroCells z'.cells (grownCap w (ob.xs.length+ys.length) cap e-(ob.xs.length+ys.length))) (grownCap w (ob.xs.length+ys.length) cap e) hlall (by
          simp only[List.length_append,holdl,n1,Nat.add_mul]) hboth (by simpa using hge) (grownCap_le_maxLen w _ cap e (by simp only[maxLen]; omega)) (by rw[size_zeroCells,hzs]; simp) (by
          have hbd:=Dv w (.cells ((cs.toList.take (ob.xs.length*n)++news).toArray++Builtin.zeroCells z'.cells (grownCap w (ob.xs.length+ys.length) cap e-(ob.xs.length+ys.length))) e)
          refine PD h hl hlive hβ (ys:=ys) rfl hysno (fun x hx=>⟨fun e2=>by have:=hx.2.2.1; omega,hbd.block x hx.2.2.1⟩) hbd.size (fun b o hbo=>cell_of_block (hbd.block b (h.stIn b o hbo))) (fun l2 o2 b2 h1 h2 h3 _=>hbd.block b2 (h.obs l2 o2 b2 h1 h2 h3).2.1) (fun k hk=>?_)
          have hk':k<ob.xs.length*n:=by rw[← hxfl]; exact hk
          rw[World.cell?,World.cell?,DT w _,c3]
          simp only[Option.isSome_none,Bool.false_eq_true,if_false]
          rw[Array.getElem?_append_left (by simp only[List.size_toArray,List.length_append,holdl]; omega)]
          simp only[List.getElem?_toArray]
          rw[List.getElem?_append_left (by omega),List.getElem?_take,if_pos hk']
          simp)
         simp only[hkl,List.length_append] at g2
         have earr:(cs.toList.take (ob.xs.length*n)++news).toArray=(cs.toList.take (ob.xs.length*n)).toArray++news.toArray:=by simp
         rw[earr] at g1 g2
         exact⟨_,_,_,St,β',hexec _ _ hr,.inl rfl,g1,g2⟩
      ·cases hy
     ·cases hy
    ·cases hy
   ·cases hy
  ·cases hy
 ·cases hy
end Go.Vm
