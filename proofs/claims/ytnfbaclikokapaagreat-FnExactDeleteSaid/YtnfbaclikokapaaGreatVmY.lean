/- A part. -/
import Derived.Test.YtnfbaclikokapaaGreatVmP
set_option linter.unusedSimpArgs false
set_option linter.unusedVariables false
namespace Go.Vm
open Go.RowKit
variable {P:Program} {w0:Bs} {St0 St:Nat→Nat→Prop} {β:Nat→Option Nat} {s:MS} {a:Act} {w:World}
theorem Tv (h:Core w0 St0 St β s a w) {l l2:Nat} {ob ob2:Ob} (hob:s.st[l]?=some ob) (hlive:ob.live=true) (hob2:s.st[l2]?=some ob2) (hlive2:ob2.live=true) (hne:l≠l2) {w':World} {b':Nat} {ob':Ob} (hxs:ob'.xs=ob.xs++ob2.xs) (hlv':ob'.live=true)
  (hfree:∀ x,Na w0 (fun _=>False) w St s.st β x→x≠b'∧w'.heap[x]?=w.heap[x]?) (hsize:w.heap.size≤w'.heap.size) (hcell:∀ b o,St b o→w'.cell? ⟨b,o,none⟩=w.cell? ⟨b,o,none⟩)
  (hoth:∀ (l3:Nat) (o3:Ob) (b3:Nat),s.st[l3]?=some o3→o3.live=true→β l3=some b3→l≠l3→w'.heap[b3]?=w.heap[b3]?)
  (hmv:∀ b0,β l=some b0→∀ k,k<ob.xs.flatten.length→w'.cell? ⟨b',k,none⟩=w.cell? ⟨b0,k,none⟩)
  (hmv2:∀ b2,β l2=some b2→∀ k,k<ob2.xs.flatten.length→w'.cell? ⟨b',ob.xs.flatten.length+k,none⟩=w.cell? ⟨b2,k,none⟩) :
  Own w0 (fun _=>False) w' St (Ae (Ae s.st l) l2 ++ [ob']) (fun i=>if i=s.st.length then some b' else β i):=by
 obtain⟨φ,f1,f2,f3⟩:=h.own
 have hkl:(Ae (Ae s.st l) l2).length=s.st.length:=by rw[Hf,Hf]
 have hget:∀ (i:Nat) (o:Ob),(Ae (Ae s.st l) l2 ++ [ob'])[i]?=some o→o.live=true→(i=s.st.length∧o=ob')∨(i<s.st.length∧i≠l∧i≠l2∧s.st[i]?=some o):=by
  intro i o hi hlv
  rcases bI i s.st.length with h' | h'
  ·grind [aZ,GV]
  ·grind
 have hN:∃ o,(Ae (Ae s.st l) l2 ++ [ob'])[s.st.length]?=some o∧o.live=true:=by
  refine⟨ob', ?_,hlv'⟩
  rw[aX (by omega),hkl]
  simp
 refine⟨fun i k x=>(i=s.st.length∧((k<ob.xs.flatten.length∧φ l k x)∨(ob.xs.flatten.length≤k∧φ l2 (k-ob.xs.flatten.length) x)))∨(i<s.st.length∧i≠l∧i≠l2∧φ i k x), ?_, ?_, ?_⟩
 ·intro i o b k c hi hlv hβ hk hc
  rcases hget i o hi hlv with ⟨rfl,rfl⟩ | ⟨h1,h2,h3,h4⟩
  ·simp only[bD,ah] at hβ
   subst hβ
   rw[hxs,aaP] at hk
   rcases bI k ob.xs.flatten.length with h' | h'
   ·rw[aZ h'] at hk
    cases hβl:β l with
    | none=>rw[h.nil l ob hob hlive hβl] at h'; simp at h'
    | some b0 =>
     obtain⟨u,hu,hr⟩:=f1 l ob b0 k c hob hlive hβl hk hc
     exact⟨u,by grind,RdO.mono (fun _ _ h=>h) hcell c u _ _ (fun x hx=>.inl ⟨rfl,.inl ⟨h',hx⟩⟩) (fun x hx=>(hfree x (f2 _ _ _ hx).2).2) hr⟩
   ·rw[aX h'] at hk
    have hk2:k-ob.xs.flatten.length<ob2.xs.flatten.length:=(az.1 hk).1
    cases hβl:β l2 with
    | none=>rw[h.nil l2 ob2 hob2 hlive2 hβl] at hk2; simp at hk2
    | some b2 =>
     obtain⟨u,hu,hr⟩:=f1 l2 ob2 b2 _ c hob2 hlive2 hβl hk hc
     refine⟨u, ?_,RdO.mono (fun _ _ h=>h) hcell c u _ _ (fun x hx=>.inl ⟨rfl,.inr ⟨h',hx⟩⟩) (fun x hx=>(hfree x (f2 _ _ _ hx).2).2) hr⟩
     have:=hmv2 b2 hβl _ hk2
     simp_all
  ·have hne':¬ i=s.st.length:=by omega
   simp only[hne',aT] at hβ
   obtain⟨u,hu,hr⟩:=f1 i o b k c h4 hlv hβ hk hc
   exact⟨u,by grind [cell_of_block],RdO.mono (fun _ _ h=>h) hcell c u _ _ (fun x hx=>.inr ⟨h1,h2,h3,hx⟩) (fun x hx=>(hfree x (f2 _ _ _ hx).2).2) hr⟩
 ·have free:∀ x,Na w0 (fun _=>False) w St s.st β x→Na w0 (fun _=>False) w' St (Ae (Ae s.st l) l2 ++ [ob']) (fun i=>if i=s.st.length then some b' else β i) x:=by
   intro x hx
   refine⟨hx.1,fun h=>h,bn hx.2.2.1 hsize,hx.2.2.2.1,fun i o hi hlv=>?_⟩
   rcases hget i o hi hlv with ⟨rfl,rfl⟩ | ⟨h1,h2,h3,h4⟩
   ·grind
   ·have hne':¬ i=s.st.length:=by omega
    simp only[hne',aT]
    exact hx.2.2.2.2 i o h4 hlv
  rintro i k x (⟨rfl,hx⟩ | ⟨h1,h2,h3,hx⟩)
  ·grind
  ·obtain⟨⟨o,b,p1,p2,p3⟩,p4⟩:=f2 i k x hx
   refine⟨⟨o,b, ?_,p2, ?_⟩,free x p4⟩
   ·rw[aZ (by omega)]
    rw[MP (MP p1)]
    grind
   grind
 grind
theorem Pz {st:List Ob} {l l2 l':Nat} {o2:Ob} (h2:(Ae (Ae st l) l2)[l']?=some o2) (hl:o2.live=true):st[l']?=some o2∧l≠l'∧l2≠l':=by
 grind [GV]
theorem zI (h:Core w0 St0 St β s a w) {l:Nat} (l2:Nat) {ob:Ob} {b0:Nat} (hob:s.st[l]?=some ob) (hlive:ob.live=true) (hβ:β l=some b0):Own w0 (fun x=>x=b0) w St (Ae (Ae s.st l) l2) β:=
 h.own.move id (fun x hx=>⟨⟨hx.1,fun e=>hx.2.2.2.2 l ob hob hlive (by rw[hβ,e]),hx.2.2.1,hx.2.2.2.1,fun l' o2 hl' hlv=>hx.2.2.2.2 l' o2 (Pz hl' hlv).1 hlv⟩,rfl⟩) (fun _ _ h=>h) (fun _ _ _=>rfl)
  (fun l' o2 b k c h1 h2 h3 h4 _=>⟨o2,b,(Pz h1 h2).1,h2,h3,h4,rfl⟩) (fun _ _ _ _ _ _ _ _ e=>e)
def ABc (P:Program) (s:MS) (T:TypeId) (x y:AV):Option (AV×List Ob):=match DZ P T with
 | some e=>match AZ P e,TQ P e,EE P e with
  | some n,some zs,some by'=>if zs.length=n∧0<n∧by'≤65536 then match x,y with
    | .c (.ref l),.c (.ref l2)=>match CO s.st l,CO s.st l2 with
     | some ob,some ob2=>if l≠l2∧ob.ty=e∧ob.sz=n∧ob2.sz=n∧(ob.xs.length+ob2.xs.length≤2147483648∨(ob.xs.length+ob2.xs.length≤1099511627776∧by'≤128)) then some (.c (.ref s.st.length),Ae (Ae s.st l) l2 ++ [⟨e,n,ob.xs++ob2.xs,ob.wr,true⟩]) else none
     | _,_=>none
    | _,_=>none
   else none
  | _,_,_=>none
 | none=>none
theorem AC7 (h:Core w0 St0 St β s a w) (o:Oper) (T:TypeId) (c:Call) (x y:Operand) (ho:o.op = .call c) (hcl:c.callee = .builtin .append) (hca:c.args.toList = [x,y]) (hct:c.argTypes.toList = [T,T]) (hc:Ar x=true) (hc2:Ar y=true)
  {z:AV} {st':List Ob} (hy:ABc P s T (EC s x) (EC s y)=some (z,st')):Does P a w w0 St0 s o z st':=by
 have hx:=Bl h x hc
 have hyy:=Bl h y hc2
 have ha1:c.argTypes = #[T,T]:=by have:=congrArg List.toArray hct; simpa using this
 have ha2:c.args = #[x,y]:=by have:=congrArg List.toArray hca; simpa using this
 have hexec:∀ v w',(Builtin.append_ #[T,T] o.type #[a.eval x,a.eval y]).run P w = .ok v w'→(execOp a.eval o).run P w = .ok (.value v) w':=by
  intro v w' hr
  simp[execOp,ho,resolve,hcl,ha1,ha2,invoke,builtin,hr]
 unfold ABc at hy
 split at hy
 ·rename_i e hte
  have ht:=LJ hte
  split at hy
  ·rename_i n cs0 by' hs hz0 hb
   obtain⟨zs,hz,_,rfl⟩:=PW hz0
   split at hy
   ·rename_i hcond
    obtain⟨hzl0,hn,hby⟩:=hcond
    have hzl:zs.length=n:=by simpa using hzl0
    split at hy
    ·rename_i l l2 hevx hevy
     split at hy
     ·rename_i ob ob2 hob hob2
      split at hy
      ·rename_i hoc
       obtain⟨hll2,hty,hosz,hosz2,hle⟩:=hoc
       simp only[ah,bJ] at hy
       obtain⟨rfl,rfl⟩:=hy
       obtain⟨hl,hlive⟩:=Aw hob
       obtain⟨hl2,hlive2⟩:=Aw hob2
       generalize hys:ob2.xs=ys at *
       have hyl:∀ r∈ys,r.length=n:=by
        cases hβ2:β l2 with
        | none =>
         have:=h.nil l2 ob2 hl2 hlive2 hβ2
         grind
        | some b2 =>
         obtain⟨_,_,_,_,p4,_⟩:=h.obs l2 ob2 b2 hl2 hlive2 hβ2
         grind
       rw[hevy] at hyy
       simp only[AVR] at hyy
       have hd:Q7 s.st (.ref l2)=some ys:=by simp[Q7,hob2,hys]
       obtain⟨ad,capy,hvy,_,hcells⟩:=Rl h hyy hd
       have had:∀ b2,β l2=some b2→ad=some ⟨b2,0,none⟩:=fun b2 hb2=>by
        have:=hyy
        simp only[RdC,A_,hl2] at this
        grind
       rw[hevx] at hx
       have hyfl:ys.flatten.length=ys.length*n:=Dp hyl
       have htab:∃ i z',P.info? e=some i∧i.zero=some z'∧i.size=n∧i.bytes=by'∧z'.cells.size=n:=by
        unfold AZ at hs; unfold PV at hz; unfold EE at hb
        cases hi:P.info? e with
        | none=>grind
        | some i =>
         cases hiz:i.zero with
         | none=>grind
         | some z' =>
          grind
       obtain⟨i,z',hi,hiz,hsz,hbs,hzs⟩:=htab
       have hnews:ys≠ []→∃ b off,ad=some ⟨b,off,none⟩∧∃ news:List Value,news.length=ys.length*n∧(∀ (k:Nat) (v:Value),news[k]?=some v→w.cell? ((⟨b,off,none⟩:Addr).add k)=some v) ∧
         (∀ (k:Nat) (c:Cl),ys.flatten[k]?=some c→∃ u,news[k]?=some u∧RdB w St s.st β c u)∧(∀ u∈news,u.oneCell'=true):=by
        intro hne
        rcases hcells with h0 | ⟨b,off,rfl,hcell⟩
        ·grind
        ·obtain⟨news,n1,n2⟩:=Ko (R:=fun c u=>RdB w St s.st β c u) (w:=w) (b:=b) ys.flatten off (fun k c hk=>by
          grind)
         have hat:∀ (k:Nat) (v:Value),news[k]?=some v→∃ c,ys.flatten[k]?=some c∧w.cell? ⟨b,off+k,none⟩=some v∧RdB w St s.st β c v:=fun k v hk=>by
          have hk':k<ys.flatten.length:=by rw[← n1]; exact(az.1 hk).1
          obtain⟨u,u1,u2,u3⟩:=n2 k _ (aA hk')
          grind
         grind [addr_add,aa7,RdB.one]
       simp only[AVR,RdC,A_,hl] at hx
       have hx2:=hx.2 hlive
       obtain⟨k1a,k2a⟩:=h.kill l
       obtain⟨k1,k2b⟩:=k1a.kill l2
       have k2:∀ x u,AVR w St s.st β x u→AVR w St (Ae (Ae s.st l) l2) β x u:=fun x u hx=>k2b x u (k2a x u hx)
       have hkr:∀ c u,RdC w St s.st β c u→RdC w St (Ae (Ae s.st l) l2) β c u:=fun c u hc=>by
        have:=k2 (.c c) u (by simpa only[AVR] using hc)
        simpa only[AVR] using this
       have hkrB:∀ c u,RdB w St s.st β c u→RdB w St (Ae (Ae s.st l) l2) β c u:=fun c u hc=>by
        cases c with
        | ow ty sz xs=>exact hc
        | v y=>exact hkr (.v y) u hc
        | sl y=>exact hkr (.sl y) u hc
        | ref y=>exact hkr (.ref y) u hc
       have hll:l<s.st.length:=(az.1 hl).1
       have hkl:(Ae (Ae s.st l) l2).length=s.st.length:=by rw[Hf,Hf]
       cases hβ:β l with
       | none =>
        simp only[hβ] at hx2
        obtain⟨hvx,hobx⟩:=hx2
        rw[hobx] at hle ⊢
        simp only[aI]
        by_cases hne:ys = []
        ·subst hne
         have hy0:([]:List (List Cl)).length=0:=rfl
         rw[hy0] at hvy
         have hrun:(Builtin.append_ #[T,T] o.type #[a.eval x,a.eval y]).run P w = .ok (.slice none 0 0) w:=by
          rw[hvx,hvy]; exact Gi ht hs none 0 0 (aN _) ad capy w
         obtain⟨a1,a2,a3⟩:=k1.addOb ⟨e,n,[],ob.wr,true⟩ none (fun _=>rfl) (by simp) k1.own (by simp)
         refine⟨_,.slice none 0 0,w,St,_,hexec _ _ hrun,.inl rfl,a1, ?_⟩
         rw[← hkl]
         exact LZ (b:=none) rfl (by simp) fun _=>⟨rfl,rfl⟩
        ·obtain⟨b,off,rfl,news,n1,n2,n3,n4⟩:=hnews hne
         have hpos:0<ys.length:=aa0.2 hne
         simp only[X5,Zj] at hle
         have hr:=run_append_nil (P:=P) w T o.type e i z' ht hi hiz ⟨b,off,none⟩ ys.length capy news (by grind) n2 hpos (by omega) (by rw[hbs]; have:=Jn (m:=by') hle hby (aN _); omega)
         rw[← hvx,← hvy] at hr
         have hge:=grownCap_ge w ys.length 0 e
         obtain⟨β',g1,g2⟩:=Td k1 e n ys ob.wr news (Builtin.zeroCells z'.cells (grownCap w ys.length 0 e-ys.length)) (grownCap w ys.length 0 e) hyl n1 (fun k c hk=>by
          grind) hge (grownCap_le_maxLen w ys.length 0 e (by simp only[maxLen]; omega)) (by rw[size_zeroCells,hzs]) (by
           have hbd:=EX w (.cells (news.toArray++Builtin.zeroCells z'.cells (grownCap w ys.length 0 e-ys.length)) e)
           rw[hkl]
           refine Tv h hl hlive hl2 hlive2 hll2 (by grind) rfl (fun x hx=>⟨fun e2=>by have:=hx.2.2.1; omega,hbd.block x hx.2.2.1⟩) hbd.size (fun b o hbo=>cell_of_block (hbd.block b (h.stIn b o hbo))) (fun l3 o3 b3 h1 h2 h3 _=>hbd.block b3 (h.obs l3 o3 b3 h1 h2 h3).2.1) (fun b1 e1 k hk=>by grind) (fun b2 e1 k hk=>?_)
           have:=had b2 e1
           simp only[ah,Addr.mk.injEq,yY] at this
           obtain⟨rfl,rfl⟩:=this
           rw[hys,hyfl] at hk
           have hk2:k<news.length:=by omega
           have:=n2 k _ (aA hk2)
           rw[addr_add,Zj] at this
           rw[this,World.cell?,D6 w _,hobx]
           grind)
         simp only[hkl] at g2
         exact⟨_,_,_,St,β',hexec _ _ hr,.inl rfl,g1,g2⟩
       | some b0 =>
        simp only[hβ] at hx2
        obtain⟨cap,cs,hvx,c1,c2,c3,c4⟩:=hx2
        obtain⟨p1,p2,cs',p3,p4,p5⟩:=h.obs l ob b0 hl hlive hβ
        rw[c3] at p3
        simp only[ah,Obj.cells.injEq,yY] at p3
        subst p3
        have hfree:∀ l' o2,(Ae (Ae s.st l) l2)[l']?=some o2→o2.live=true→β l'≠some b0:=fun l' o2 h2 hl2 hb2=>by
         obtain⟨r1,r2,_⟩:=Pz h2 hl2
         exact r2 (h.inj l l' ob o2 b0 hl r1 hlive hl2 hβ hb2)
        have hkeep:∀ o,St b0 o→ob.wr=false∧o<ob.xs.length*ob.sz:=fun o hbo=>h.sep l ob b0 o hl hlive hβ hbo
        have hxfl:ob.xs.flatten.length=ob.xs.length*n:=by rw[Dp p4,hosz]
        have hlall:∀ r∈ob.xs++ys,r.length=n:=fun r hr=>by
         grind
        have hcap:cs.size=cap*n:=by rw[c4,hosz]
        by_cases hne:ys = []
        ·subst hne
         have hy0:([]:List (List Cl)).length=0:=rfl
         rw[hy0] at hvy
         have hrun:(Builtin.append_ #[T,T] o.type #[a.eval x,a.eval y]).run P w = .ok (.slice (some ⟨b0,0,none⟩) ob.xs.length cap) w:=by
          rw[hvx,hvy]; exact Gi ht hs _ _ _ c1 ad capy w
         obtain⟨a1,a2,a3⟩:=k1.addObB ⟨e,n,ob.xs ++ [],ob.wr,true⟩ (some b0) (by simp) (fun b hb=>by
          grind) (by
          rw[hkl]
          exact Tv h hl hlive hl2 hlive2 hll2 (by rw[hys]) rfl (fun x hx=>⟨fun e2=>hx.2.2.2.2 l ob hl hlive (by rw[hβ,e2]),rfl⟩) (aN _) (fun _ _ _=>rfl) (fun _ _ _ _ _ _ _=>rfl) (fun b1 e1 _ _=>by grind) (fun _ _ k hk=>by grind))
         refine⟨_,_,w,St,_,hexec _ _ hrun,.inl rfl,a1, ?_⟩
         rw[← hkl]
         exact LZ (b:=some b0) rfl (by simp) fun _=>⟨cap,cs,by simp,by grind,c2,by grind,hcap⟩
        ·obtain⟨b,off,rfl,news,n1,n2,n3,n4⟩:=hnews hne
         have hpos:0<ys.length:=aa0.2 hne
         have hFC:ob.xs.flatten.length≤cs.toList.length:=Kq (R:=fun c u=>RdB w St s.st β c u) (fun k c hk=>by grind)
         have holdl:(cs.toList.take (ob.xs.length*n)).length=ob.xs.length*n:=by
          rw[bC,X4 (by omega)]
         have hold:∀ (k:Nat) (c:Cl),ob.xs.flatten[k]?=some c→∃ u,(cs.toList.take (ob.xs.length*n))[k]?=some u∧RdB w St s.st β c u:=fun k c hk=>by
          grind
         have hboth:∀ (k:Nat) (c:Cl),(ob.xs++ys).flatten[k]?=some c→∃ u,(cs.toList.take (ob.xs.length*n)++news)[k]?=some u∧RdB w St (Ae (Ae s.st l) l2) β c u:=fun k c hk=>by
          grind
         by_cases hroom:ob.xs.length+ys.length≤cap
         ·
          have hcsl:cs.toList.length=cs.size:=by simp
          have hcapm:(ob.xs.length+ys.length)*n≤cap*n:=aaE _ hroom
          have hfit:ob.xs.length*i.size+news.length≤cs.size:=by rw[hsz,n1,hcap,← iW]; exact hcapm
          have hr:=run_append_room (P:=P) w T o.type e i ht hi b0 ob.xs.length cap cs (by grind) ⟨b,off,none⟩ ys.length capy news (by grind) n2 n4 hroom hfit
          rw[← hvx,← hvy,hsz] at hr
          rw[hsz] at hfit
          generalize hcs':(cs.toList.take (ob.xs.length*n)++news++cs.toList.drop (ob.xs.length*n+news.length)).toArray=C' at hr
          have hC's:C'.size=cs.size:=by
           rw[← hcs']
           simp only[abk,aW,yT,holdl]
           omega
          have hC'at:∀ k,k<ob.xs.length*n+news.length→C'[k]?=(cs.toList.take (ob.xs.length*n)++news)[k]?:=fun k hk=>by
           grind
          have hturn:=k1.turn (b:=b0) p1 (zI h l2 hl hlive hβ) hfree c3 (cs':=C') (fun o hbo=>by
           grind) hC's
          have hcell:∀ b' o,St b' o→(w.setRow b0 C').cell? ⟨b',o,none⟩=w.cell? ⟨b',o,none⟩:=fun b' o hbo=>by
           by_cases e2:b'=b0
           ·subst e2
            have ho:=(hkeep o hbo).2
            rw[hosz] at ho
            rw[World.cell?,World.cell?,setRow_heap w b' cs C' ob.ty (0,0) c3,c3]
            grind
           grind [cell_of_block,setRow_other]
          have hrr:∀ l' u,A_ w (Ae (Ae s.st l) l2) β l' u→A_ (w.setRow b0 C') (Ae (Ae s.st l) l2) β l' u:=by
           intro l' u hu
           unfold A_ at hu ⊢
           cases hq:(Ae (Ae s.st l) l2)[l']? with
           | none=>grind
           | some o2 =>
            grind [setRow_other]
          obtain⟨a1,a2,a3⟩:=hturn.addObB ⟨e,n,ob.xs++ys,ob.wr,true⟩ (some b0) (by simp) (fun b' hb=>by
           simp only[ah] at hb
           subst hb
           refine⟨p1,by simp_all,hfree,fun o hbo=>?_,C',by grind [setRow_heap],hlall,fun k c hk=>?_⟩
           ·grind
           ·obtain⟨u,u1,u2⟩:=hboth k c hk
            have hk':k<ob.xs.length*n+news.length:=by
             have:=(az.1 u1).1
             simpa only[aW,holdl] using this
            exact⟨u,by grind,RdB.mono (fun _ _ h=>h) hcell hrr _ _ u2⟩) (by
           rw[hkl]
           refine Tv h hl hlive hl2 hlive2 hll2 (by rw[hys]) rfl (fun x hx=>?_) (by simp_all) hcell (fun l3 o3 b3 h1 h2 h3 h4=>?_) (fun b1 e1 k hk=>?_) (fun b2 e1 k hk=>?_)
           ·have hxb:x≠b0:=fun e2=>hx.2.2.2.2 l ob hl hlive (by rw[hβ,e2])
            grind [setRow_other]
           ·exact setRow_other w b0 b3 C' fun e2=>h4 (h.inj l l3 ob o3 b0 hl h1 hlive h2 hβ (by rw[h3,e2]))
           ·rw[hβ] at e1
            have:=rC e1
            subst this
            have hk':k<ob.xs.length*n:=by rw[← hxfl]; exact hk
            rw[World.cell?,World.cell?,setRow_heap w b0 cs C' ob.ty (0,0) c3,c3]
            grind
           ·have:=had b2 e1
            simp only[ah,Addr.mk.injEq,yY] at this
            obtain⟨rfl,rfl⟩:=this
            rw[hys,hyfl] at hk
            have hk2:k<news.length:=by omega
            have:=n2 k _ (aA hk2)
            rw[addr_add,Zj] at this
            rw[this,World.cell?,setRow_heap w b0 cs C' ob.ty (0,0) c3]
            simp_all)
          refine⟨_,_,_,St,_,hexec _ _ hr,.inl rfl,a1, ?_⟩
          rw[← hkl]
          exact LZ (b:=some b0) rfl (by simp) fun _=>⟨cap,C',by simp,by grind,c2,by grind [setRow_heap],by grind⟩
         ·
          have holds:∀ (j:Nat) (v:Value),(cs.toList.take (ob.xs.length*n))[j]?=some v→w.cell? ((⟨b0,0,none⟩:Addr).add j)=some v:=fun j v hj=>by
           rw[yS] at hj
           split at hj
           ·rw[addr_add,World.cell?,c3]
            grind
           ·cases hj
          have hr:=run_append_grow (P:=P) w T o.type e i z' ht hi hiz ⟨b0,0,none⟩ ob.xs.length cap (cs.toList.take (ob.xs.length*n)) (by grind) holds ⟨b,off,none⟩ ys.length capy news (by grind) n2 (by omega) (by omega) (by
           exact growslice_fits (by omega) (by rw[hbs]; exact Jn hle hby (aN _)))
          rw[← hvx,← hvy] at hr
          have hge:=grownCap_ge w (ob.xs.length+ys.length) cap e
          obtain⟨β',g1,g2⟩:=Td k1 e n (ob.xs++ys) ob.wr (cs.toList.take (ob.xs.length*n)++news) (Builtin.zeroCells z'.cells (grownCap w (ob.xs.length+ys.length) cap e-(ob.xs.length+ys.length))) (grownCap w (ob.xs.length+ys.length) cap e) hlall (by
           grind) hboth (by grind) (grownCap_le_maxLen w _ cap e (by simp only[maxLen]; omega)) (by rw[size_zeroCells,hzs]; simp) (by
           have hbd:=EX w (.cells ((cs.toList.take (ob.xs.length*n)++news).toArray++Builtin.zeroCells z'.cells (grownCap w (ob.xs.length+ys.length) cap e-(ob.xs.length+ys.length))) e)
           rw[hkl]
           refine Tv h hl hlive hl2 hlive2 hll2 (by rw[hys]) rfl (fun x hx=>⟨fun e2=>by have:=hx.2.2.1; omega,hbd.block x hx.2.2.1⟩) hbd.size (fun b o hbo=>cell_of_block (hbd.block b (h.stIn b o hbo))) (fun l3 o3 b3 h1 h2 h3 _=>hbd.block b3 (h.obs l3 o3 b3 h1 h2 h3).2.1) (fun b1 e1 k hk=>?_) (fun b2 e1 k hk=>?_)
           ·rw[hβ] at e1
            have:=rC e1
            subst this
            have hk':k<ob.xs.length*n:=by rw[← hxfl]; exact hk
            rw[World.cell?,World.cell?,D6 w _,c3]
            grind
           ·have:=had b2 e1
            simp only[ah,Addr.mk.injEq,yY] at this
            obtain⟨rfl,rfl⟩:=this
            rw[hys,hyfl] at hk
            have hk2:k<news.length:=by omega
            have:=n2 k _ (aA hk2)
            rw[addr_add,Zj] at this
            rw[this,World.cell?,D6 w _]
            grind)
          simp only[hkl,aW] at g2
          have earr:(cs.toList.take (ob.xs.length*n)++news).toArray=(cs.toList.take (ob.xs.length*n)).toArray++news.toArray:=by simp
          rw[earr] at g1 g2
          exact⟨_,_,_,St,β',hexec _ _ hr,.inl rfl,g1,g2⟩
      ·cases hy
     ·cases hy
    ·cases hy
   ·cases hy
  ·cases hy
 ·cases hy
def AGz (zs:List Cl):Bool:=zs.any fun c=>match c with | .v (.slice _ _ _)=>true | _=>false
def uG (P:Program) (s:MS) (T:TypeId) (x y:AV):Option (AV×List Ob):=match x,y with
 | .c (.ref l),.c (.ref l2)=>match DZ P T with
  | some e=>match TQ P e with
   | some zs=>if AGz zs=true then match CO s.st l2 with
     | some ob2=>if Df ob2.xs=true then ABc P s T (.c (.ref l)) (.c (.ref l2)) else tJ P s T (.c (.ref l)) (.c (.ref l2))
     | none=>none
    else tJ P s T (.c (.ref l)) (.c (.ref l2))
   | none=>none
  | none=>none
 | x,y=>tJ P s T x y
theorem AC8 (h:Core w0 St0 St β s a w) (o:Oper) (T:TypeId) (c:Call) (x y:Operand) (ho:o.op = .call c) (hcl:c.callee = .builtin .append) (hca:c.args.toList = [x,y]) (hct:c.argTypes.toList = [T,T]) (hc:Ar x=true) (hc2:Ar y=true)
  {z:AV} {st':List Ob} (hy:uG P s T (EC s x) (EC s y)=some (z,st')):Does P a w w0 St0 s o z st':=by
 unfold uG at hy
 grind [AC7,AEi]
def IX (st:List Ob) (l i off:Nat) (ob:Ob) (row:List Cl) (ty:TypeId) (sz:Nat) (xs:List (List Cl)):List Ob:=
 st.set l ⟨ob.ty,ob.sz,ob.xs.set i (row.set off (.ref st.length)),ob.wr,ob.live⟩ ++ [⟨ty,sz,xs,true,true⟩]
def wZ (P:Program) (s:MS) (T:TypeId) (x:AV):Option (AV×List Ob):=match BR P T,x with
 | some false,.lp l i off=>match CO s.st l with
  | some ob=>if ob.wr=true then match ob.xs[i]? with
   | some row=>match row[off]? with
    | some (.ow ty sz xs)=>some (.c (.ref s.st.length),IX s.st l i off ob row ty sz xs)
    | _=>none
   | none=>none
   else none
  | none=>none
 | _,_=>none
theorem o6 {xs:List (List Cl)} {sz i off:Nat} {row:List Cl} {c:Cl} (hl:∀ x∈xs,x.length=sz) (hi:xs[i]?=some row) (ho:off<row.length) :
  ∀ (k:Nat) (d:Cl),(xs.set i (row.set off c)).flatten[k]?=some d→(k=i*sz+off∧d=c)∨(k≠i*sz+off∧xs.flatten[k]?=some d):=by
 intro k d hk
 have hrl:row.length=sz:=hl row (aY hi)
 have e:xs.set i (row.set off c)=xs.set i (row.take off++([c]++row.drop (off+1))):=by
  congr 1
  rw[List.set_eq_take_append_cons_drop,bz ho]
  rfl
 have hle:off+1≤row.length:=ho
 have hFl:xs.flatten.length=xs.length*sz:=Dp hl
 have hil:i<xs.length:=(az.1 hi).1
 have hpos:i*sz+(off+1)≤xs.flatten.length:=by
  rw[hFl]
  have:(i+1)*sz≤xs.length*sz:=aaE _ hil
  rw[iW] at this; omega
 rw[e,PZ hl hi hle] at hk
 have l1:(xs.flatten.take (i*sz+off)).length=i*sz+off:=by rw[bC]; omega
 rcases bI k (i*sz+off) with h1 | h1
 ·grind
 ·rw[aX (by omega),l1] at hk
  rcases bI (k-(i*sz+off)) 1 with h2 | h2
  ·grind
  ·rw[aX (by omega),aba] at hk
   grind
theorem Core.openCell (h:Core w0 St0 St β s a w) {l i off:Nat} {ob:Ob} {row:List Cl} {ty:TypeId} {sz:Nat} {xs:List (List Cl)} (hob:CO s.st l=some ob) (hwr:ob.wr=true) (hrow:ob.xs[i]?=some row) (hcell:row[off]?=some (.ow ty sz xs)) :
  ∃ b u β',β l=some b∧w.cell? ⟨b,i*ob.sz+off,none⟩=some u∧Core w0 St0 St β' ⟨s.n,s.env,IX s.st l i off ob row ty sz xs⟩ a w∧RdC w St (IX s.st l i off ob row ty sz xs) β' (.ref s.st.length) u:=by
 obtain⟨hl,hlive⟩:=Aw hob
 obtain⟨φ,f1,f2,f3⟩:=h.own
 have hll:l<s.st.length:=(az.1 hl).1
 cases hβ:β l with
 | none =>
  have:=h.nil l ob hl hlive hβ
  grind
 | some b =>
  obtain⟨hmay,hlt,cs0,g1,g2,g3⟩:=h.obs l ob b hl hlive hβ
  have hoff:off<row.length:=(az.1 hcell).1
  have hk0:ob.xs.flatten[i*ob.sz+off]?=some (.ow ty sz xs):=EL g2 i off row _ hrow hcell
  obtain⟨u,hu,hr⟩:=f1 l ob b _ _ hl hlive hβ hk0 rfl
  have hu1:u.oneCell'=true:=(RdO.toB (st:=s.st) (β:=β) hr).one
  have hnew:∃ (nb:Option Nat) (G:Nat→Nat→Prop),(∀ k x,G k x→φ l (i*ob.sz+off) x∧nb≠some x)∧(∀ k k' x,G k x→G k' x→k=k')∧(nb=none→∀ k x,¬ G k x)∧(nb=none→u = .slice none 0 0∧xs = []) ∧
    ∀ b',nb=some b'→φ l (i*ob.sz+off) b'∧∃ (cap:Nat) (cs:Array Value),u = .slice (some ⟨b',0,none⟩) xs.length cap∧xs.length≤cap∧cap≤maxLen∧w.heap[b']?=some (.cells cs ty (0,0))∧cs.size=cap*sz∧(∀ x∈xs,x.length=sz) ∧
     ∀ (k:Nat) (c:Cl),xs.flatten[k]?=some c→∃ y,cs[k]?=some y∧RdO w St c y (G k):=by
   simp only[RdO] at hr
   rcases hr with ⟨e1,e2⟩ | ⟨b',cap,cs,G,e1,e2,e3,e4,e5,e6,e7,e8,e9,e10⟩
   ·exact⟨none,fun _ _=>False,fun _ _ h=>h.elim,fun _ _ _ h=>h.elim,fun _ _ _ h=>h,fun _=>⟨e1,e2⟩,(fun b' h=>by cases h)⟩
   ·refine⟨some b',G,fun k x hx=>⟨(e8 k x hx).1,fun e=>(e8 k x hx).2 (rC e).symm⟩,e9,(fun h=>by cases h),(fun h=>by cases h),fun b'' hb=>?_⟩
    cases hb
    exact⟨e7,cap,cs,e1,e2,e3,e4,e5,e6,fun k c hk=>by simpa using e10.at hk⟩
  obtain⟨nb,G,n1,n2,n5,n3,n4⟩:=hnew
  have hset:∀ (l':Nat),(IX s.st l i off ob row ty sz xs)[l']?=if l'=s.st.length then some ⟨ty,sz,xs,true,true⟩ else if l'=l then some ⟨ob.ty,ob.sz,ob.xs.set i (row.set off (.ref s.st.length)),ob.wr,ob.live⟩ else s.st[l']?:=by
   intro l'
   unfold IX
   by_cases e:l'=s.st.length
   ·grind
   ·grind
  have hl2:∀ (l':Nat) (o2:Ob),(IX s.st l i off ob row ty sz xs)[l']?=some o2→(l'=s.st.length∧o2=⟨ty,sz,xs,true,true⟩)∨(l'=l∧l'<s.st.length∧o2=⟨ob.ty,ob.sz,ob.xs.set i (row.set off (.ref s.st.length)),ob.wr,ob.live⟩)∨(l'≠l∧l'<s.st.length∧s.st[l']?=some o2):=by
   intro l' o2 h2
   rw[hset l'] at h2
   by_cases e:l'=s.st.length
   ·grind
   ·grind
  have hold:∀ (l':Nat) (o2:Ob),s.st[l']?=some o2→∃ o3,(IX s.st l i off ob row ty sz xs)[l']?=some o3∧o3.live=o2.live∧o3.sz=o2.sz∧o3.ty=o2.ty∧o3.xs.length=o2.xs.length∧o3.wr=o2.wr:=by
   intro l' o2 h2
   have hl':l'<s.st.length:=(az.1 h2).1
   rw[hset l']
   have e:¬ l'=s.st.length:=by omega
   by_cases e2:l'=l
   ·grind
   ·grind
  have hr':∀ (l':Nat) (v:Value),A_ w s.st β l' v→A_ w (IX s.st l i off ob row ty sz xs) (fun m=>if m=s.st.length then nb else β m) l' v:=by
   intro l' v hv
   have hd:=iw hv
   unfold A_ at hv ⊢
   cases hq:s.st[l']? with
   | none=>grind
   | some o2 =>
    grind
  have hp':∀ (l' i' off':Nat) (v:Value),AVR w St s.st β (.lp l' i' off') v→AVR w St (IX s.st l i off ob row ty sz xs) (fun m=>if m=s.st.length then nb else β m) (.lp l' i' off') v:=by
   intro l' i' off' v hv
   have hd:=tC hv
   simp only[AVR] at hv ⊢
   cases hq:s.st[l']? with
   | none=>grind
   | some o2 =>
    grind
  have hBB:∀ (c:Cl) (v:Value),RdB w St s.st β c v→RdB w St (IX s.st l i off ob row ty sz xs) (fun m=>if m=s.st.length then nb else β m) c v:=fun c v hv=>RdB.mono (fun _ _ h=>h) (fun _ _ _=>rfl) hr' c v hv
  have href:RdC w St (IX s.st l i off ob row ty sz xs) (fun m=>if m=s.st.length then nb else β m) (.ref s.st.length) u:=by
   simp only[RdC,A_,hset s.st.length,bD]
   refine⟨hu1,fun _=>?_⟩
   cases hnb:nb with
   | none=>exact n3 hnb
   | some b' =>
    grind
  have hfree:∀ x,φ l (i*ob.sz+off) x→Na w0 (fun _=>False) w St s.st β x:=fun x hx=>(f2 l _ x hx).2
  refine⟨b,u,_,rfl,hu, ?_,href⟩
  exact {
   defers:=h.defers
   size:=h.size
   lim:=h.lim
   env:=fun k=>AVR.mono (fun _ _ h=>h) (fun _ _ _=>rfl) hr' hp' _ _ (h.env k)
   below:=h.below,st0:=h.st0,stOld:=h.stOld,stIn:=h.stIn
   obs:=fun l' o2 b2 h2 hlv hb=>by
    rcases hl2 l' o2 h2 with ⟨rfl,rfl⟩ | ⟨rfl,hl',rfl⟩ | ⟨hne,hl',h3⟩
    ·simp only[bD] at hb
     obtain⟨q1,cap,cs,e1,e2,e3,e4,e5,e6,e7⟩:=n4 b2 hb
     have hf:=hfree b2 q1
     refine⟨hf.1,hf.2.2.1,cs,e4,e6,fun k c hk=>?_⟩
     obtain⟨y,hy,hro⟩:=e7 k c hk
     exact⟨y,hy,hro.toB⟩
    ·have e:¬ l'=s.st.length:=by omega
     simp only[e,aT] at hb
     rw[hβ] at hb
     cases hb
     refine⟨hmay,hlt,cs0,g1,fun x hx=>?_,fun k c hk=>?_⟩
     ·grind
     ·rcases o6 g2 hrow hoff k c hk with ⟨rfl,rfl⟩ | ⟨_,hk'⟩
      ·refine⟨u,by simpa [World.cell?,g1] using hu,href.toB⟩
      grind
    ·have e:¬ l'=s.st.length:=by omega
     simp only[e,aT] at hb
     obtain⟨q1,q2,cs,p1,p2,p3⟩:=h.obs l' o2 b2 h3 hlv hb
     refine⟨q1,q2,cs,p1,p2,fun k c hk=>?_⟩
     grind
   nil:=fun l' o2 h2 hlv hb=>by
    rcases hl2 l' o2 h2 with ⟨rfl,rfl⟩ | ⟨rfl,hl',rfl⟩ | ⟨hne,hl',h3⟩
    ·grind
    ·grind
    ·have e:¬ l'=s.st.length:=by omega
     simp only[e,aT] at hb
     exact h.nil l' o2 h3 hlv hb
   inj:=fun l1 l2 o1 o2 b' h1 h2 h3 h4 h5 h6=>by
    have key:∀ (m:Nat) (o:Ob),(IX s.st l i off ob row ty sz xs)[m]?=some o→o.live=true→m≠s.st.length→∃ o',s.st[m]?=some o'∧o'.live=true:=by
     intro m o hm hlv hne
     rcases hl2 m o hm with ⟨e,_⟩ | ⟨rfl,hl',rfl⟩ | ⟨_,hl',h3⟩
     ·omega
     ·grind
     ·grind
    by_cases e1:l1=s.st.length<;>by_cases e2:l2=s.st.length
    ·omega
    ·simp only[e1,e2,bD,aT] at h5 h6
     obtain⟨o',p1,p2⟩:=key l2 o2 h2 h4 e2
     exact absurd h6 ((hfree b' (n4 b' h5).1).2.2.2.2 l2 o' p1 p2)
    ·simp only[e1,e2,bD,aT] at h5 h6
     obtain⟨o',p1,p2⟩:=key l1 o1 h1 h3 e1
     exact absurd h5 ((hfree b' (n4 b' h6).1).2.2.2.2 l1 o' p1 p2)
    ·simp only[e1,e2,aT] at h5 h6
     obtain⟨o',p1,p2⟩:=key l1 o1 h1 h3 e1
     obtain⟨o'',q1,q2⟩:=key l2 o2 h2 h4 e2
     exact h.inj l1 l2 o' o'' b' p1 q1 p2 q2 h5 h6
   sep:=fun l' o2 b2 o h2 hlv hb hbo=>by
    rcases hl2 l' o2 h2 with ⟨rfl,rfl⟩ | ⟨rfl,hl',rfl⟩ | ⟨hne,hl',h3⟩
    ·simp only[bD] at hb
     exact absurd hbo ((hfree b2 (n4 b2 hb).1).2.2.2.1 o)
    ·have e:¬ l'=s.st.length:=by omega
     simp only[e,aT] at hb
     have:=h.sep l' ob b2 o hl hlive hb hbo
     grind
    ·have e:¬ l'=s.st.length:=by omega
     simp only[e,aT] at hb
     exact h.sep l' o2 b2 o h3 hlv hb hbo
   own:=by
    refine⟨fun m k x=>(m=s.st.length∧G k x)∨(m<s.st.length∧¬ (m=l∧k=i*ob.sz+off)∧φ m k x), ?_, ?_, ?_⟩
    ·intro m o2 b2 k c h2 hlv hb hk hc
     rcases hl2 m o2 h2 with ⟨rfl,rfl⟩ | ⟨rfl,hl',rfl⟩ | ⟨hne,hl',h3⟩
     ·simp only[bD] at hb
      obtain⟨q1,cap,cs,e1,e2,e3,e4,e5,e6,e7⟩:=n4 b2 hb
      obtain⟨y,hy,hro⟩:=e7 k c hk
      exact⟨y,by simp[World.cell?,e4,hy],RdO.mono (fun _ _ h=>h) (fun _ _ _=>rfl) c y _ _ (fun x hx=>.inl ⟨rfl,hx⟩) (fun _ _=>rfl) hro⟩
     ·have e:¬ m=s.st.length:=by omega
      simp only[e,aT] at hb
      rcases o6 g2 hrow hoff k c hk with ⟨rfl,rfl⟩ | ⟨hne,hk'⟩
      ·simp[E8] at hc
      ·obtain⟨v,hv,hro⟩:=f1 m ob b2 k c hl hlive hb hk' hc
       exact⟨v,hv,RdO.mono (fun _ _ h=>h) (fun _ _ _=>rfl) c v _ _ (fun x hx=>.inr ⟨hl',fun hh=>hne hh.2,hx⟩) (fun _ _=>rfl) hro⟩
     ·have e:¬ m=s.st.length:=by omega
      simp only[e,aT] at hb
      obtain⟨v,hv,hro⟩:=f1 m o2 b2 k c h3 hlv hb hk hc
      exact⟨v,hv,RdO.mono (fun _ _ h=>h) (fun _ _ _=>rfl) c v _ _ (fun x hx=>.inr ⟨hl',fun hh=>hne hh.1,hx⟩) (fun _ _=>rfl) hro⟩
    ·have hfr2:∀ x,Na w0 (fun _=>False) w St s.st β x→nb≠some x→Na w0 (fun _=>False) w St (IX s.st l i off ob row ty sz xs) (fun m=>if m=s.st.length then nb else β m) x:=by
      intro x hx hnb
      refine⟨hx.1,fun h=>h,hx.2.2.1,hx.2.2.2.1,fun m o2 h2 hlv=>?_⟩
      rcases hl2 m o2 h2 with ⟨rfl,rfl⟩ | ⟨rfl,hl',rfl⟩ | ⟨hne,hl',h3⟩
      ·grind
      ·have e:¬ m=s.st.length:=by omega
       simp only[e,aT]
       exact hx.2.2.2.2 m ob hl hlive
      ·have e:¬ m=s.st.length:=by omega
       simp only[e,aT]
       exact hx.2.2.2.2 m o2 h3 hlv
     rintro m k x (⟨rfl,hx⟩ | ⟨hm,hne,hx⟩)
     ·obtain⟨q1,q2⟩:=n1 k x hx
      cases hnb:nb with
      | none =>
       grind
      | some b' =>
       refine⟨⟨⟨ty,sz,xs,true,true⟩,b',by grind,rfl,by simp[hnb]⟩, ?_⟩
       have:=hfr2 x (hfree x q1) q2
       rwa [hnb] at this
     grind
    grind }
end Go.Vm
