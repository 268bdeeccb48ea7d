/- A part. -/
import Derived.Test.YtgkmefoghbjfnaaGreatVmP
set_option linter.unusedSimpArgs false
set_option linter.unusedVariables false
namespace Go.Vm
open Go.RowKit
variable {P:Program} {w0:Bs} {St0 St:Nat→Nat→Prop} {β:Nat→Option Nat} {s:MS} {a:Act} {w:World}
theorem OE (h:Core w0 St0 St β s a w) {l l2:Nat} {ob ob2:Ob} (hob:s.st[l]?=some ob) (hlive:ob.live=true) (hob2:s.st[l2]?=some ob2) (hlive2:ob2.live=true) (hne:l≠l2) {w':World} {b':Nat} {ob':Ob} (hxs:ob'.xs=ob.xs++ob2.xs) (hlv':ob'.live=true)
  (hfree:∀ x,I7 w0 (fun _=>False) w St s.st β x→x≠b'∧w'.heap[x]?=w.heap[x]?) (hsize:w.heap.size≤w'.heap.size) (hcell:∀ b o,St b o→w'.cell? ⟨b,o,none⟩=w.cell? ⟨b,o,none⟩)
  (hoth:∀ (l3:Nat) (o3:Ob) (b3:Nat),s.st[l3]?=some o3→o3.live=true→β l3=some b3→l≠l3→w'.heap[b3]?=w.heap[b3]?)
  (hmv:∀ b0,β l=some b0→∀ k,k<ob.xs.flatten.length→w'.cell? ⟨b',k,none⟩=w.cell? ⟨b0,k,none⟩)
  (hmv2:∀ b2,β l2=some b2→∀ k,k<ob2.xs.flatten.length→w'.cell? ⟨b',ob.xs.flatten.length+k,none⟩=w.cell? ⟨b2,k,none⟩) :
  Own w0 (fun _=>False) w' St (AY (AY s.st l) l2 ++ [ob']) (fun i=>if i=s.st.length then some b' else β i):=by
 obtain⟨φ,f1,f2,f3⟩:=h.own
 have hkl:(AY (AY s.st l) l2).length=s.st.length:=by rw[Ee,Ee]
 have hget:∀ (i:Nat) (o:Ob),(AY (AY s.st l) l2 ++ [ob'])[i]?=some o→o.live=true→(i=s.st.length∧o=ob')∨(i<s.st.length∧i≠l∧i≠l2∧s.st[i]?=some o):=by
  intro i o hi hlv
  rcases aX i s.st.length with h' | h'
  ·rw[ah (by omega)] at hi
   obtain⟨o1,r1,r2,r3⟩:=DN hi
   have n2:l2≠i:=fun e=>by rw[r2 e] at hlv; simp at hlv
   have:=r3 n2
   subst this
   obtain⟨o2,q1,q2,q3⟩:=DN r1
   have n1:l≠i:=fun e=>by rw[q2 e] at hlv; simp at hlv
   have:=q3 n1
   subst this
   exact .inr ⟨h',fun e=>n1 e.symm,fun e=>n2 e.symm,q1⟩
  ·have hlt:=(az.1 hi).1
   have hi':i=s.st.length:=by simp[hkl] at hlt; omega
   subst hi'
   rw[ak (by omega),hkl] at hi
   simp only[Vg,ai,ag] at hi
   exact .inl ⟨rfl,hi.symm⟩
 have hN:∃ o,(AY (AY s.st l) l2 ++ [ob'])[s.st.length]?=some o∧o.live=true:=by
  refine⟨ob', ?_,hlv'⟩
  rw[ak (by omega),hkl]
  simp
 refine⟨fun i k x=>(i=s.st.length∧((k<ob.xs.flatten.length∧φ l k x)∨(ob.xs.flatten.length≤k∧φ l2 (k-ob.xs.flatten.length) x)))∨(i<s.st.length∧i≠l∧i≠l2∧φ i k x), ?_, ?_, ?_⟩
 ·intro i o b k c hi hlv hβ hk hc
  rcases hget i o hi hlv with ⟨rfl,rfl⟩ | ⟨h1,h2,h3,h4⟩
  ·simp only[bC,ag] at hβ
   subst hβ
   rw[hxs,sW] at hk
   rcases aX k ob.xs.flatten.length with h' | h'
   ·rw[ah h'] at hk
    cases hβl:β l with
    | none=>rw[h.nil l ob hob hlive hβl] at h'; simp at h'
    | some b0 =>
     obtain⟨u,hu,hr⟩:=f1 l ob b0 k c hob hlive hβl hk hc
     exact⟨u,by rw[hmv b0 hβl k h']; exact hu,RdO.mono (fun _ _ h=>h) hcell c u _ _ (fun x hx=>.inl ⟨rfl,.inl ⟨h',hx⟩⟩) (fun x hx=>(hfree x (f2 _ _ _ hx).2).2) hr⟩
   ·rw[ak h'] at hk
    have hk2:k-ob.xs.flatten.length<ob2.xs.flatten.length:=(az.1 hk).1
    cases hβl:β l2 with
    | none=>rw[h.nil l2 ob2 hob2 hlive2 hβl] at hk2; simp at hk2
    | some b2 =>
     obtain⟨u,hu,hr⟩:=f1 l2 ob2 b2 _ c hob2 hlive2 hβl hk hc
     refine⟨u, ?_,RdO.mono (fun _ _ h=>h) hcell c u _ _ (fun x hx=>.inl ⟨rfl,.inr ⟨h',hx⟩⟩) (fun x hx=>(hfree x (f2 _ _ _ hx).2).2) hr⟩
     have:=hmv2 b2 hβl _ hk2
     rw[show ob.xs.flatten.length+(k-ob.xs.flatten.length)=k by omega] at this
     rw[this]; exact hu
  ·have hne':¬ i=s.st.length:=by omega
   simp only[hne',aK] at hβ
   obtain⟨u,hu,hr⟩:=f1 i o b k c h4 hlv hβ hk hc
   exact⟨u,by rw[cell_of_block (hoth i o b h4 hlv hβ (fun e=>h2 e.symm))]; exact hu,RdO.mono (fun _ _ h=>h) hcell c u _ _ (fun x hx=>.inr ⟨h1,h2,h3,hx⟩) (fun x hx=>(hfree x (f2 _ _ _ hx).2).2) hr⟩
 ·have free:∀ x,I7 w0 (fun _=>False) w St s.st β x→I7 w0 (fun _=>False) w' St (AY (AY s.st l) l2 ++ [ob']) (fun i=>if i=s.st.length then some b' else β i) x:=by
   intro x hx
   refine⟨hx.1,fun h=>h,bn hx.2.2.1 hsize,hx.2.2.2.1,fun i o hi hlv=>?_⟩
   rcases hget i o hi hlv with ⟨rfl,rfl⟩ | ⟨h1,h2,h3,h4⟩
   ·simp only[bC]
    intro e
    exact(hfree x hx).1 (di e).symm
   ·have hne':¬ i=s.st.length:=by omega
    simp only[hne',aK]
    exact hx.2.2.2.2 i o h4 hlv
  rintro i k x (⟨rfl,hx⟩ | ⟨h1,h2,h3,hx⟩)
  ·obtain⟨o,ho1,ho2⟩:=hN
   refine⟨⟨o,b',ho1,ho2,by simp⟩, ?_⟩
   rcases hx with ⟨_,hx⟩ | ⟨_,hx⟩
   ·exact free x (f2 _ _ _ hx).2
   ·exact free x (f2 _ _ _ hx).2
  ·obtain⟨⟨o,b,p1,p2,p3⟩,p4⟩:=f2 i k x hx
   refine⟨⟨o,b, ?_,p2, ?_⟩,free x p4⟩
   ·rw[ah (by omega)]
    rw[Ia (Ia p1)]
    have e1:¬ l=i:=fun e=>h2 e.symm
    have e2:¬ l2=i:=fun e=>h3 e.symm
    simp[e1,e2]
   ·have hne':¬ i=s.st.length:=by omega
    simp only[hne',aK]; exact p3
 ·rintro i i' k k' x (⟨rfl,hx⟩ | ⟨h1,h2,h3,hx⟩) (⟨rfl,hx'⟩ | ⟨h1',h2',h3',hx'⟩)
  ·refine⟨rfl, ?_⟩
   rcases hx with ⟨g,hx⟩ | ⟨g,hx⟩<;>rcases hx' with ⟨g',hx'⟩ | ⟨g',hx'⟩
   ·exact(f3 _ _ _ _ x hx hx').2
   ·exact absurd (f3 _ _ _ _ x hx hx').1 hne
   ·exact absurd (f3 _ _ _ _ x hx hx').1.symm hne
   ·have:=(f3 _ _ _ _ x hx hx').2
    omega
  ·rcases hx with ⟨_,hx⟩ | ⟨_,hx⟩
   ·exact absurd (f3 _ _ _ _ x hx hx').1.symm h2'
   ·exact absurd (f3 _ _ _ _ x hx hx').1.symm h3'
  ·rcases hx' with ⟨_,hx'⟩ | ⟨_,hx'⟩
   ·exact absurd (f3 _ _ _ _ x hx hx').1 h2
   ·exact absurd (f3 _ _ _ _ x hx hx').1 h3
  ·exact f3 _ _ _ _ x hx hx'
theorem KG {st:List Ob} {l l2 l':Nat} {o2:Ob} (h2:(AY (AY st l) l2)[l']?=some o2) (hl:o2.live=true):st[l']?=some o2∧l≠l'∧l2≠l':=by
 obtain⟨o3,p1,p2,p3⟩:=DN h2
 have n2:l2≠l':=fun e=>by rw[p2 e] at hl; simp at hl
 have:=p3 n2
 subst this
 obtain⟨o4,q1,q2,q3⟩:=DN p1
 have n1:l≠l':=fun e=>by rw[q2 e] at hl; simp at hl
 have:=q3 n1
 subst this
 exact⟨q1,n1,n2⟩
theorem fP (h:Core w0 St0 St β s a w) {l:Nat} (l2:Nat) {ob:Ob} {b0:Nat} (hob:s.st[l]?=some ob) (hlive:ob.live=true) (hβ:β l=some b0):Own w0 (fun x=>x=b0) w St (AY (AY s.st l) l2) β:=
 h.own.move id (fun x hx=>⟨⟨hx.1,fun e=>hx.2.2.2.2 l ob hob hlive (by rw[hβ,e]),hx.2.2.1,hx.2.2.2.1,fun l' o2 hl' hlv=>hx.2.2.2.2 l' o2 (KG hl' hlv).1 hlv⟩,rfl⟩) (fun _ _ h=>h) (fun _ _ _=>rfl)
  (fun l' o2 b k c h1 h2 h3 h4 _=>⟨o2,b,(KG h1 h2).1,h2,h3,h4,rfl⟩) (fun _ _ _ _ _ _ _ _ e=>e)
def jv (P:Program) (s:MS) (T:TypeId) (x y:AV):Option (AV×List Ob):=match CE P T with
 | some e=>match AQ P e,NC P e,DC P e with
  | some n,some zs,some by'=>if zs.length=n∧0<n∧by'≤65536 then match x,y with
    | .c (.ref l),.c (.ref l2)=>match BV s.st l,BV s.st l2 with
     | some ob,some ob2=>if l≠l2∧ob.ty=e∧ob.sz=n∧ob2.sz=n∧(ob.xs.length+ob2.xs.length≤2147483648∨(ob.xs.length+ob2.xs.length≤1099511627776∧by'≤128)) then some (.c (.ref s.st.length),AY (AY s.st l) l2 ++ [⟨e,n,ob.xs++ob2.xs,ob.wr,true⟩]) else none
     | _,_=>none
    | _,_=>none
   else none
  | _,_,_=>none
 | none=>none
theorem nT (h:Core w0 St0 St β s a w) (o:Oper) (T:TypeId) (c:Call) (x y:Operand) (ho:o.op = .call c) (hcl:c.callee = .builtin .append) (hca:c.args.toList = [x,y]) (hct:c.argTypes.toList = [T,T]) (hc:Af x=true) (hc2:Af y=true)
  {z:AV} {st':List Ob} (hy:jv P s T (Cf s x) (Cf s y)=some (z,st')):Does P a w w0 St0 s o z st':=by
 have hx:=BJ h x hc
 have hyy:=BJ h y hc2
 have ha1:c.argTypes = #[T,T]:=by have:=congrArg List.toArray hct; simpa using this
 have ha2:c.args = #[x,y]:=by have:=congrArg List.toArray hca; simpa using this
 have hexec:∀ v w',(Builtin.append_ #[T,T] o.type #[a.eval x,a.eval y]).run P w = .ok v w'→(execOp a.eval o).run P w = .ok (.value v) w':=by
  intro v w' hr
  simp[execOp,ho,resolve,hcl,ha1,ha2,invoke,builtin,hr]
 unfold jv at hy
 split at hy
 ·rename_i e hte
  have ht:=Hg hte
  split at hy
  ·rename_i n cs0 by' hs hz0 hb
   obtain⟨zs,hz,_,rfl⟩:=J_ hz0
   split at hy
   ·rename_i hcond
    obtain⟨hzl0,hn,hby⟩:=hcond
    have hzl:zs.length=n:=by simpa using hzl0
    split at hy
    ·rename_i l l2 hevx hevy
     split at hy
     ·rename_i ob ob2 hob hob2
      split at hy
      ·rename_i hoc
       obtain⟨hll2,hty,hosz,hosz2,hle⟩:=hoc
       simp only[ag,bH] at hy
       obtain⟨rfl,rfl⟩:=hy
       obtain⟨hl,hlive⟩:=Ag hob
       obtain⟨hl2,hlive2⟩:=Ag hob2
       generalize hys:ob2.xs=ys at *
       have hyl:∀ r∈ys,r.length=n:=by
        cases hβ2:β l2 with
        | none =>
         have:=h.nil l2 ob2 hl2 hlive2 hβ2
         rw[hys] at this
         subst this
         simp
        | some b2 =>
         obtain⟨_,_,_,_,p4,_⟩:=h.obs l2 ob2 b2 hl2 hlive2 hβ2
         rw[hys,hosz2] at p4
         exact p4
       rw[hevy] at hyy
       simp only[AVR] at hyy
       have hd:Le s.st (.ref l2)=some ys:=by simp[Le,hob2,hys]
       obtain⟨ad,capy,hvy,_,hcells⟩:=MR h hyy hd
       have had:∀ b2,β l2=some b2→ad=some ⟨b2,0,none⟩:=fun b2 hb2=>by
        have:=hyy
        simp only[RdC,Aq,hl2] at this
        have:=this.2 hlive2
        simp only[hb2] at this
        obtain⟨cap,cs,e1,_⟩:=this
        rw[e1] at hvy
        simp only[Value.slice.injEq] at hvy
        exact hvy.1.symm
       rw[hevx] at hx
       have hyfl:ys.flatten.length=ys.length*n:=CJ hyl
       have htab:∃ i z',P.info? e=some i∧i.zero=some z'∧i.size=n∧i.bytes=by'∧z'.cells.size=n:=by
        unfold AQ at hs; unfold J9 at hz; unfold DC at hb
        cases hi:P.info? e with
        | none=>simp[hi] at hs
        | some i =>
         cases hiz:i.zero with
         | none=>simp[hi,hiz] at hz
         | some z' =>
          simp[hi] at hs hb
          simp[hi,hiz] at hz
          exact⟨i,z',rfl,hiz,hs,hb,by rw[← hzl,← hz]; simp⟩
       obtain⟨i,z',hi,hiz,hsz,hbs,hzs⟩:=htab
       have hnews:ys≠ []→∃ b off,ad=some ⟨b,off,none⟩∧∃ news:List Value,news.length=ys.length*n∧(∀ (k:Nat) (v:Value),news[k]?=some v→w.cell? ((⟨b,off,none⟩:Addr).add k)=some v) ∧
         (∀ (k:Nat) (c:Cl),ys.flatten[k]?=some c→∃ u,news[k]?=some u∧RdB w St s.st β c u)∧(∀ u∈news,u.oneCell'=true):=by
        intro hne
        rcases hcells with h0 | ⟨b,off,rfl,hcell⟩
        ·exact absurd h0 hne
        ·obtain⟨news,n1,n2⟩:=G8 (R:=fun c u=>RdB w St s.st β c u) (w:=w) (b:=b) ys.flatten off (fun k c hk=>by
          obtain⟨v,hv1,hv2⟩:=hcell k c hk
          exact⟨v,hv1,hv2⟩)
         have hat:∀ (k:Nat) (v:Value),news[k]?=some v→∃ c,ys.flatten[k]?=some c∧w.cell? ⟨b,off+k,none⟩=some v∧RdB w St s.st β c v:=fun k v hk=>by
          have hk':k<ys.flatten.length:=by rw[← n1]; exact(az.1 hk).1
          obtain⟨u,u1,u2,u3⟩:=n2 k _ (aW hk')
          rw[hk] at u1
          simp only[ag] at u1
          subst u1
          exact⟨_,aW hk',u2,u3⟩
         refine⟨b,off,rfl,news,by rw[n1,hyfl],fun k v hk=>?_,fun k c hk=>?_,fun u hu=>?_⟩
         ·obtain⟨_,_,hv,_⟩:=hat k v hk
          rw[addr_add]; exact hv
         ·obtain⟨u,u1,_,u3⟩:=n2 k c hk
          exact⟨u,u1,u3⟩
         ·obtain⟨k,hk⟩:=sU.1 hu
          obtain⟨_,_,_,hr⟩:=hat k u hk
          exact RdB.one hr
       simp only[AVR,RdC,Aq,hl] at hx
       have hx2:=hx.2 hlive
       obtain⟨k1a,k2a⟩:=h.kill l
       obtain⟨k1,k2b⟩:=k1a.kill l2
       have k2:∀ x u,AVR w St s.st β x u→AVR w St (AY (AY s.st l) l2) β x u:=fun x u hx=>k2b x u (k2a x u hx)
       have hkr:∀ c u,RdC w St s.st β c u→RdC w St (AY (AY s.st l) l2) β c u:=fun c u hc=>by
        have:=k2 (.c c) u (by simpa only[AVR] using hc)
        simpa only[AVR] using this
       have hkrB:∀ c u,RdB w St s.st β c u→RdB w St (AY (AY s.st l) l2) β c u:=fun c u hc=>by
        cases c with
        | ow ty sz xs=>exact hc
        | v y=>exact hkr (.v y) u hc
        | sl y=>exact hkr (.sl y) u hc
        | ref y=>exact hkr (.ref y) u hc
       have hll:l<s.st.length:=(az.1 hl).1
       have hkl:(AY (AY s.st l) l2).length=s.st.length:=by rw[Ee,Ee]
       cases hβ:β l with
       | none =>
        simp only[hβ] at hx2
        obtain⟨hvx,hobx⟩:=hx2
        rw[hobx] at hle ⊢
        simp only[bP]
        by_cases hne:ys = []
        ·subst hne
         have hy0:([]:List (List Cl)).length=0:=rfl
         rw[hy0] at hvy
         have hrun:(Builtin.append_ #[T,T] o.type #[a.eval x,a.eval y]).run P w = .ok (.slice none 0 0) w:=by
          rw[hvx,hvy]; exact EE ht hs none 0 0 (aQ _) ad capy w
         obtain⟨a1,a2,a3⟩:=k1.addOb ⟨e,n,[],ob.wr,true⟩ none (fun _=>rfl) (by simp) k1.own (by simp)
         refine⟨_,.slice none 0 0,w,St,_,hexec _ _ hrun,.inl rfl,a1, ?_⟩
         rw[← hkl]
         exact IA (b:=none) rfl (by simp) fun _=>⟨rfl,rfl⟩
        ·obtain⟨b,off,rfl,news,n1,n2,n3,n4⟩:=hnews hne
         have hpos:0<ys.length:=oh.2 hne
         simp only[Vf,Yl] at hle
         have hr:=run_append_nil (P:=P) w T o.type e i z' ht hi hiz ⟨b,off,none⟩ ys.length capy news (by rw[hsz]; exact n1) n2 hpos (by omega) (by rw[hbs]; have:=I9 (m:=by') hle hby (aQ _); omega)
         rw[← hvx,← hvy] at hr
         have hge:=grownCap_ge w ys.length 0 e
         obtain⟨β',g1,g2⟩:=OD k1 e n ys ob.wr news (Builtin.zeroCells z'.cells (grownCap w ys.length 0 e-ys.length)) (grownCap w ys.length 0 e) hyl n1 (fun k c hk=>by
          obtain⟨u,u1,u2⟩:=n3 k c hk
          exact⟨u,u1,hkrB _ _ u2⟩) hge (grownCap_le_maxLen w ys.length 0 e (by simp only[maxLen]; omega)) (by rw[size_zeroCells,hzs]) (by
           have hbd:=DK w (.cells (news.toArray++Builtin.zeroCells z'.cells (grownCap w ys.length 0 e-ys.length)) e)
           rw[hkl]
           refine OE h hl hlive hl2 hlive2 hll2 (by rw[hys,hobx]; rfl) rfl (fun x hx=>⟨fun e2=>by have:=hx.2.2.1; omega,hbd.block x hx.2.2.1⟩) hbd.size (fun b o hbo=>cell_of_block (hbd.block b (h.stIn b o hbo))) (fun l3 o3 b3 h1 h2 h3 _=>hbd.block b3 (h.obs l3 o3 b3 h1 h2 h3).2.1) (fun b1 e1 k hk=>by rw[hβ] at e1; cases e1) (fun b2 e1 k hk=>?_)
           have:=had b2 e1
           simp only[ag,Addr.mk.injEq,ZX] at this
           obtain⟨rfl,rfl⟩:=this
           rw[hys,hyfl] at hk
           have hk2:k<news.length:=by omega
           have:=n2 k _ (aW hk2)
           rw[addr_add,Yl] at this
           rw[this,World.cell?,CX w _,hobx]
           simp only[aj,aN,aK]
           rw[bI (by simp; omega)]
           simp[hk2])
         simp only[hkl] at g2
         exact⟨_,_,_,St,β',hexec _ _ hr,.inl rfl,g1,g2⟩
       | some b0 =>
        simp only[hβ] at hx2
        obtain⟨cap,cs,hvx,c1,c2,c3,c4⟩:=hx2
        obtain⟨p1,p2,cs',p3,p4,p5⟩:=h.obs l ob b0 hl hlive hβ
        rw[c3] at p3
        simp only[ag,Obj.cells.injEq,ZX] at p3
        subst p3
        have hfree:∀ l' o2,(AY (AY s.st l) l2)[l']?=some o2→o2.live=true→β l'≠some b0:=fun l' o2 h2 hl2 hb2=>by
         obtain⟨r1,r2,_⟩:=KG h2 hl2
         exact r2 (h.inj l l' ob o2 b0 hl r1 hlive hl2 hβ hb2)
        have hkeep:∀ o,St b0 o→ob.wr=false∧o<ob.xs.length*ob.sz:=fun o hbo=>h.sep l ob b0 o hl hlive hβ hbo
        have hxfl:ob.xs.flatten.length=ob.xs.length*n:=by rw[CJ p4,hosz]
        have hlall:∀ r∈ob.xs++ys,r.length=n:=fun r hr=>by
         rcases U8.1 hr with h1 | h1
         ·rw[p4 r h1,hosz]
         ·exact hyl r h1
        have hcap:cs.size=cap*n:=by rw[c4,hosz]
        by_cases hne:ys = []
        ·subst hne
         have hy0:([]:List (List Cl)).length=0:=rfl
         rw[hy0] at hvy
         have hrun:(Builtin.append_ #[T,T] o.type #[a.eval x,a.eval y]).run P w = .ok (.slice (some ⟨b0,0,none⟩) ob.xs.length cap) w:=by
          rw[hvx,hvy]; exact EE ht hs _ _ _ c1 ad capy w
         obtain⟨a1,a2,a3⟩:=k1.addObB ⟨e,n,ob.xs ++ [],ob.wr,true⟩ (some b0) (by simp) (fun b hb=>by
          simp only[ag] at hb
          subst hb
          refine⟨p1,p2,hfree,fun o hbo=>by simpa [hosz] using hkeep o hbo,cs,by rw[← hty]; exact c3,hlall,fun k c hk=>?_⟩
          simp only[bU] at hk
          obtain⟨u,u1,u2⟩:=p5 k c hk
          exact⟨u,u1,hkrB _ _ u2⟩) (by
          rw[hkl]
          exact OE h hl hlive hl2 hlive2 hll2 (by rw[hys]) rfl (fun x hx=>⟨fun e2=>hx.2.2.2.2 l ob hl hlive (by rw[hβ,e2]),rfl⟩) (aQ _) (fun _ _ _=>rfl) (fun _ _ _ _ _ _ _=>rfl) (fun b1 e1 _ _=>by rw[hβ] at e1; rw[di e1]) (fun _ _ k hk=>by rw[hys] at hk; simp at hk))
         refine⟨_,_,w,St,_,hexec _ _ hrun,.inl rfl,a1, ?_⟩
         rw[← hkl]
         exact IA (b:=some b0) rfl (by simp) fun _=>⟨cap,cs,by simp,by simpa using c1,c2,by simpa [← hty] using c3,hcap⟩
        ·obtain⟨b,off,rfl,news,n1,n2,n3,n4⟩:=hnews hne
         have hpos:0<ys.length:=oh.2 hne
         have hFC:ob.xs.flatten.length≤cs.toList.length:=G9 (R:=fun c u=>RdB w St s.st β c u) (fun k c hk=>by simpa using p5 k c hk)
         have holdl:(cs.toList.take (ob.xs.length*n)).length=ob.xs.length*n:=by
          rw[ZV,Nat.min_eq_left (by omega)]
         have hold:∀ (k:Nat) (c:Cl),ob.xs.flatten[k]?=some c→∃ u,(cs.toList.take (ob.xs.length*n))[k]?=some u∧RdB w St s.st β c u:=fun k c hk=>by
          obtain⟨u,u1,u2⟩:=p5 k c hk
          have hk':k<ob.xs.length*n:=by rw[← hxfl]; exact(az.1 hk).1
          exact⟨u,by rw[aV,ED hk']; simpa using u1,u2⟩
         have hboth:∀ (k:Nat) (c:Cl),(ob.xs++ys).flatten[k]?=some c→∃ u,(cs.toList.take (ob.xs.length*n)++news)[k]?=some u∧RdB w St (AY (AY s.st l) l2) β c u:=fun k c hk=>by
          rw[sW] at hk
          rcases aX k (ob.xs.length*n) with h' | h'
          ·rw[ah (by omega)] at hk ⊢
           obtain⟨u,u1,u2⟩:=hold k c hk
           exact⟨u,u1,hkrB _ _ u2⟩
          ·rw[ak (by omega),hxfl] at hk
           rw[ak (by omega),holdl]
           obtain⟨u,u1,u2⟩:=n3 _ c hk
           exact⟨u,u1,hkrB _ _ u2⟩
         by_cases hroom:ob.xs.length+ys.length≤cap
         ·
          have hcsl:cs.toList.length=cs.size:=by simp
          have hcapm:(ob.xs.length+ys.length)*n≤cap*n:=mX _ hroom
          have hfit:ob.xs.length*i.size+news.length≤cs.size:=by rw[hsz,n1,hcap,← Pj]; exact hcapm
          have hr:=run_append_room (P:=P) w T o.type e i ht hi b0 ob.xs.length cap cs (by rw[← hty]; exact c3) ⟨b,off,none⟩ ys.length capy news (by rw[hsz]; exact n1) n2 n4 hroom hfit
          rw[← hvx,← hvy,hsz] at hr
          rw[hsz] at hfit
          generalize hcs':(cs.toList.take (ob.xs.length*n)++news++cs.toList.drop (ob.xs.length*n+news.length)).toArray=C' at hr
          have hC's:C'.size=cs.size:=by
           rw[← hcs']
           simp only[jV,aO,mZ,holdl]
           omega
          have hC'at:∀ k,k<ob.xs.length*n+news.length→C'[k]?=(cs.toList.take (ob.xs.length*n)++news)[k]?:=fun k hk=>by
           rw[← hcs']
           simp only[dh]
           rw[ah (by simp only[aO,holdl]; exact hk)]
          have hturn:=k1.turn (b:=b0) p1 (fP h l2 hl hlive hβ) hfree c3 (cs':=C') (fun o hbo=>by
           have ho:=(hkeep o hbo).2
           rw[hosz] at ho
           rw[hC'at o (by omega),ah (by omega),aV,ED ho]
           simp) hC's
          have hcell:∀ b' o,St b' o→(w.setRow b0 C').cell? ⟨b',o,none⟩=w.cell? ⟨b',o,none⟩:=fun b' o hbo=>by
           by_cases e2:b'=b0
           ·subst e2
            have ho:=(hkeep o hbo).2
            rw[hosz] at ho
            rw[World.cell?,World.cell?,setRow_heap w b' cs C' ob.ty (0,0) c3,c3]
            simp only[aj,aN,aK]
            rw[hC'at o (by omega),ah (by omega),aV,ED ho]
            simp
           ·exact cell_of_block (setRow_other w b0 b' C' e2)
          have hrr:∀ l' u,Aq w (AY (AY s.st l) l2) β l' u→Aq (w.setRow b0 C') (AY (AY s.st l) l2) β l' u:=by
           intro l' u hu
           unfold Aq at hu ⊢
           cases hq:(AY (AY s.st l) l2)[l']? with
           | none=>simp[hq] at hu
           | some o2 =>
            simp only[hq] at hu ⊢
            refine⟨hu.1,fun hl2=>?_⟩
            have h2:=hu.2 hl2
            cases hb2:β l' with
            | none=>simpa [hb2] using h2
            | some b2 =>
             simp only[hb2] at h2 ⊢
             have hne2:b2≠b0:=fun e2=>hfree l' o2 hq hl2 (by rw[hb2,e2])
             rw[setRow_other w b0 b2 C' hne2]; exact h2
          obtain⟨a1,a2,a3⟩:=hturn.addObB ⟨e,n,ob.xs++ys,ob.wr,true⟩ (some b0) (by simp) (fun b' hb=>by
           simp only[ag] at hb
           subst hb
           refine⟨p1,by simpa [World.setRow] using p2,hfree,fun o hbo=>?_,C',by rw[setRow_heap w b0 cs C' ob.ty (0,0) c3,hty],hlall,fun k c hk=>?_⟩
           ·have:=hkeep o hbo
            rw[hosz] at this
            refine⟨this.1, ?_⟩
            simp only[aO,Pj]
            omega
           ·obtain⟨u,u1,u2⟩:=hboth k c hk
            have hk':k<ob.xs.length*n+news.length:=by
             have:=(az.1 u1).1
             simpa only[aO,holdl] using this
            exact⟨u,by rw[hC'at k hk']; exact u1,RdB.mono (fun _ _ h=>h) hcell hrr _ _ u2⟩) (by
           rw[hkl]
           refine OE h hl hlive hl2 hlive2 hll2 (by rw[hys]) rfl (fun x hx=>?_) (by simp[World.setRow]) hcell (fun l3 o3 b3 h1 h2 h3 h4=>?_) (fun b1 e1 k hk=>?_) (fun b2 e1 k hk=>?_)
           ·have hxb:x≠b0:=fun e2=>hx.2.2.2.2 l ob hl hlive (by rw[hβ,e2])
            exact⟨hxb,setRow_other w b0 x C' hxb⟩
           ·exact setRow_other w b0 b3 C' fun e2=>h4 (h.inj l l3 ob o3 b0 hl h1 hlive h2 hβ (by rw[h3,e2]))
           ·rw[hβ] at e1
            have:=di e1
            subst this
            have hk':k<ob.xs.length*n:=by rw[← hxfl]; exact hk
            rw[World.cell?,World.cell?,setRow_heap w b0 cs C' ob.ty (0,0) c3,c3]
            simp only[aj,aN,aK]
            rw[hC'at k (by omega),ah (by omega),aV,ED hk']
            simp
           ·have:=had b2 e1
            simp only[ag,Addr.mk.injEq,ZX] at this
            obtain⟨rfl,rfl⟩:=this
            rw[hys,hyfl] at hk
            have hk2:k<news.length:=by omega
            have:=n2 k _ (aW hk2)
            rw[addr_add,Yl] at this
            rw[this,World.cell?,setRow_heap w b0 cs C' ob.ty (0,0) c3]
            simp only[aj,aN,aK]
            rw[hxfl,hC'at _ (by omega),ak (by omega),holdl]
            simp[hk2])
          refine⟨_,_,_,St,_,hexec _ _ hr,.inl rfl,a1, ?_⟩
          rw[← hkl]
          exact IA (b:=some b0) rfl (by simp) fun _=>⟨cap,C',by simp,by simpa using hroom,c2,by rw[setRow_heap w b0 cs C' ob.ty (0,0) c3,hty],by rw[hC's,hcap]⟩
         ·
          have holds:∀ (j:Nat) (v:Value),(cs.toList.take (ob.xs.length*n))[j]?=some v→w.cell? ((⟨b0,0,none⟩:Addr).add j)=some v:=fun j v hj=>by
           rw[aV] at hj
           split at hj
           ·rw[addr_add,World.cell?,c3]
            simp only[aj,aN,aK,Yl]
            simpa using hj
           ·cases hj
          have hr:=run_append_grow (P:=P) w T o.type e i z' ht hi hiz ⟨b0,0,none⟩ ob.xs.length cap (cs.toList.take (ob.xs.length*n)) (by rw[hsz]; exact holdl) holds ⟨b,off,none⟩ ys.length capy news (by rw[hsz]; exact n1) n2 (by omega) (by omega) (by
           exact growslice_fits (by omega) (by rw[hbs]; exact I9 hle hby (aQ _)))
          rw[← hvx,← hvy] at hr
          have hge:=grownCap_ge w (ob.xs.length+ys.length) cap e
          obtain⟨β',g1,g2⟩:=OD k1 e n (ob.xs++ys) ob.wr (cs.toList.take (ob.xs.length*n)++news) (Builtin.zeroCells z'.cells (grownCap w (ob.xs.length+ys.length) cap e-(ob.xs.length+ys.length))) (grownCap w (ob.xs.length+ys.length) cap e) hlall (by
           simp only[aO,holdl,n1,Pj]) hboth (by simpa using hge) (grownCap_le_maxLen w _ cap e (by simp only[maxLen]; omega)) (by rw[size_zeroCells,hzs]; simp) (by
           have hbd:=DK w (.cells ((cs.toList.take (ob.xs.length*n)++news).toArray++Builtin.zeroCells z'.cells (grownCap w (ob.xs.length+ys.length) cap e-(ob.xs.length+ys.length))) e)
           rw[hkl]
           refine OE h hl hlive hl2 hlive2 hll2 (by rw[hys]) rfl (fun x hx=>⟨fun e2=>by have:=hx.2.2.1; omega,hbd.block x hx.2.2.1⟩) hbd.size (fun b o hbo=>cell_of_block (hbd.block b (h.stIn b o hbo))) (fun l3 o3 b3 h1 h2 h3 _=>hbd.block b3 (h.obs l3 o3 b3 h1 h2 h3).2.1) (fun b1 e1 k hk=>?_) (fun b2 e1 k hk=>?_)
           ·rw[hβ] at e1
            have:=di e1
            subst this
            have hk':k<ob.xs.length*n:=by rw[← hxfl]; exact hk
            rw[World.cell?,World.cell?,CX w _,c3]
            simp only[aj,aN,aK]
            rw[bI (by simp only[jV,aO,holdl]; omega)]
            simp only[dh]
            rw[ah (by omega),aV,ED hk']
            simp
           ·have:=had b2 e1
            simp only[ag,Addr.mk.injEq,ZX] at this
            obtain⟨rfl,rfl⟩:=this
            rw[hys,hyfl] at hk
            have hk2:k<news.length:=by omega
            have:=n2 k _ (aW hk2)
            rw[addr_add,Yl] at this
            rw[this,World.cell?,CX w _]
            simp only[aj,aN,aK]
            rw[hxfl,bI (by simp only[jV,aO,holdl]; omega)]
            simp only[dh]
            rw[ak (by omega),holdl]
            simp[hk2])
          simp only[hkl,aO] at g2
          have earr:(cs.toList.take (ob.xs.length*n)++news).toArray=(cs.toList.take (ob.xs.length*n)).toArray++news.toArray:=by simp
          rw[earr] at g1 g2
          exact⟨_,_,_,St,β',hexec _ _ hr,.inl rfl,g1,g2⟩
      ·cases hy
     ·cases hy
    ·cases hy
   ·cases hy
  ·cases hy
 ·cases hy
def vO (zs:List Cl):Bool:=zs.any fun c=>match c with | .v (.slice _ _ _)=>true | _=>false
def Yv (P:Program) (s:MS) (T:TypeId) (x y:AV):Option (AV×List Ob):=match x,y with
 | .c (.ref l),.c (.ref l2)=>match CE P T with
  | some e=>match NC P e with
   | some zs=>if vO zs=true then match BV s.st l2 with
     | some ob2=>if IK ob2.xs=true then jv P s T (.c (.ref l)) (.c (.ref l2)) else Yt P s T (.c (.ref l)) (.c (.ref l2))
     | none=>none
    else Yt P s T (.c (.ref l)) (.c (.ref l2))
   | none=>none
  | none=>none
 | x,y=>Yt P s T x y
theorem nU (h:Core w0 St0 St β s a w) (o:Oper) (T:TypeId) (c:Call) (x y:Operand) (ho:o.op = .call c) (hcl:c.callee = .builtin .append) (hca:c.args.toList = [x,y]) (hct:c.argTypes.toList = [T,T]) (hc:Af x=true) (hc2:Af y=true)
  {z:AV} {st':List Ob} (hy:Yv P s T (Cf s x) (Cf s y)=some (z,st')):Does P a w w0 St0 s o z st':=by
 unfold Yv at hy
 split at hy
 ·rename_i l l2 e1 e2
  split at hy
  ·split at hy
   ·split at hy
    ·split at hy
     ·split at hy
      ·rw[← e1,← e2] at hy
       exact nT h o T c x y ho hcl hca hct hc hc2 hy
      ·rw[← e1,← e2] at hy
       exact Yu h o T c x y ho hcl hca hct hc hc2 hy
     ·cases hy
    ·rw[← e1,← e2] at hy
     exact Yu h o T c x y ho hcl hca hct hc hc2 hy
   ·cases hy
  ·cases hy
 ·exact Yu h o T c x y ho hcl hca hct hc hc2 hy
end Go.Vm
