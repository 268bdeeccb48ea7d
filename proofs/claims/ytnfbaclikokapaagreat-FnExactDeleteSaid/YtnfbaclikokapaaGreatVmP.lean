/- A part. -/
import Derived.Test.YtnfbaclikokapaaGreatVmO
set_option linter.unusedSimpArgs false
set_option linter.unusedVariables false
namespace Go.Vm
open Go.RowKit
variable {P:Program} {w0:Bs} {St0 St:Nat→Nat→Prop} {β:Nat→Option Nat} {s:MS} {a:Act} {w:World}
theorem EX (w:World) (o:Obj):Below w.heap.size w (w.drew.alloc o):=⟨rfl,rfl,rfl,by simp,fun k hk=>by
 show (w.heap.push o)[k]?=_
 grind⟩
theorem D6 (w:World) (o:Obj):(w.drew.alloc o).heap[w.heap.size]?=some o:=by
 show (w.heap.push o)[w.heap.size]?=_
 simp
def AHv (w:World) (ob:Ob) (u:Value):Option Nat→Prop
 | none=>u = .slice none 0 0∧ob.xs = []
 | some b=>∃ cap cs,u = .slice (some ⟨b,0,none⟩) ob.xs.length cap∧ob.xs.length≤cap∧cap≤maxLen∧w.heap[b]?=some (.cells cs ob.ty (0,0))∧cs.size=cap*ob.sz
theorem LZ {st:List Ob} {ob:Ob} {b:Option Nat} {u:Value} (hone:u.oneCell'=true)
  (hb:β st.length=b) (hu:ob.live=true→AHv w ob u b) :
  AVR w St (st ++ [ob]) β (.c (.ref st.length)) u:=by
 simp only[AVR,RdC,A_]
 rw[aX (aN _)]
 simp only[dM,aB,hb]
 refine⟨hone,fun hl=>?_⟩
 have:=hu hl
 cases b with
 | none=>exact this
 | some b=>exact this
theorem Tc (h:Core w0 St0 St β s a w) {l:Nat} {ob:Ob} {b0:Nat} (hob:s.st[l]?=some ob) (hlive:ob.live=true) (hβ:β l=some b0) {w':World} {b':Nat} {ob':Ob} {ys:List (List Cl)} (hxs:ob'.xs=ob.xs++ys)
  (hys:∀ (k:Nat) (c:Cl),ys.flatten[k]?=some c→E8 c=false) (hfree:∀ x,Na w0 (fun _=>False) w St s.st β x→x≠b'∧w'.heap[x]?=w.heap[x]?) (hsize:w.heap.size≤w'.heap.size)
  (hcell:∀ b o,St b o→w'.cell? ⟨b,o,none⟩=w.cell? ⟨b,o,none⟩) (hoth:∀ (l2:Nat) (o2:Ob) (b2:Nat),s.st[l2]?=some o2→o2.live=true→β l2=some b2→l≠l2→w'.heap[b2]?=w.heap[b2]?)
  (hmv:∀ k,k<ob.xs.flatten.length→w'.cell? ⟨b',k,none⟩=w.cell? ⟨b0,k,none⟩) :
  Own w0 (fun _=>False) w' St (Ae s.st l ++ [ob']) (fun i=>if i=(Ae s.st l).length then some b' else β i):=by
 have hkl:(Ae s.st l).length=s.st.length:=Hf s.st l
 have hll:l<s.st.length:=(az.1 hob).1
 refine h.own.move (fun i=>if i=s.st.length then l else i) (fun x hx=>?_) (fun _ _ h=>h) hcell (fun l2 o2 b k c hl hlive2 hβ2 hk hc=>?_) (fun l1 l2 o1 o2 h1 h2 g1 g2 e=>?_)
 ·obtain⟨q1,q2⟩:=hfree x hx
  refine⟨⟨hx.1,fun h=>h,bn hx.2.2.1 hsize,hx.2.2.2.1,fun i o2 hi hlv=>?_⟩,q2⟩
  by_cases e:i=(Ae s.st l).length
  ·grind
  ·simp only[e,aT]
   have hlt:i<(Ae s.st l).length:=by
    have:=(az.1 hi).1
    simp at this
    omega
   rw[aZ hlt] at hi
   obtain⟨o3,r1,r2,r3⟩:=GV hi
   have hne:l≠i:=fun e2=>by grind
   have:=r3 hne
   subst this
   exact hx.2.2.2.2 i o2 r1 hlv
 ·by_cases e:l2=s.st.length
  ·grind
  grind [az,aZ,GV,cell_of_block]
 grind [aZ,GV]
theorem oD (h:Core w0 St0 St β s a w) {l:Nat} {ob:Ob} {b0:Nat} (hob:s.st[l]?=some ob) (hlive:ob.live=true) (hβ:β l=some b0):Own w0 (fun x=>x=b0) w St (Ae s.st l) β:=by
 have hg:∀ l' o2,(Ae s.st l)[l']?=some o2→o2.live=true→s.st[l']?=some o2∧l≠l':=by
  intro l' o2 h2 hl
  obtain⟨o3,p1,p2,p3⟩:=GV h2
  by_cases e:l=l'
  ·grind
  ·grind
 exact h.own.move id (fun x hx=>⟨⟨hx.1,fun e=>hx.2.2.2.2 l ob hob hlive (by rw[hβ,e]),hx.2.2.1,hx.2.2.2.1,fun l' o2 hl' hlv=>hx.2.2.2.2 l' o2 (hg l' o2 hl' hlv).1 hlv⟩,rfl⟩) (fun _ _ h=>h) (fun _ _ _=>rfl)
  (fun l' o2 b k c h1 h2 h3 h4 _=>⟨o2,b,(hg l' o2 h1 h2).1,h2,h3,h4,rfl⟩) (fun _ _ _ _ _ _ _ _ e=>e)
theorem Jn {n m k:Nat} (h1:n≤2147483648∨(n≤1099511627776∧m≤128)) (h2:m≤65536) (h3:k≤n):k*m≤140737488355328:=by
 rcases h1 with h1 | ⟨h1,h4⟩
 ·have:=abh (Nat.le_trans h3 h1) h2
  omega
 ·have:=abh (Nat.le_trans h3 h1) h4
  omega
theorem wK (h:Core w0 St0 St β s a w) (e:TypeId) (n:Nat) (xs:List (List Cl)) (wr:Bool) (vals:List Value) (rest:Array Value) (cap:Nat) (hl:∀ x∈xs,x.length=n) (hvl:vals.length=xs.length*n)
  (hc:∀ (k:Nat) (c:Cl),xs.flatten[k]?=some c→∃ u,vals[k]?=some u∧RdC w St s.st β c u) (hcap:xs.length≤cap) (hcm:cap≤maxLen) (hrest:rest.size=(cap-xs.length)*n) :
  ∃ β',Core w0 St0 St β' ⟨s.n,s.env,s.st ++ [⟨e,n,xs,wr,true⟩]⟩ a (w.drew.alloc (.cells (vals.toArray++rest) e)) ∧
   AVR (w.drew.alloc (.cells (vals.toArray++rest) e)) St (s.st ++ [⟨e,n,xs,wr,true⟩]) β' (.c (.ref s.st.length)) (.slice (some ⟨w.heap.size,0,none⟩) xs.length cap):=by
 obtain⟨β',h1,h2,h3,_⟩:=h.newOb (EX w (.cells (vals.toArray++rest) e)) ⟨e,n,xs,wr,true⟩ (some w.heap.size) rfl (by simp) (fun b hb=>by
  grind [ah,D6,az,zx])
 refine⟨β',h1,LZ rfl h2 fun _=>⟨cap,_,rfl,hcap,hcm,D6 w _, ?_⟩⟩
 simp only[Array.size_append,abk,hvl,hrest,← iW]
 grind
theorem Td (h:Core w0 St0 St β s a w) (e:TypeId) (n:Nat) (xs:List (List Cl)) (wr:Bool) (vals:List Value) (rest:Array Value) (cap:Nat) (hl:∀ x∈xs,x.length=n) (hvl:vals.length=xs.length*n)
  (hc:∀ (k:Nat) (c:Cl),xs.flatten[k]?=some c→∃ u,vals[k]?=some u∧RdB w St s.st β c u) (hcap:xs.length≤cap) (hcm:cap≤maxLen) (hrest:rest.size=(cap-xs.length)*n)
  (hown:Own w0 (fun _=>False) (w.drew.alloc (.cells (vals.toArray++rest) e)) St (s.st ++ [⟨e,n,xs,wr,true⟩]) (fun l=>if l=s.st.length then some w.heap.size else β l)) :
  ∃ β',Core w0 St0 St β' ⟨s.n,s.env,s.st ++ [⟨e,n,xs,wr,true⟩]⟩ a (w.drew.alloc (.cells (vals.toArray++rest) e)) ∧
   AVR (w.drew.alloc (.cells (vals.toArray++rest) e)) St (s.st ++ [⟨e,n,xs,wr,true⟩]) β' (.c (.ref s.st.length)) (.slice (some ⟨w.heap.size,0,none⟩) xs.length cap):=by
 obtain⟨β',h1,h2,h3,_⟩:=h.newObB (EX w (.cells (vals.toArray++rest) e)) ⟨e,n,xs,wr,true⟩ (some w.heap.size) rfl (by simp) (fun b hb=>by
  grind [ah,D6,az,zx]) hown
 refine⟨β',h1,LZ rfl h2 fun _=>⟨cap,_,rfl,hcap,hcm,D6 w _, ?_⟩⟩
 simp only[Array.size_append,abk,hvl,hrest,← iW]
 grind
theorem AEi (h:Core w0 St0 St β s a w) (o:Oper) (T:TypeId) (c:Call) (x y:Operand) (ho:o.op = .call c) (hcl:c.callee = .builtin .append) (hca:c.args.toList = [x,y]) (hct:c.argTypes.toList = [T,T]) (hc:Ar x=true) (hc2:Ar y=true)
  {z:AV} {st':List Ob} (hy:tJ P s T (EC s x) (EC s y)=some (z,st')):Does P a w w0 St0 s o z st':=by
 have hx:=Bl h x hc
 have hyy:=Bl h y hc2
 have ha1:c.argTypes = #[T,T]:=by have:=congrArg List.toArray hct; simpa using this
 have ha2:c.args = #[x,y]:=by have:=congrArg List.toArray hca; simpa using this
 have hexec:∀ v w',(Builtin.append_ #[T,T] o.type #[a.eval x,a.eval y]).run P w = .ok v w'→(execOp a.eval o).run P w = .ok (.value v) w':=by
  intro v w' hr
  simp[execOp,ho,resolve,hcl,ha1,ha2,invoke,builtin,hr]
 unfold tJ at hy
 split at hy
 ·rename_i e hte
  have ht:=LJ hte
  split at hy
  ·rename_i n cs0 by' hs hz0 hb
   obtain⟨zs,hz,_,rfl⟩:=PW hz0
   split at hy
   ·rename_i hcond
    obtain⟨hzl0,hn,hby⟩:=hcond
    have hzl:zs.length=n:=by simpa using hzl0
    split at hy
    ·rename_i d hevy
     split at hy
     ·rename_i ys hd
      ·
       split at hy
       ·rename_i hall
        have hyl:∀ r∈ys,r.length=n:=fun r hr=>by
         have:=aF.1 hall r hr
         simp only[rowOk,ak,ZZ] at this
         exact this.1
        have hysno:∀ (k:Nat) (c:Cl),ys.flatten[k]?=some c→E8 c=false:=fun k c hk=>by
         obtain⟨r,hr,hcr⟩:=abd.1 (aY hk)
         have:=aF.1 hall r hr
         simp only[rowOk,ak] at this
         grind
        rw[hevy] at hyy
        simp only[AVR] at hyy
        obtain⟨ad,capy,hvy,_,hcells⟩:=Rl h hyy hd
        have hxx:AVR w St s.st β (EC s x) (a.eval x):=hx
        have hyfl:ys.flatten.length=ys.length*n:=Dp hyl
        have htab:∃ i z',P.info? e=some i∧i.zero=some z'∧i.size=n∧i.bytes=by'∧z'.cells.size=n:=by
         unfold AZ at hs; unfold PV at hz; unfold EE at hb
         cases hi:P.info? e with
         | none=>grind
         | some i =>
          cases hiz:i.zero with
          | none=>grind
          | some z' =>
           grind
        obtain⟨i,z',hi,hiz,hsz,hbs,hzs⟩:=htab
        have hnews:ys≠ []→∃ b off,ad=some ⟨b,off,none⟩∧∃ news:List Value,news.length=ys.length*n∧(∀ (k:Nat) (v:Value),news[k]?=some v→w.cell? ((⟨b,off,none⟩:Addr).add k)=some v) ∧
          (∀ (k:Nat) (c:Cl),ys.flatten[k]?=some c→∃ u,news[k]?=some u∧RdC w St s.st β c u)∧∀ u∈news,u.oneCell'=true:=by
         intro hne
         rcases hcells with h0 | ⟨b,off,rfl,hcell⟩
         ·grind
         ·obtain⟨news,n1,n2⟩:=Ko (R:=fun c u=>RdC w St s.st β c u) (w:=w) (b:=b) ys.flatten off (fun k c hk=>by
           obtain⟨v,hv1,hv2⟩:=hcell k c hk
           exact⟨v,hv1,hv2.toC (hysno k c hk)⟩)
          have hat:∀ (k:Nat) (v:Value),news[k]?=some v→∃ c,ys.flatten[k]?=some c∧w.cell? ⟨b,off+k,none⟩=some v∧RdC w St s.st β c v:=fun k v hk=>by
           have hk':k<ys.flatten.length:=by rw[← n1]; exact(az.1 hk).1
           obtain⟨u,u1,u2,u3⟩:=n2 k _ (aA hk')
           grind
          refine⟨b,off,rfl,news,by rw[n1,hyfl],fun k v hk=>?_,fun k c hk=>?_,fun u hu=>?_⟩
          ·grind [addr_add]
          ·grind
          ·obtain⟨k,hk⟩:=aa7.1 hu
           obtain⟨_,_,_,hr⟩:=hat k u hk
           exact hr.one
        split at hy
        ·
         rename_i hevx
         split at hy
         ·rename_i hle
          simp only[ah,bJ] at hy
          obtain⟨rfl,rfl⟩:=hy
          rw[hevx] at hxx
          obtain⟨hvx,_⟩:=Nb hxx
          by_cases hne:ys = []
          ·subst hne
           have hy0:([]:List (List Cl)).length=0:=rfl
           rw[hy0] at hvy
           have hrun:(Builtin.append_ #[T,T] o.type #[a.eval x,a.eval y]).run P w = .ok (.slice none 0 0) w:=by
            rw[hvx,hvy]; exact Gi ht hs none 0 0 (aN _) ad capy w
           obtain⟨a1,a2,a3⟩:=h.addOb ⟨e,n,[],true,true⟩ none (fun _=>rfl) (by simp) h.own (by simp)
           exact⟨_,.slice none 0 0,w,St,_,hexec _ _ hrun,.inl rfl,a1,LZ (b:=none) rfl (by simp) fun _=>⟨rfl,rfl⟩⟩
          ·obtain⟨b,off,rfl,news,n1,n2,n3,n4⟩:=hnews hne
           have hpos:0<ys.length:=aa0.2 hne
           have hr:=run_append_nil (P:=P) w T o.type e i z' ht hi hiz ⟨b,off,none⟩ ys.length capy news (by grind) n2 hpos (by omega) (by rw[hbs]; have:=Jn (m:=by') hle hby (aN _); omega)
           rw[← hvx,← hvy] at hr
           have hge:=grownCap_ge w ys.length 0 e
           obtain⟨β',g1,g2⟩:=wK h e n ys true news (Builtin.zeroCells z'.cells (grownCap w ys.length 0 e-ys.length)) (grownCap w ys.length 0 e) hyl n1 (fun k c hk=>by
            grind) hge (grownCap_le_maxLen w ys.length 0 e (by simp only[maxLen]; omega)) (by rw[size_zeroCells,hzs])
           exact⟨_,_,_,St,β',hexec _ _ hr,.inl rfl,g1,g2⟩
         ·cases hy
        ·
         rename_i l hevx
         split at hy
         ·rename_i ob hob
          split at hy
          ·rename_i hoc
           obtain⟨hty,hosz,hle⟩:=hoc
           simp only[ah,bJ] at hy
           obtain⟨rfl,rfl⟩:=hy
           rw[hevx] at hxx
           obtain⟨hl,hlive⟩:=Aw hob
           simp only[AVR,RdC,A_,hl] at hxx
           have hx2:=hxx.2 hlive
           obtain⟨k1,k2⟩:=h.kill l
           have hkr:∀ c u,RdC w St s.st β c u→RdC w St (Ae s.st l) β c u:=fun c u hc=>by
            have:=k2 (.c c) u (by simpa only[AVR] using hc)
            simpa only[AVR] using this
           have hkrB:∀ c u,RdB w St s.st β c u→RdB w St (Ae s.st l) β c u:=fun c u hc=>by
            cases c with
            | ow ty sz xs=>exact hc
            | v y=>exact hkr (.v y) u hc
            | sl y=>exact hkr (.sl y) u hc
            | ref y=>exact hkr (.ref y) u hc
           have hll:l<s.st.length:=(az.1 hl).1
           have hkl:=Hf s.st l
           cases hβ:β l with
           | none =>
            simp only[hβ] at hx2
            obtain⟨hvx,hobx⟩:=hx2
            rw[hobx] at hle ⊢
            simp only[aI]
            by_cases hne:ys = []
            ·subst hne
             have hy0:([]:List (List Cl)).length=0:=rfl
             rw[hy0] at hvy
             have hrun:(Builtin.append_ #[T,T] o.type #[a.eval x,a.eval y]).run P w = .ok (.slice none 0 0) w:=by
              rw[hvx,hvy]; exact Gi ht hs none 0 0 (aN _) ad capy w
             obtain⟨a1,a2,a3⟩:=k1.addOb ⟨e,n,[],ob.wr,true⟩ none (fun _=>rfl) (by simp) k1.own (by simp)
             refine⟨_,.slice none 0 0,w,St,_,hexec _ _ hrun,.inl rfl,a1, ?_⟩
             rw[← hkl]
             exact LZ (b:=none) rfl (by simp) fun _=>⟨rfl,rfl⟩
            ·obtain⟨b,off,rfl,news,n1,n2,n3,n4⟩:=hnews hne
             have hpos:0<ys.length:=aa0.2 hne
             simp only[X5,Zj] at hle
             have hr:=run_append_nil (P:=P) w T o.type e i z' ht hi hiz ⟨b,off,none⟩ ys.length capy news (by grind) n2 hpos (by omega) (by rw[hbs]; have:=Jn (m:=by') hle hby (aN _); omega)
             rw[← hvx,← hvy] at hr
             have hge:=grownCap_ge w ys.length 0 e
             obtain⟨β',g1,g2⟩:=wK k1 e n ys ob.wr news (Builtin.zeroCells z'.cells (grownCap w ys.length 0 e-ys.length)) (grownCap w ys.length 0 e) hyl n1 (fun k c hk=>by
              grind) hge (grownCap_le_maxLen w ys.length 0 e (by simp only[maxLen]; omega)) (by rw[size_zeroCells,hzs])
             simp only[hkl] at g2
             exact⟨_,_,_,St,β',hexec _ _ hr,.inl rfl,g1,g2⟩
           | some b0 =>
            simp only[hβ] at hx2
            obtain⟨cap,cs,hvx,c1,c2,c3,c4⟩:=hx2
            obtain⟨p1,p2,cs',p3,p4,p5⟩:=h.obs l ob b0 hl hlive hβ
            rw[c3] at p3
            simp only[ah,Obj.cells.injEq,yY] at p3
            subst p3
            have hfree:∀ l' o2,(Ae s.st l)[l']?=some o2→o2.live=true→β l'≠some b0:=fun l' o2 h2 hl2 hb2=>by
             obtain⟨o3,r1,r2,r3⟩:=GV h2
             by_cases e2:l=l'
             ·grind
             ·have:=r3 e2
              subst this
              exact e2 (h.inj l l' ob o2 b0 hl r1 hlive hl2 hβ hb2)
            have hkeep:∀ o,St b0 o→ob.wr=false∧o<ob.xs.length*ob.sz:=fun o hbo=>h.sep l ob b0 o hl hlive hβ hbo
            have hxfl:ob.xs.flatten.length=ob.xs.length*n:=by rw[Dp p4,hosz]
            have hlall:∀ r∈ob.xs++ys,r.length=n:=fun r hr=>by
             grind
            have hcap:cs.size=cap*n:=by rw[c4,hosz]
            by_cases hne:ys = []
            ·subst hne
             have hy0:([]:List (List Cl)).length=0:=rfl
             rw[hy0] at hvy
             have hrun:(Builtin.append_ #[T,T] o.type #[a.eval x,a.eval y]).run P w = .ok (.slice (some ⟨b0,0,none⟩) ob.xs.length cap) w:=by
              rw[hvx,hvy]; exact Gi ht hs _ _ _ c1 ad capy w
             obtain⟨a1,a2,a3⟩:=k1.addObB ⟨e,n,ob.xs ++ [],ob.wr,true⟩ (some b0) (by simp) (fun b hb=>by
              grind) (Tc h hl hlive hβ (ys:=[]) rfl (fun k c hk=>by simp at hk) (fun x hx=>⟨fun e2=>hx.2.2.2.2 l ob hl hlive (by rw[hβ,e2]),rfl⟩) (aN _) (fun _ _ _=>rfl) (fun _ _ _ _ _ _ _=>rfl) (fun _ _=>rfl))
             refine⟨_,_,w,St,_,hexec _ _ hrun,.inl rfl,a1, ?_⟩
             rw[← hkl]
             exact LZ (b:=some b0) rfl (by simp) fun _=>⟨cap,cs,by simp,by grind,c2,by grind,hcap⟩
            ·obtain⟨b,off,rfl,news,n1,n2,n3,n4⟩:=hnews hne
             have hpos:0<ys.length:=aa0.2 hne
             have hFC:ob.xs.flatten.length≤cs.toList.length:=Kq (R:=fun c u=>RdB w St s.st β c u) (fun k c hk=>by grind)
             have holdl:(cs.toList.take (ob.xs.length*n)).length=ob.xs.length*n:=by
              rw[bC,X4 (by omega)]
             have hold:∀ (k:Nat) (c:Cl),ob.xs.flatten[k]?=some c→∃ u,(cs.toList.take (ob.xs.length*n))[k]?=some u∧RdB w St s.st β c u:=fun k c hk=>by
              grind
             have hboth:∀ (k:Nat) (c:Cl),(ob.xs++ys).flatten[k]?=some c→∃ u,(cs.toList.take (ob.xs.length*n)++news)[k]?=some u∧RdB w St (Ae s.st l) β c u:=fun k c hk=>by
              rw[aaP] at hk
              rcases bI k (ob.xs.length*n) with h' | h'
              ·grind
              ·rw[aX (by omega),hxfl] at hk
               rw[aX (by omega),holdl]
               obtain⟨u,u1,u2⟩:=n3 _ c hk
               exact⟨u,u1,(hkr _ _ u2).toB⟩
             by_cases hroom:ob.xs.length+ys.length≤cap
             ·
              have hcsl:cs.toList.length=cs.size:=by simp
              have hcapm:(ob.xs.length+ys.length)*n≤cap*n:=aaE _ hroom
              have hfit:ob.xs.length*i.size+news.length≤cs.size:=by rw[hsz,n1,hcap,← iW]; exact hcapm
              have hr:=run_append_room (P:=P) w T o.type e i ht hi b0 ob.xs.length cap cs (by grind) ⟨b,off,none⟩ ys.length capy news (by grind) n2 n4 hroom hfit
              rw[← hvx,← hvy,hsz] at hr
              rw[hsz] at hfit
              generalize hcs':(cs.toList.take (ob.xs.length*n)++news++cs.toList.drop (ob.xs.length*n+news.length)).toArray=C' at hr
              have hC's:C'.size=cs.size:=by
               rw[← hcs']
               simp only[abk,aW,yT,holdl]
               omega
              have hC'at:∀ k,k<ob.xs.length*n+news.length→C'[k]?=(cs.toList.take (ob.xs.length*n)++news)[k]?:=fun k hk=>by
               grind
              have hturn:=k1.turn (b:=b0) p1 (oD h hl hlive hβ) hfree c3 (cs':=C') (fun o hbo=>by
               grind) hC's
              have hcell:∀ b' o,St b' o→(w.setRow b0 C').cell? ⟨b',o,none⟩=w.cell? ⟨b',o,none⟩:=fun b' o hbo=>by
               by_cases e2:b'=b0
               ·subst e2
                have ho:=(hkeep o hbo).2
                rw[hosz] at ho
                rw[World.cell?,World.cell?,setRow_heap w b' cs C' ob.ty (0,0) c3,c3]
                grind
               grind [cell_of_block,setRow_other]
              have hrr:∀ l' u,A_ w (Ae s.st l) β l' u→A_ (w.setRow b0 C') (Ae s.st l) β l' u:=by
               intro l' u hu
               unfold A_ at hu ⊢
               cases hq:(Ae s.st l)[l']? with
               | none=>grind
               | some o2 =>
                grind [setRow_other]
              obtain⟨a1,a2,a3⟩:=hturn.addObB ⟨e,n,ob.xs++ys,ob.wr,true⟩ (some b0) (by simp) (fun b' hb=>by
               simp only[ah] at hb
               subst hb
               refine⟨p1,by simp_all,hfree,fun o hbo=>?_,C',by grind [setRow_heap],hlall,fun k c hk=>?_⟩
               ·grind
               ·obtain⟨u,u1,u2⟩:=hboth k c hk
                have hk':k<ob.xs.length*n+news.length:=by
                 have:=(az.1 u1).1
                 simpa only[aW,holdl] using this
                exact⟨u,by grind,RdB.mono (fun _ _ h=>h) hcell hrr _ _ u2⟩) (by
               refine Tc h hl hlive hβ (ys:=ys) rfl hysno (fun x hx=>?_) (by simp_all) hcell (fun l2 o2 b2 h1 h2 h3 h4=>?_) (fun k hk=>?_)
               ·have hxb:x≠b0:=fun e2=>hx.2.2.2.2 l ob hl hlive (by rw[hβ,e2])
                grind [setRow_other]
               ·exact setRow_other w b0 b2 C' fun e2=>h4 (h.inj l l2 ob o2 b0 hl h1 hlive h2 hβ (by rw[h3,e2]))
               ·have hk':k<ob.xs.length*n:=by rw[← hxfl]; exact hk
                rw[World.cell?,World.cell?,setRow_heap w b0 cs C' ob.ty (0,0) c3,c3]
                grind)
              refine⟨_,_,_,St,_,hexec _ _ hr,.inl rfl,a1, ?_⟩
              rw[← hkl]
              exact LZ (b:=some b0) rfl (by simp) fun _=>⟨cap,C',by simp,by grind,c2,by grind [setRow_heap],by grind⟩
             ·
              have holds:∀ (j:Nat) (v:Value),(cs.toList.take (ob.xs.length*n))[j]?=some v→w.cell? ((⟨b0,0,none⟩:Addr).add j)=some v:=fun j v hj=>by
               rw[yS] at hj
               split at hj
               ·rw[addr_add,World.cell?,c3]
                grind
               ·cases hj
              have hr:=run_append_grow (P:=P) w T o.type e i z' ht hi hiz ⟨b0,0,none⟩ ob.xs.length cap (cs.toList.take (ob.xs.length*n)) (by grind) holds ⟨b,off,none⟩ ys.length capy news (by grind) n2 (by omega) (by omega) (by
               exact growslice_fits (by omega) (by rw[hbs]; exact Jn hle hby (aN _)))
              rw[← hvx,← hvy] at hr
              have hge:=grownCap_ge w (ob.xs.length+ys.length) cap e
              obtain⟨β',g1,g2⟩:=Td k1 e n (ob.xs++ys) ob.wr (cs.toList.take (ob.xs.length*n)++news) (Builtin.zeroCells z'.cells (grownCap w (ob.xs.length+ys.length) cap e-(ob.xs.length+ys.length))) (grownCap w (ob.xs.length+ys.length) cap e) hlall (by
               grind) hboth (by grind) (grownCap_le_maxLen w _ cap e (by simp only[maxLen]; omega)) (by rw[size_zeroCells,hzs]; simp) (by
               have hbd:=EX w (.cells ((cs.toList.take (ob.xs.length*n)++news).toArray++Builtin.zeroCells z'.cells (grownCap w (ob.xs.length+ys.length) cap e-(ob.xs.length+ys.length))) e)
               refine Tc h hl hlive hβ (ys:=ys) rfl hysno (fun x hx=>⟨fun e2=>by have:=hx.2.2.1; omega,hbd.block x hx.2.2.1⟩) hbd.size (fun b o hbo=>cell_of_block (hbd.block b (h.stIn b o hbo))) (fun l2 o2 b2 h1 h2 h3 _=>hbd.block b2 (h.obs l2 o2 b2 h1 h2 h3).2.1) (fun k hk=>?_)
               have hk':k<ob.xs.length*n:=by rw[← hxfl]; exact hk
               rw[World.cell?,World.cell?,D6 w _,c3]
               grind)
              simp only[hkl,aW] at g2
              have earr:(cs.toList.take (ob.xs.length*n)++news).toArray=(cs.toList.take (ob.xs.length*n)).toArray++news.toArray:=by simp
              rw[earr] at g1 g2
              exact⟨_,_,_,St,β',hexec _ _ hr,.inl rfl,g1,g2⟩
          ·cases hy
         ·cases hy
        ·cases hy
       ·cases hy
     ·cases hy
    ·cases hy
   ·cases hy
  ·cases hy
 ·cases hy
end Go.Vm
