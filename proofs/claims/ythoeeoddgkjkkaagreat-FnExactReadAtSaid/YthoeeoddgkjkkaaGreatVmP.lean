/- The value machine, part P: append is what the model does. -/
import Derived.Test.YthoeeoddgkjkkaaGreatVmO
namespace Go.Vm
set_option linter.unusedSimpArgs false
set_option linter.unusedVariables false
open Go.RowKit
variable {P:Program} {w0:Bs} {St0 St:Nat→Nat→Prop} {β:Nat→Option Nat} {s:MS} {a:Act} {w:World}
theorem Dv (w:World) (o:Obj):Below w.heap.size w (w.drew.alloc o):=⟨rfl,rfl,rfl,by simp,fun k hk=>by
 show (w.heap.push o)[k]?=_
 rw[Array.getElem?_push,if_neg (by omega)]⟩
theorem DT (w:World) (o:Obj):(w.drew.alloc o).heap[w.heap.size]?=some o:=by
 show (w.heap.push o)[w.heap.size]?=_
 simp
def AGB (w:World) (ob:Ob) (u:Value):Option Nat→Prop
 | none=>u = .slice none 0 0∧ob.xs = []
 | some b=>∃ cap cs,u = .slice (some ⟨b,0,none⟩) ob.xs.length cap∧ob.xs.length≤cap∧cap≤maxLen∧w.heap[b]?=some (.cells cs ob.ty (0,0))∧cs.size=cap*ob.sz
theorem Iw {st:List Ob} {ob:Ob} {b:Option Nat} {u:Value} (hone:u.oneCell'=true)
  (hb:β st.length=b) (hu:ob.live=true→AGB w ob u b) :
  AVR w St (st ++ [ob]) β (.c (.ref st.length)) u:=by
 simp only[AVR,RdC,Aw]
 rw[List.getElem?_append_right (Nat.le_refl _)]
 simp only[Nat.sub_self,List.getElem?_cons_zero,hb]
 refine⟨hone,fun hl=>?_⟩
 have:=hu hl
 cases b with
 | none=>exact this
 | some b=>exact this
theorem PD (h:Core w0 St0 St β s a w) {l:Nat} {ob:Ob} {b0:Nat} (hob:s.st[l]?=some ob) (hlive:ob.live=true) (hβ:β l=some b0) {w':World} {b':Nat} {ob':Ob} {ys:List (List Cl)} (hxs:ob'.xs=ob.xs++ys)
  (hys:∀ (k:Nat) (c:Cl),ys.flatten[k]?=some c→Ei c=false) (hfree:∀ x,Jo w0 (fun _=>False) w St s.st β x→x≠b'∧w'.heap[x]?=w.heap[x]?) (hsize:w.heap.size≤w'.heap.size)
  (hcell:∀ b o,St b o→w'.cell? ⟨b,o,none⟩=w.cell? ⟨b,o,none⟩) (hoth:∀ (l2:Nat) (o2:Ob) (b2:Nat),s.st[l2]?=some o2→o2.live=true→β l2=some b2→l≠l2→w'.heap[b2]?=w.heap[b2]?)
  (hmv:∀ k,k<ob.xs.flatten.length→w'.cell? ⟨b',k,none⟩=w.cell? ⟨b0,k,none⟩) :
  Own w0 (fun _=>False) w' St (Aa s.st l ++ [ob']) (fun i=>if i=(Aa s.st l).length then some b' else β i):=by
 have hkl:(Aa s.st l).length=s.st.length:=Fa s.st l
 have hll:l<s.st.length:=(List.getElem?_eq_some_iff.1 hob).1
 refine h.own.move (fun i=>if i=s.st.length then l else i) (fun x hx=>?_) (fun _ _ h=>h) hcell (fun l2 o2 b k c hl hlive2 hβ2 hk hc=>?_) (fun l1 l2 o1 o2 h1 h2 g1 g2 e=>?_)
 ·obtain⟨q1,q2⟩:=hfree x hx
  refine⟨⟨hx.1,fun h=>h,Nat.lt_of_lt_of_le hx.2.2.1 hsize,hx.2.2.2.1,fun i o2 hi hlv=>?_⟩,q2⟩
  by_cases e:i=(Aa s.st l).length
  ·simp only[e,if_true]
   intro hb
   exact q1 (Option.some.inj hb).symm
  ·simp only[e,if_false]
   have hlt:i<(Aa s.st l).length:=by
    have:=(List.getElem?_eq_some_iff.1 hi).1
    simp at this
    omega
   rw[List.getElem?_append_left hlt] at hi
   obtain⟨o3,r1,r2,r3⟩:=Dz hi
   have hne:l≠i:=fun e2=>by rw[r2 e2] at hlv; simp at hlv
   have:=r3 hne
   subst this
   exact hx.2.2.2.2 i o2 r1 hlv
 ·by_cases e:l2=s.st.length
  ·subst e
   rw[List.getElem?_append_right (by omega),hkl] at hl
   simp only[Nat.sub_self,List.getElem?_cons_zero,Option.some.injEq] at hl
   subst hl
   simp only[hkl,if_true,Option.some.injEq] at hβ2
   subst hβ2
   simp only[if_true]
   rw[hxs,List.flatten_append] at hk
   rcases Nat.lt_or_ge k ob.xs.flatten.length with h' | h'
   ·rw[List.getElem?_append_left h'] at hk
    exact⟨ob,b0,hob,hlive,hβ,hk,hmv k h'⟩
   ·rw[List.getElem?_append_right h'] at hk
    rw[hys _ c hk] at hc
    cases hc
  ·have hlt:l2<(Aa s.st l).length:=by
    have:=(List.getElem?_eq_some_iff.1 hl).1
    simp at this
    omega
   rw[List.getElem?_append_left hlt] at hl
   obtain⟨o3,r1,r2,r3⟩:=Dz hl
   have hne:l≠l2:=fun e2=>by rw[r2 e2] at hlive2; simp at hlive2
   have:=r3 hne
   subst this
   have e3:¬ l2=(Aa s.st l).length:=by omega
   simp only[e3,if_false] at hβ2
   simp only[e,if_false]
   exact⟨o2,b,r1,hlive2,hβ2,hk,cell_of_block (hoth l2 o2 b r1 hlive2 hβ2 hne)⟩
 ·have key:∀ (i:Nat) (o:Ob),(Aa s.st l ++ [ob'])[i]?=some o→o.live=true→i≠s.st.length→i≠l:=by
   intro i o hi hlv hne e2
   subst e2
   rw[List.getElem?_append_left (by omega)] at hi
   obtain⟨o3,r1,r2,r3⟩:=Dz hi
   rw[r2 rfl] at hlv
   simp at hlv
  by_cases e1:l1=s.st.length<;>by_cases e2:l2=s.st.length
  ·omega
  ·simp only[e1,if_true,e2,if_false] at e
   exact absurd e.symm (key l2 o2 h2 g2 e2)
  ·simp only[e1,if_false,e2,if_true] at e
   exact absurd e (key l1 o1 h1 g1 e1)
  ·simpa only[e1,e2,if_false] using e
theorem ZI (h:Core w0 St0 St β s a w) {l:Nat} {ob:Ob} {b0:Nat} (hob:s.st[l]?=some ob) (hlive:ob.live=true) (hβ:β l=some b0):Own w0 (fun x=>x=b0) w St (Aa s.st l) β:=by
 have hg:∀ l' o2,(Aa s.st l)[l']?=some o2→o2.live=true→s.st[l']?=some o2∧l≠l':=by
  intro l' o2 h2 hl
  obtain⟨o3,p1,p2,p3⟩:=Dz h2
  by_cases e:l=l'
  ·rw[p2 e] at hl; simp at hl
  ·rw[p3 e]; exact⟨p1,e⟩
 exact h.own.move id (fun x hx=>⟨⟨hx.1,fun e=>hx.2.2.2.2 l ob hob hlive (by rw[hβ,e]),hx.2.2.1,hx.2.2.2.1,fun l' o2 hl' hlv=>hx.2.2.2.2 l' o2 (hg l' o2 hl' hlv).1 hlv⟩,rfl⟩) (fun _ _ h=>h) (fun _ _ _=>rfl)
  (fun l' o2 b k c h1 h2 h3 h4 _=>⟨o2,b,(hg l' o2 h1 h2).1,h2,h3,h4,rfl⟩) (fun _ _ _ _ _ _ _ _ e=>e)
theorem H7 {n m k:Nat} (h1:n≤2147483648∨(n≤1099511627776∧m≤128)) (h2:m≤65536) (h3:k≤n):k*m≤140737488355328:=by
 rcases h1 with h1 | ⟨h1,h4⟩
 ·have:=Nat.mul_le_mul (Nat.le_trans h3 h1) h2
  omega
 ·have:=Nat.mul_le_mul (Nat.le_trans h3 h1) h4
  omega
theorem fM (h:Core w0 St0 St β s a w) (e:TypeId) (n:Nat) (xs:List (List Cl)) (wr:Bool) (vals:List Value) (rest:Array Value) (cap:Nat) (hl:∀ x∈xs,x.length=n) (hvl:vals.length=xs.length*n)
  (hc:∀ (k:Nat) (c:Cl),xs.flatten[k]?=some c→∃ u,vals[k]?=some u∧RdC w St s.st β c u) (hcap:xs.length≤cap) (hcm:cap≤maxLen) (hrest:rest.size=(cap-xs.length)*n) :
  ∃ β',Core w0 St0 St β' ⟨s.n,s.env,s.st ++ [⟨e,n,xs,wr,true⟩]⟩ a (w.drew.alloc (.cells (vals.toArray++rest) e)) ∧
   AVR (w.drew.alloc (.cells (vals.toArray++rest) e)) St (s.st ++ [⟨e,n,xs,wr,true⟩]) β' (.c (.ref s.st.length)) (.slice (some ⟨w.heap.size,0,none⟩) xs.length cap):=by
 obtain⟨β',h1,h2,h3,_⟩:=h.newOb (Dv w (.cells (vals.toArray++rest) e)) ⟨e,n,xs,wr,true⟩ (some w.heap.size) rfl (by simp) (fun b hb=>by
  simp only[Option.some.injEq] at hb
  subst hb
  refine⟨Nat.le_refl _,by simp,_,DT w _,hl,fun k c hk=>?_⟩
  obtain⟨u,hu,hr⟩:=hc k c hk
  refine⟨u, ?_,hr⟩
  have hk':k<vals.length:=(List.getElem?_eq_some_iff.1 hu).1
  rw[Array.getElem?_append_left (by simpa using hk')]
  simpa using hu)
 refine⟨β',h1,Iw rfl h2 fun _=>⟨cap,_,rfl,hcap,hcm,DT w _, ?_⟩⟩
 simp only[Array.size_append,List.size_toArray,hvl,hrest,← Nat.add_mul]
 congr 1
 omega
theorem PG (h:Core w0 St0 St β s a w) (e:TypeId) (n:Nat) (xs:List (List Cl)) (wr:Bool) (vals:List Value) (rest:Array Value) (cap:Nat) (hl:∀ x∈xs,x.length=n) (hvl:vals.length=xs.length*n)
  (hc:∀ (k:Nat) (c:Cl),xs.flatten[k]?=some c→∃ u,vals[k]?=some u∧RdB w St s.st β c u) (hcap:xs.length≤cap) (hcm:cap≤maxLen) (hrest:rest.size=(cap-xs.length)*n)
  (hown:Own w0 (fun _=>False) (w.drew.alloc (.cells (vals.toArray++rest) e)) St (s.st ++ [⟨e,n,xs,wr,true⟩]) (fun l=>if l=s.st.length then some w.heap.size else β l)) :
  ∃ β',Core w0 St0 St β' ⟨s.n,s.env,s.st ++ [⟨e,n,xs,wr,true⟩]⟩ a (w.drew.alloc (.cells (vals.toArray++rest) e)) ∧
   AVR (w.drew.alloc (.cells (vals.toArray++rest) e)) St (s.st ++ [⟨e,n,xs,wr,true⟩]) β' (.c (.ref s.st.length)) (.slice (some ⟨w.heap.size,0,none⟩) xs.length cap):=by
 obtain⟨β',h1,h2,h3,_⟩:=h.newObB (Dv w (.cells (vals.toArray++rest) e)) ⟨e,n,xs,wr,true⟩ (some w.heap.size) rfl (by simp) (fun b hb=>by
  simp only[Option.some.injEq] at hb
  subst hb
  refine⟨Nat.le_refl _,by simp,_,DT w _,hl,fun k c hk=>?_⟩
  obtain⟨u,hu,hr⟩:=hc k c hk
  refine⟨u, ?_,hr⟩
  have hk':k<vals.length:=(List.getElem?_eq_some_iff.1 hu).1
  rw[Array.getElem?_append_left (by simpa using hk')]
  simpa using hu) hown
 refine⟨β',h1,Iw rfl h2 fun _=>⟨cap,_,rfl,hcap,hcm,DT w _, ?_⟩⟩
 simp only[Array.size_append,List.size_toArray,hvl,hrest,← Nat.add_mul]
 congr 1
 omega
theorem bn (h:Core w0 St0 St β s a w) (o:Oper) (T:TypeId) (c:Call) (x y:Operand) (ho:o.op = .call c) (hcl:c.callee = .builtin .append) (hca:c.args.toList = [x,y]) (hct:c.argTypes.toList = [T,T]) (hc:Ap x=true) (hc2:Ap y=true)
  {z:AV} {st':List Ob} (hy:bi P s T (Dp s x) (Dp s y)=some (z,st')):Does P a w w0 St0 s o z st':=by
 have hx:=BR h x hc
 have hyy:=BR h y hc2
 have ha1:c.argTypes = #[T,T]:=by have:=congrArg List.toArray hct; simpa using this
 have ha2:c.args = #[x,y]:=by have:=congrArg List.toArray hca; simpa using this
 have hexec:∀ v w',(Builtin.append_ #[T,T] o.type #[a.eval x,a.eval y]).run P w = .ok v w'→(execOp a.eval o).run P w = .ok (.value v) w':=by
  intro v w' hr
  simp[execOp,ho,resolve,hcl,ha1,ha2,invoke,builtin,hr]
 unfold bi at hy
 split at hy
 ·rename_i e hte
  have ht:=Ii hte
  split at hy
  ·rename_i n cs0 by' hs hz0 hb
   obtain⟨zs,hz,_,rfl⟩:=LY hz0
   split at hy
   ·rename_i hcond
    obtain⟨hzl0,hn,hby⟩:=hcond
    have hzl:zs.length=n:=by simpa using hzl0
    split at hy
    ·rename_i d hevy
     split at hy
     ·rename_i ys hd
      ·
       split at hy
       ·rename_i hall
        have hyl:∀ r∈ys,r.length=n:=fun r hr=>by
         have:=List.all_eq_true.1 hall r hr
         simp only[rowOk,Bool.and_eq_true,beq_iff_eq] at this
         exact this.1
        have hysno:∀ (k:Nat) (c:Cl),ys.flatten[k]?=some c→Ei c=false:=fun k c hk=>by
         obtain⟨r,hr,hcr⟩:=List.mem_flatten.1 (List.mem_of_getElem? hk)
         have:=List.all_eq_true.1 hall r hr
         simp only[rowOk,Bool.and_eq_true] at this
         simpa using List.all_eq_true.1 this.2 c hcr
        rw[hevy] at hyy
        simp only[AVR] at hyy
        obtain⟨ad,capy,hvy,_,hcells⟩:=OH h hyy hd
        have hxx:AVR w St s.st β (Dp s x) (a.eval x):=hx
        have hyfl:ys.flatten.length=ys.length*n:=DW hyl
        have htab:∃ i z',P.info? e=some i∧i.zero=some z'∧i.size=n∧i.bytes=by'∧z'.cells.size=n:=by
         unfold AO at hs; unfold LX at hz; unfold AQ at hb
         cases hi:P.info? e with
         | none=>simp[hi] at hs
         | some i =>
          cases hiz:i.zero with
          | none=>simp[hi,hiz] at hz
          | some z' =>
           simp[hi] at hs hb
           simp[hi,hiz] at hz
           exact⟨i,z',rfl,hiz,hs,hb,by rw[← hzl,← hz]; simp⟩
        obtain⟨i,z',hi,hiz,hsz,hbs,hzs⟩:=htab
        have hnews:ys≠ []→∃ b off,ad=some ⟨b,off,none⟩∧∃ news:List Value,news.length=ys.length*n∧(∀ (k:Nat) (v:Value),news[k]?=some v→w.cell? ((⟨b,off,none⟩:Addr).add k)=some v) ∧
          (∀ (k:Nat) (c:Cl),ys.flatten[k]?=some c→∃ u,news[k]?=some u∧RdC w St s.st β c u)∧∀ u∈news,u.oneCell'=true:=by
         intro hne
         rcases hcells with h0 | ⟨b,off,rfl,hcell⟩
         ·exact absurd h0 hne
         ·obtain⟨news,n1,n2⟩:=IV (R:=fun c u=>RdC w St s.st β c u) (w:=w) (b:=b) ys.flatten off (fun k c hk=>by
           obtain⟨v,hv1,hv2⟩:=hcell k c hk
           exact⟨v,hv1,hv2.toC (hysno k c hk)⟩)
          have hat:∀ (k:Nat) (v:Value),news[k]?=some v→∃ c,ys.flatten[k]?=some c∧w.cell? ⟨b,off+k,none⟩=some v∧RdC w St s.st β c v:=fun k v hk=>by
           have hk':k<ys.flatten.length:=by rw[← n1]; exact(List.getElem?_eq_some_iff.1 hk).1
           obtain⟨u,u1,u2,u3⟩:=n2 k _ (List.getElem?_eq_getElem hk')
           rw[hk] at u1
           simp only[Option.some.injEq] at u1
           subst u1
           exact⟨_,List.getElem?_eq_getElem hk',u2,u3⟩
          refine⟨b,off,rfl,news,by rw[n1,hyfl],fun k v hk=>?_,fun k c hk=>?_,fun u hu=>?_⟩
          ·obtain⟨_,_,hv,_⟩:=hat k v hk
           rw[addr_add]; exact hv
          ·obtain⟨u,u1,_,u3⟩:=n2 k c hk
           exact⟨u,u1,u3⟩
          ·obtain⟨k,hk⟩:=List.mem_iff_getElem?.1 hu
           obtain⟨_,_,_,hr⟩:=hat k u hk
           exact hr.one
        split at hy
        ·
         rename_i hevx
         split at hy
         ·rename_i hle
          simp only[Option.some.injEq,Prod.mk.injEq] at hy
          obtain⟨rfl,rfl⟩:=hy
          rw[hevx] at hxx
          obtain⟨hvx,_⟩:=Jp hxx
          by_cases hne:ys = []
          ·subst hne
           have hy0:([]:List (List Cl)).length=0:=rfl
           rw[hy0] at hvy
           have hrun:(Builtin.append_ #[T,T] o.type #[a.eval x,a.eval y]).run P w = .ok (.slice none 0 0) w:=by
            rw[hvx,hvy]; exact E_ ht hs none 0 0 (Nat.le_refl _) ad capy w
           obtain⟨a1,a2,a3⟩:=h.addOb ⟨e,n,[],true,true⟩ none (fun _=>rfl) (by simp) h.own (by simp)
           exact⟨_,.slice none 0 0,w,St,_,hexec _ _ hrun,.inl rfl,a1,Iw (b:=none) rfl (by simp) fun _=>⟨rfl,rfl⟩⟩
          ·obtain⟨b,off,rfl,news,n1,n2,n3,n4⟩:=hnews hne
           have hpos:0<ys.length:=List.length_pos_iff.2 hne
           have hr:=run_append_nil (P:=P) w T o.type e i z' ht hi hiz ⟨b,off,none⟩ ys.length capy news (by rw[hsz]; exact n1) n2 hpos (by omega) (by rw[hbs]; have:=H7 (m:=by') hle hby (Nat.le_refl _); omega)
           rw[← hvx,← hvy] at hr
           have hge:=grownCap_ge w ys.length 0 e
           obtain⟨β',g1,g2⟩:=fM h e n ys true news (Builtin.zeroCells z'.cells (grownCap w ys.length 0 e-ys.length)) (grownCap w ys.length 0 e) hyl n1 (fun k c hk=>by
            obtain⟨u,u1,u2⟩:=n3 k c hk
            exact⟨u,u1,u2⟩) hge (grownCap_le_maxLen w ys.length 0 e (by simp only[maxLen]; omega)) (by rw[size_zeroCells,hzs])
           exact⟨_,_,_,St,β',hexec _ _ hr,.inl rfl,g1,g2⟩
         ·cases hy
        ·
         rename_i l hevx
         split at hy
         ·rename_i ob hob
          split at hy
          ·rename_i hoc
           obtain⟨hty,hosz,hle⟩:=hoc
           simp only[Option.some.injEq,Prod.mk.injEq] at hy
           obtain⟨rfl,rfl⟩:=hy
           rw[hevx] at hxx
           obtain⟨hl,hlive⟩:=BG hob
           simp only[AVR,RdC,Aw,hl] at hxx
           have hx2:=hxx.2 hlive
           obtain⟨k1,k2⟩:=h.kill l
           have hkr:∀ c u,RdC w St s.st β c u→RdC w St (Aa s.st l) β c u:=fun c u hc=>by
            have:=k2 (.c c) u (by simpa only[AVR] using hc)
            simpa only[AVR] using this
           have hkrB:∀ c u,RdB w St s.st β c u→RdB w St (Aa s.st l) β c u:=fun c u hc=>by
            cases c with
            | ow ty sz xs=>exact hc
            | v y=>exact hkr (.v y) u hc
            | sl y=>exact hkr (.sl y) u hc
            | ref y=>exact hkr (.ref y) u hc
           have hll:l<s.st.length:=(List.getElem?_eq_some_iff.1 hl).1
           have hkl:=Fa s.st l
           cases hβ:β l with
           | none =>
            simp only[hβ] at hx2
            obtain⟨hvx,hobx⟩:=hx2
            rw[hobx] at hle ⊢
            simp only[List.nil_append]
            by_cases hne:ys = []
            ·subst hne
             have hy0:([]:List (List Cl)).length=0:=rfl
             rw[hy0] at hvy
             have hrun:(Builtin.append_ #[T,T] o.type #[a.eval x,a.eval y]).run P w = .ok (.slice none 0 0) w:=by
              rw[hvx,hvy]; exact E_ ht hs none 0 0 (Nat.le_refl _) ad capy w
             obtain⟨a1,a2,a3⟩:=k1.addOb ⟨e,n,[],ob.wr,true⟩ none (fun _=>rfl) (by simp) k1.own (by simp)
             refine⟨_,.slice none 0 0,w,St,_,hexec _ _ hrun,.inl rfl,a1, ?_⟩
             rw[← hkl]
             exact Iw (b:=none) rfl (by simp) fun _=>⟨rfl,rfl⟩
            ·obtain⟨b,off,rfl,news,n1,n2,n3,n4⟩:=hnews hne
             have hpos:0<ys.length:=List.length_pos_iff.2 hne
             simp only[List.length_nil,Nat.zero_add] at hle
             have hr:=run_append_nil (P:=P) w T o.type e i z' ht hi hiz ⟨b,off,none⟩ ys.length capy news (by rw[hsz]; exact n1) n2 hpos (by omega) (by rw[hbs]; have:=H7 (m:=by') hle hby (Nat.le_refl _); omega)
             rw[← hvx,← hvy] at hr
             have hge:=grownCap_ge w ys.length 0 e
             obtain⟨β',g1,g2⟩:=fM k1 e n ys ob.wr news (Builtin.zeroCells z'.cells (grownCap w ys.length 0 e-ys.length)) (grownCap w ys.length 0 e) hyl n1 (fun k c hk=>by
              obtain⟨u,u1,u2⟩:=n3 k c hk
              exact⟨u,u1,hkr _ _ u2⟩) hge (grownCap_le_maxLen w ys.length 0 e (by simp only[maxLen]; omega)) (by rw[size_zeroCells,hzs])
             simp only[hkl] at g2
             exact⟨_,_,_,St,β',hexec _ _ hr,.inl rfl,g1,g2⟩
           | some b0 =>
            simp only[hβ] at hx2
            obtain⟨cap,cs,hvx,c1,c2,c3,c4⟩:=hx2
            obtain⟨p1,p2,cs',p3,p4,p5⟩:=h.obs l ob b0 hl hlive hβ
            rw[c3] at p3
            simp only[Option.some.injEq,Obj.cells.injEq,and_true] at p3
            subst p3
            have hfree:∀ l' o2,(Aa s.st l)[l']?=some o2→o2.live=true→β l'≠some b0:=fun l' o2 h2 hl2 hb2=>by
             obtain⟨o3,r1,r2,r3⟩:=Dz h2
             by_cases e2:l=l'
             ·rw[r2 e2] at hl2; simp at hl2
             ·have:=r3 e2
              subst this
              exact e2 (h.inj l l' ob o2 b0 hl r1 hlive hl2 hβ hb2)
            have hkeep:∀ o,St b0 o→ob.wr=false∧o<ob.xs.length*ob.sz:=fun o hbo=>h.sep l ob b0 o hl hlive hβ hbo
            have hxfl:ob.xs.flatten.length=ob.xs.length*n:=by rw[DW p4,hosz]
            have hlall:∀ r∈ob.xs++ys,r.length=n:=fun r hr=>by
             rcases List.mem_append.1 hr with h1 | h1
             ·rw[p4 r h1,hosz]
             ·exact hyl r h1
            have hcap:cs.size=cap*n:=by rw[c4,hosz]
            by_cases hne:ys = []
            ·subst hne
             have hy0:([]:List (List Cl)).length=0:=rfl
             rw[hy0] at hvy
             have hrun:(Builtin.append_ #[T,T] o.type #[a.eval x,a.eval y]).run P w = .ok (.slice (some ⟨b0,0,none⟩) ob.xs.length cap) w:=by
              rw[hvx,hvy]; exact E_ ht hs _ _ _ c1 ad capy w
             obtain⟨a1,a2,a3⟩:=k1.addObB ⟨e,n,ob.xs ++ [],ob.wr,true⟩ (some b0) (by simp) (fun b hb=>by
              simp only[Option.some.injEq] at hb
              subst hb
              refine⟨p1,p2,hfree,fun o hbo=>by simpa [hosz] using hkeep o hbo,cs,by rw[← hty]; exact c3,hlall,fun k c hk=>?_⟩
              simp only[List.append_nil] at hk
              obtain⟨u,u1,u2⟩:=p5 k c hk
              exact⟨u,u1,hkrB _ _ u2⟩) (PD h hl hlive hβ (ys:=[]) rfl (fun k c hk=>by simp at hk) (fun x hx=>⟨fun e2=>hx.2.2.2.2 l ob hl hlive (by rw[hβ,e2]),rfl⟩) (Nat.le_refl _) (fun _ _ _=>rfl) (fun _ _ _ _ _ _ _=>rfl) (fun _ _=>rfl))
             refine⟨_,_,w,St,_,hexec _ _ hrun,.inl rfl,a1, ?_⟩
             rw[← hkl]
             exact Iw (b:=some b0) rfl (by simp) fun _=>⟨cap,cs,by simp,by simpa using c1,c2,by simpa [← hty] using c3,hcap⟩
            ·obtain⟨b,off,rfl,news,n1,n2,n3,n4⟩:=hnews hne
             have hpos:0<ys.length:=List.length_pos_iff.2 hne
             have hFC:ob.xs.flatten.length≤cs.toList.length:=IW (R:=fun c u=>RdB w St s.st β c u) (fun k c hk=>by simpa using p5 k c hk)
             have holdl:(cs.toList.take (ob.xs.length*n)).length=ob.xs.length*n:=by
              rw[List.length_take,Nat.min_eq_left (by omega)]
             have hold:∀ (k:Nat) (c:Cl),ob.xs.flatten[k]?=some c→∃ u,(cs.toList.take (ob.xs.length*n))[k]?=some u∧RdB w St s.st β c u:=fun k c hk=>by
              obtain⟨u,u1,u2⟩:=p5 k c hk
              have hk':k<ob.xs.length*n:=by rw[← hxfl]; exact(List.getElem?_eq_some_iff.1 hk).1
              exact⟨u,by rw[List.getElem?_take,if_pos hk']; simpa using u1,u2⟩
             have hboth:∀ (k:Nat) (c:Cl),(ob.xs++ys).flatten[k]?=some c→∃ u,(cs.toList.take (ob.xs.length*n)++news)[k]?=some u∧RdB w St (Aa s.st l) β c u:=fun k c hk=>by
              rw[List.flatten_append] at hk
              rcases Nat.lt_or_ge k (ob.xs.length*n) with h' | h'
              ·rw[List.getElem?_append_left (by omega)] at hk ⊢
               obtain⟨u,u1,u2⟩:=hold k c hk
               exact⟨u,u1,hkrB _ _ u2⟩
              ·rw[List.getElem?_append_right (by omega),hxfl] at hk
               rw[List.getElem?_append_right (by omega),holdl]
               obtain⟨u,u1,u2⟩:=n3 _ c hk
               exact⟨u,u1,(hkr _ _ u2).toB⟩
             by_cases hroom:ob.xs.length+ys.length≤cap
             ·
              have hcsl:cs.toList.length=cs.size:=by simp
              have hcapm:(ob.xs.length+ys.length)*n≤cap*n:=Nat.mul_le_mul_right _ hroom
              have hfit:ob.xs.length*i.size+news.length≤cs.size:=by rw[hsz,n1,hcap,← Nat.add_mul]; exact hcapm
              have hr:=run_append_room (P:=P) w T o.type e i ht hi b0 ob.xs.length cap cs (by rw[← hty]; exact c3) ⟨b,off,none⟩ ys.length capy news (by rw[hsz]; exact n1) n2 n4 hroom hfit
              rw[← hvx,← hvy,hsz] at hr
              rw[hsz] at hfit
              generalize hcs':(cs.toList.take (ob.xs.length*n)++news++cs.toList.drop (ob.xs.length*n+news.length)).toArray=C' at hr
              have hC's:C'.size=cs.size:=by
               rw[← hcs']
               simp only[List.size_toArray,List.length_append,List.length_drop,holdl]
               omega
              have hC'at:∀ k,k<ob.xs.length*n+news.length→C'[k]?=(cs.toList.take (ob.xs.length*n)++news)[k]?:=fun k hk=>by
               rw[← hcs']
               simp only[List.getElem?_toArray]
               rw[List.getElem?_append_left (by simp only[List.length_append,holdl]; exact hk)]
              have hturn:=k1.turn (b:=b0) p1 (ZI h hl hlive hβ) hfree c3 (cs':=C') (fun o hbo=>by
               have ho:=(hkeep o hbo).2
               rw[hosz] at ho
               rw[hC'at o (by omega),List.getElem?_append_left (by omega),List.getElem?_take,if_pos ho]
               simp) hC's
              have hcell:∀ b' o,St b' o→(w.setRow b0 C').cell? ⟨b',o,none⟩=w.cell? ⟨b',o,none⟩:=fun b' o hbo=>by
               by_cases e2:b'=b0
               ·subst e2
                have ho:=(hkeep o hbo).2
                rw[hosz] at ho
                rw[World.cell?,World.cell?,setRow_heap w b' cs C' ob.ty (0,0) c3,c3]
                simp only[Option.isSome_none,Bool.false_eq_true,if_false]
                rw[hC'at o (by omega),List.getElem?_append_left (by omega),List.getElem?_take,if_pos ho]
                simp
               ·exact cell_of_block (setRow_other w b0 b' C' e2)
              have hrr:∀ l' u,Aw w (Aa s.st l) β l' u→Aw (w.setRow b0 C') (Aa s.st l) β l' u:=by
               intro l' u hu
               unfold Aw at hu ⊢
               cases hq:(Aa s.st l)[l']? with
               | none=>simp[hq] at hu
               | some o2 =>
                simp only[hq] at hu ⊢
                refine⟨hu.1,fun hl2=>?_⟩
                have h2:=hu.2 hl2
                cases hb2:β l' with
                | none=>simpa [hb2] using h2
                | some b2 =>
                 simp only[hb2] at h2 ⊢
                 have hne2:b2≠b0:=fun e2=>hfree l' o2 hq hl2 (by rw[hb2,e2])
                 rw[setRow_other w b0 b2 C' hne2]; exact h2
              obtain⟨a1,a2,a3⟩:=hturn.addObB ⟨e,n,ob.xs++ys,ob.wr,true⟩ (some b0) (by simp) (fun b' hb=>by
               simp only[Option.some.injEq] at hb
               subst hb
               refine⟨p1,by simpa [World.setRow] using p2,hfree,fun o hbo=>?_,C',by rw[setRow_heap w b0 cs C' ob.ty (0,0) c3,hty],hlall,fun k c hk=>?_⟩
               ·have:=hkeep o hbo
                rw[hosz] at this
                refine⟨this.1, ?_⟩
                simp only[List.length_append,Nat.add_mul]
                omega
               ·obtain⟨u,u1,u2⟩:=hboth k c hk
                have hk':k<ob.xs.length*n+news.length:=by
                 have:=(List.getElem?_eq_some_iff.1 u1).1
                 simpa only[List.length_append,holdl] using this
                exact⟨u,by rw[hC'at k hk']; exact u1,RdB.mono (fun _ _ h=>h) hcell hrr _ _ u2⟩) (by
               refine PD h hl hlive hβ (ys:=ys) rfl hysno (fun x hx=>?_) (by simp[World.setRow]) hcell (fun l2 o2 b2 h1 h2 h3 h4=>?_) (fun k hk=>?_)
               ·have hxb:x≠b0:=fun e2=>hx.2.2.2.2 l ob hl hlive (by rw[hβ,e2])
                exact⟨hxb,setRow_other w b0 x C' hxb⟩
               ·exact setRow_other w b0 b2 C' fun e2=>h4 (h.inj l l2 ob o2 b0 hl h1 hlive h2 hβ (by rw[h3,e2]))
               ·have hk':k<ob.xs.length*n:=by rw[← hxfl]; exact hk
                rw[World.cell?,World.cell?,setRow_heap w b0 cs C' ob.ty (0,0) c3,c3]
                simp only[Option.isSome_none,Bool.false_eq_true,if_false]
                rw[hC'at k (by omega),List.getElem?_append_left (by omega),List.getElem?_take,if_pos hk']
                simp)
              refine⟨_,_,_,St,_,hexec _ _ hr,.inl rfl,a1, ?_⟩
              rw[← hkl]
              exact Iw (b:=some b0) rfl (by simp) fun _=>⟨cap,C',by simp,by simpa using hroom,c2,by rw[setRow_heap w b0 cs C' ob.ty (0,0) c3,hty],by rw[hC's,hcap]⟩
             ·
              have holds:∀ (j:Nat) (v:Value),(cs.toList.take (ob.xs.length*n))[j]?=some v→w.cell? ((⟨b0,0,none⟩:Addr).add j)=some v:=fun j v hj=>by
               rw[List.getElem?_take] at hj
               split at hj
               ·rw[addr_add,World.cell?,c3]
                simp only[Option.isSome_none,Bool.false_eq_true,if_false,Nat.zero_add]
                simpa using hj
               ·cases hj
              have hr:=run_append_grow (P:=P) w T o.type e i z' ht hi hiz ⟨b0,0,none⟩ ob.xs.length cap (cs.toList.take (ob.xs.length*n)) (by rw[hsz]; exact holdl) holds ⟨b,off,none⟩ ys.length capy news (by rw[hsz]; exact n1) n2 (by omega) (by omega) (by
               exact growslice_fits (by omega) (by rw[hbs]; exact H7 hle hby (Nat.le_refl _)))
              rw[← hvx,← hvy] at hr
              have hge:=grownCap_ge w (ob.xs.length+ys.length) cap e
              obtain⟨β',g1,g2⟩:=PG k1 e n (ob.xs++ys) ob.wr (cs.toList.take (ob.xs.length*n)++news) (Builtin.zeroCells z'.cells (grownCap w (ob.xs.length+ys.length) cap e-(ob.xs.length+ys.length))) (grownCap w (ob.xs.length+ys.length) cap e) hlall (by
               simp only[List.length_append,holdl,n1,Nat.add_mul]) hboth (by simpa using hge) (grownCap_le_maxLen w _ cap e (by simp only[maxLen]; omega)) (by rw[size_zeroCells,hzs]; simp) (by
               have hbd:=Dv w (.cells ((cs.toList.take (ob.xs.length*n)++news).toArray++Builtin.zeroCells z'.cells (grownCap w (ob.xs.length+ys.length) cap e-(ob.xs.length+ys.length))) e)
               refine PD h hl hlive hβ (ys:=ys) rfl hysno (fun x hx=>⟨fun e2=>by have:=hx.2.2.1; omega,hbd.block x hx.2.2.1⟩) hbd.size (fun b o hbo=>cell_of_block (hbd.block b (h.stIn b o hbo))) (fun l2 o2 b2 h1 h2 h3 _=>hbd.block b2 (h.obs l2 o2 b2 h1 h2 h3).2.1) (fun k hk=>?_)
               have hk':k<ob.xs.length*n:=by rw[← hxfl]; exact hk
               rw[World.cell?,World.cell?,DT w _,c3]
               simp only[Option.isSome_none,Bool.false_eq_true,if_false]
               rw[Array.getElem?_append_left (by simp only[List.size_toArray,List.length_append,holdl]; omega)]
               simp only[List.getElem?_toArray]
               rw[List.getElem?_append_left (by omega),List.getElem?_take,if_pos hk']
               simp)
              simp only[hkl,List.length_append] at g2
              have earr:(cs.toList.take (ob.xs.length*n)++news).toArray=(cs.toList.take (ob.xs.length*n)).toArray++news.toArray:=by simp
              rw[earr] at g1 g2
              exact⟨_,_,_,St,β',hexec _ _ hr,.inl rfl,g1,g2⟩
          ·cases hy
         ·cases hy
        ·cases hy
       ·cases hy
     ·cases hy
    ·cases hy
   ·cases hy
  ·cases hy
 ·cases hy
end Go.Vm
