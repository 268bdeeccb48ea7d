/- A part. -/
import Derived.Test.YtnoldekcdlaahaaGreatVmMa
import Derived.Laws.AppendOwn
set_option linter.unusedSimpArgs false
set_option linter.unusedVariables false
namespace Go.Vm
open Go.RowKit
variable {P:Program} {w0:Bs} {St0 St:Nat→Nat→Prop} {β:Nat→Option Nat} {s:MS} {a:Act} {w:World}
def JW (s:MS) (x:Option Operand) (d:Nat):Option Nat:=match x with
 | none=>some d
 | some x=>Oo (Ew s x)
def uq:Option Operand→Bool
 | none=>true
 | some x=>Au x
def UT (P:Program) (s:MS) (T:TypeId) (x:AV) (lo hi:Option Operand):Option (AV×List Ob):=match P.underlying T with
 | some .string=>match x with
  | .c (.v (.string b))=>match JW s lo 0,JW s hi b.size with
   | some l,some h=>if l≤h∧h≤b.size then some (.c (.v (.string (b.extract l h))),s.st) else none
   | _,_=>none
  | _=>none
 | some (.slice e)=>match x with
  | .c d=>match Ae P e,fzC s.st d with
   | some n,some (.sl xs)=>match JW s lo 0,JW s hi xs.length with
    | some l,some h=>if l≤h∧h≤xs.length∧xs.all (fun r=>r.length==n)=true then some (.c (.sl ((xs.drop l).take (h-l))),uY s.st d) else none
    | _,_=>none
   | _,_=>none
  | _=>none
 | _=>none
theorem kV (h:Core w0 St0 St β s a w) {x:Option Operand} (hx:uq x=true) {d k:Nat} (hk:JW s x d=some k):(x=none∧k=d)∨∃ kd y,x=some y∧a.eval y = .int kd (k:Int):=by
 cases x with
 | none=>simp[JW] at hk; grind
 | some y =>
  obtain⟨kd,h2⟩:=oQ (Cj h y hx) hk
  grind
theorem Ht (k:IntKind) (i y:Nat) (code:BoundsCode) (h:i≤y):(Instr.sliceBound (.int k (i:Int)) y code).run P w = .ok i w:=by
 grind [run_sliceBound]
theorem dZ (h:Core w0 St0 St β s a w) {lo hi:Option Operand} (h1:uq lo=true) (h2:uq hi=true) {len cap l r:Nat} (hl:JW s lo 0=some l) (hr:JW s hi len=some r) (hlr:l≤r) (hrl:r≤len) (hc:len≤cap) (isS:Bool) :
  (Instr.sliceBounds isS len cap (lo.map a.eval) (hi.map a.eval) none).run P w = .ok (l,r,cap) w:=by
 rcases kV h h1 hl with ⟨rfl,rfl⟩ | ⟨k1,y1,rfl,e1⟩<;>rcases kV h h2 hr with ⟨rfl,rfl⟩ | ⟨k2,y2,rfl,e2⟩
 ·simp[Instr.sliceBounds]
 ·simp[Instr.sliceBounds,e2,Ht _ r cap _ AOh]
 ·simp[Instr.sliceBounds,e1,Ht _ l r _ hlr]
 ·simp[Instr.sliceBounds,e1,e2,Ht _ r cap _ (show r≤cap from AOh),Ht _ l r _ hlr]
theorem AD7 (h:Core w0 St0 St β s a w) (o:Oper) (T:TypeId) (x:Operand) (lo hi:Option Operand) (ho:o.op = .slice T x lo hi none) (hc:Au x=true) (h1:uq lo=true) (h2:uq hi=true) {y:AV} {st':List Ob} (hy:UT P s T (Ew s x) lo hi=some (y,st')):Does P a w w0 St0 s o y st':=by
 have he:=Cj h x hc
 unfold UT at hy
 split at hy
 ·rename_i hu
  split at hy
  ·rename_i b hev
   split at hy
   ·rename_i l r hl hr
    split at hy
    ·rename_i hcond
     simp only[ak,bK] at hy
     obtain⟨rfl,rfl⟩:=hy
     rw[hev] at he
     obtain⟨hv,hw⟩:=PI he
     have hb:=dZ (P:=P) h h1 h2 (len:=b.size) (cap:=b.size) hl hr hcond.1 hcond.2 (aT _) false
     refine⟨_,.string (b.extract l r),_,St,β, ?_,.inl rfl,h,XF ?_⟩
     ·simp[execOp,ho,Instr.sliceAt,run_underlying hu,Instr.slice,hv,hb]
     ·simp only[QZ,bf] at hw ⊢
      simp_all<;>omega
    ·cases hy
   ·cases hy
  ·cases hy
 ·rename_i e hu
  split at hy
  ·rename_i d hev
   split at hy
   ·rename_i n xs hs hf
    split at hy
    ·rename_i l r hl hr
     split at hy
     ·rename_i hcond
      obtain⟨c1,c2,c3⟩:=hcond
      simp only[ak,bK] at hy
      obtain⟨rfl,rfl⟩:=hy
      rw[hev] at he
      simp only[AVR] at he
      obtain⟨St',q1,q2,q3,q4⟩:=oZ h hf
      have hd:=q4 _ he.toB
      simp only[RdD] at hd
      obtain⟨ad,cap,hv,e2,e3,e4,e5⟩:=hd
      have hb:=dZ (P:=P) h h1 h2 (len:=xs.length) (cap:=cap) hl hr c1 c2 e2 true
      have hall:∀ z∈xs,z.length=n:=fun z hz=>AOk
      refine⟨_,.slice (if cap=l then ad else ad.map (·.add (l*n))) (r-l) (cap-l),_,St',β, ?_,.inl rfl,q1, ?_⟩
      ·simp[execOp,ho,Instr.sliceAt,run_underlying hu,Instr.slice,hv,hb,Ig hs]
      ·simp only[AVR,RdC,RdD]
       have hlen:((xs.drop l).take (r-l)).length=r-l:=AOj
       refine⟨_,cap-l,by rw[hlen],AOh,AOh,⟨n,fun z hz=>hall z (aaG (aar hz))⟩, ?_⟩
       by_cases hz:r-l=0
       ·grind
       ·right
        rcases e5 with rfl | ⟨b,off,rfl,e6⟩
        ·grind
        ·have hne:¬ cap=l:=by omega
         refine⟨b,off+l*n,by simp[hne,addr_add], ?_⟩
         refine ADp n (fun z hz=>hall z (aaG (aar hz))) fun i z hi=>?_
         rw[aaJ] at hi
         split at hi
         ·rw[aaV] at hi
          have:=e6.at n hall (l+i) z hi
          grind
         ·cases hi
     ·cases hy
    ·cases hy
   ·cases hy
  ·cases hy
 ·cases hy
def Aj (st:List Ob) (l:Nat):List Ob:=st.modify l fun ob=>{ ob with live:=false }
theorem Hu {st:List Ob} {l l':Nat} {ob:Ob} (h:(Aj st l)[l']?=some ob):∃ ob',st[l']?=some ob'∧(l=l'→ob = { ob' with live:=false })∧(l≠l'→ob=ob'):=by
 unfold Aj at h
 grind
theorem OL {st:List Ob} {l l':Nat} {ob:Ob} (h:st[l']?=some ob):(Aj st l)[l']?=some (if l=l' then { ob with live:=false } else ob):=by
 unfold Aj
 grind
theorem ACE {st:List Ob} (l l':Nat) (u:Value) (h:BN w st β l' u):BN w (Aj st l) β l' u:=by
 unfold BN at h ⊢
 exact ANq
theorem AFk {st:List Ob} (l:Nat) (l' i off:Nat) (u:Value) (h:AVR w St st β (.lp l' i off) u):AVR w St (Aj st l) β (.lp l' i off) u:=by
 simp only[AVR] at h ⊢
 exact ANq
theorem Core.kill (h:Core w0 St0 St β s a w) (l:Nat):Core w0 St0 St β ⟨s.n,s.env,Aj s.st l⟩ a w∧(∀ x u,AVR w St s.st β x u→AVR w St (Aj s.st l) β x u):=by
 have hr:=fun l' u hu=>ACE (w:=w) (β:=β) (st:=s.st) l l' u hu
 have hA:∀ x u,AVR w St s.st β x u→AVR w St (Aj s.st l) β x u:=fun x u hx=>AVR.mono (fun _ _ h=>h) (fun _ _ _=>rfl) hr (fun l' i off u hu=>AFk l l' i off u hu) x u hx
 have hg:∀ l' o2,(Aj s.st l)[l']?=some o2→o2.live=true→s.st[l']?=some o2∧l≠l':=by
  intro l' o2 h2 hl
  obtain⟨o3,p1,p2,p3⟩:=Hu h2
  exact ANk
 refine⟨?_,hA⟩
 exact {
  defers:=h.defers
  size:=h.size
  lim:=h.lim
  env:=fun i=>hA _ _ (h.env i)
  below:=h.below,st0:=h.st0,stOld:=h.stOld,stIn:=h.stIn
  obs:=fun l' o2 b hl hlive hβ=>by
   obtain⟨p1,_⟩:=hg l' o2 hl hlive
   obtain⟨q1,q2,q3⟩:=h.obs l' o2 b p1 hlive hβ
   exact⟨q1,q2,ObR.mono (fun _ _ h=>h) (fun _ _ _=>rfl) hr rfl q3⟩
  nil:=fun l' o2 hl hlive hβ=>h.nil l' o2 (hg l' o2 hl hlive).1 hlive hβ
  inj:=fun l1 l2 o1 o2 b h1 h2 h3 h4 h5 h6=>h.inj l1 l2 o1 o2 b (hg l1 o1 h1 h3).1 (hg l2 o2 h2 h4).1 h3 h4 h5 h6
  sep:=fun l' o2 b o hl hlive hβ hbo=>h.sep l' o2 b o (hg l' o2 hl hlive).1 hlive hβ hbo
  own:=h.own.move id (fun x hx=>⟨⟨hx.1,hx.2.1,hx.2.2.1,hx.2.2.2.1,fun l' o2 hl' hlv=>hx.2.2.2.2 l' o2 (hg l' o2 hl' hlv).1 hlv⟩,rfl⟩) (fun _ _ h=>h) (fun _ _ _=>rfl)
   (fun l' o2 b k c h1 h2 h3 h4 _=>⟨o2,b,(hg l' o2 h1 h2).1,h2,h3,h4,rfl⟩) (fun _ _ _ _ _ _ _ _ e=>e) }
theorem Core.turn (h:Core w0 St0 St β s a w) {b:Nat} (hB:w0.may b) (hN:Own w0 (fun x=>x=b) w St s.st β) (hfree:∀ l o2,s.st[l]?=some o2→o2.live=true→β l≠some b) {cs cs':Array Value} {ty:TypeId} (hcs:w.heap[b]?=some (.cells cs ty (0,0)))
  (hst:∀ o,St b o→cs'[o]?=cs[o]?) (hsz:cs'.size=cs.size):Core w0 St0 St β s a (w.setRow b cs'):=by
 have hoth:∀ k,k≠b→(w.setRow b cs').heap[k]?=w.heap[k]?:=fun k hk=>setRow_other w b k cs' hk
 have hnew:(w.setRow b cs').heap[b]?=some (.cells cs' ty (0,0)):=setRow_heap w b cs cs' ty (0,0) hcs
 have hcell:∀ b' o,St b' o→(w.setRow b cs').cell? ⟨b',o,none⟩=w.cell? ⟨b',o,none⟩:=fun b' o hbo=>by
  by_cases e:b'=b
  ·subst e
   rw[World.cell?,World.cell?,hnew,hcs]
   grind
  grind [cell_of_block]
 have hbelow:BelowB w0 (w.setRow b cs'):=h.below.step (n:=0) ⟨rfl,rfl,rfl,by simp_all,fun k hk=>absurd hk (Nat.not_lt_zero _)⟩ (fun k h1 h2=>hoth k fun e=>by
  subst e
  rcases hB with h' | h'
  ·omega
  grind) fun k hk=>by
  grind [y8,oN]
 have hr:∀ l' u,BN w s.st β l' u→BN (w.setRow b cs') s.st β l' u:=by
  intro l' u hu
  unfold BN at hu ⊢
  exact AMT
 have hA:∀ x u,AVR w St s.st β x u→AVR (w.setRow b cs') St s.st β x u:=fun x u hx=>AVR.mono (fun _ _ h=>h) hcell hr (fun l i off u hu=>by simpa only[AVR] using hu) x u hx
 exact {
  defers:=h.defers
  size:=h.size
  lim:=h.lim
  env:=fun i=>hA _ _ (h.env i)
  below:=hbelow
  st0:=h.st0,stOld:=h.stOld
  stIn:=fun b' o hbo=>by simpa [World.setRow] using h.stIn b' o hbo
  obs:=fun l' o2 b2 hl hlive hβ=>by
   obtain⟨q1,q2,q3⟩:=h.obs l' o2 b2 hl hlive hβ
   have hne:b2≠b:=fun e=>hfree l' o2 hl hlive (by rw[hβ,e])
   exact⟨q1,by simp_all,ObR.mono (fun _ _ h=>h) hcell hr (hoth b2 hne) q3⟩
  nil:=h.nil,inj:=h.inj,sep:=h.sep
  own:=hN.move id (fun x hx=>⟨⟨hx.1,fun h=>h,by simpa [World.setRow] using hx.2.2.1,hx.2.2.2.1,hx.2.2.2.2⟩,hoth x hx.2.1⟩) (fun _ _ h=>h) hcell
   (fun l' o2 b2 k c h1 h2 h3 h4 _=>⟨o2,b2,h1,h2,h3,h4,cell_of_block (hoth b2 fun e=>hfree l' o2 h1 h2 (by rw[h3,e]))⟩) (fun _ _ _ _ _ _ _ _ e=>e) }
def rowOk (n:Nat) (r:List Cl):Bool:=r.length==n&&r.all fun c=>!Gi c
def LG (n:Nat) (ys:List (List Cl)):Bool:=ys.all (rowOk n)
def zF (P:Program) (s:MS) (T:TypeId) (x y:AV):Option (AV×List Ob):=match EO P T with
 | some e=>match Ae P e,VQ P e,Ey P e with
  | some n,some zs,some by'=>if zs.length=n∧0<n∧by'≤65536 then match y with
    | .c d=>match Td s.st d with
     | some ys=>if LG n ys=true then match x with
        | .c (.v (.slice none 0 0))=>if ys.length≤2147483648∨(ys.length≤1099511627776∧by'≤128) then some (.c (.ref s.st.length),s.st ++ [⟨e,n,ys,true,true⟩]) else none
        | .c (.ref l)=>match DT s.st l with
         | some ob=>if ob.ty=e∧ob.sz=n∧(ob.xs.length+ys.length≤2147483648∨(ob.xs.length+ys.length≤1099511627776∧by'≤128)) then some (.c (.ref s.st.length),Aj s.st l ++ [⟨e,n,ob.xs++ys,ob.wr,true⟩]) else none
         | none=>none
        | _=>none
       else none
     | none=>none
    | _=>none
   else none
  | _,_,_=>none
 | none=>none
theorem Ii (st:List Ob) (l:Nat):(Aj st l).length=st.length:=by simp[Aj]
theorem H6 {T e:TypeId} {n:Nat} {ty:TypeId} (ht:P.underlying T=some (.slice e)) (hs:Ae P e=some n) (base:Option Addr) (len cap:Nat) (hle:len≤cap) (ad:Option Addr) (c:Nat) (w:World) :
  (Builtin.append_ #[T,T] ty #[.slice base len cap,.slice ad 0 c]).run P w = .ok (.slice base len cap) w:=by
 cases ad with
 | none=>cases base<;>simp[Builtin.append_,run_underlying ht,Ig hs,Builtin.lenOf,Builtin.firstCells,hle,storeCells]
 | some ad=>cases base<;>simp[Builtin.append_,run_underlying ht,Ig hs,Builtin.lenOf,Builtin.firstCells,hle,storeCells,loadCells,loadCellsFrom]
theorem FX (w:World) (o:Obj):Below w.heap.size w (w.drew.alloc o):=⟨rfl,rfl,rfl,AOi,fun k hk=>by
 show (w.heap.push o)[k]?=_
 grind⟩
theorem Ej (w:World) (o:Obj):(w.drew.alloc o).heap[w.heap.size]?=some o:=by
 show (w.heap.push o)[w.heap.size]?=_
 simp
def AK9 (w:World) (ob:Ob) (u:Value):Option Nat→Prop
 | none=>u = .slice none 0 0∧ob.xs = []
 | some b=>∃ cap cs,u = .slice (some ⟨b,0,none⟩) ob.xs.length cap∧ob.xs.length≤cap∧cap≤maxLen∧w.heap[b]?=some (.cells cs ob.ty (0,0))∧cs.size=cap*ob.sz
theorem NY {st:List Ob} {ob:Ob} {b:Option Nat} {u:Value} (hone:u.oneCell'=true)
  (hb:β st.length=b) (hu:ob.live=true→AK9 w ob u b) :
  AVR w St (st ++ [ob]) β (.c (.ref st.length)) u:=by
 simp only[AVR,RdC,BN]
 rw[aY (aT _)]
 simp only[jP,aQ,hb]
 refine⟨hone,fun hl=>?_⟩
 have:=hu hl
 cases b with
 | none=>exact this
 | some b=>exact this
theorem Vd (h:Core w0 St0 St β s a w) {l:Nat} {ob:Ob} {b0:Nat} (hob:s.st[l]?=some ob) (hlive:ob.live=true) (hβ:β l=some b0) {w':World} {b':Nat} {ob':Ob} {ys:List (List Cl)} (hxs:ob'.xs=ob.xs++ys)
  (hys:∀ (k:Nat) (c:Cl),ys.flatten[k]?=some c→Gi c=false) (hfree:∀ x,PH w0 (fun _=>False) w St s.st β x→x≠b'∧w'.heap[x]?=w.heap[x]?) (hsize:w.heap.size≤w'.heap.size)
  (hcell:∀ b o,St b o→w'.cell? ⟨b,o,none⟩=w.cell? ⟨b,o,none⟩) (hoth:∀ (l2:Nat) (o2:Ob) (b2:Nat),s.st[l2]?=some o2→o2.live=true→β l2=some b2→l≠l2→w'.heap[b2]?=w.heap[b2]?)
  (hmv:∀ k,k<ob.xs.flatten.length→w'.cell? ⟨b',k,none⟩=w.cell? ⟨b0,k,none⟩) :
  Own w0 (fun _=>False) w' St (Aj s.st l ++ [ob']) (fun i=>if i=(Aj s.st l).length then some b' else β i):=by
 have hkl:(Aj s.st l).length=s.st.length:=Ii s.st l
 have hll:l<s.st.length:=(aF.1 hob).1
 refine h.own.move (fun i=>if i=s.st.length then l else i) (fun x hx=>?_) (fun _ _ h=>h) hcell (fun l2 o2 b k c hl hlive2 hβ2 hk hc=>?_) (fun l1 l2 o1 o2 h1 h2 g1 g2 e=>?_)
 ·obtain⟨q1,q2⟩:=hfree x hx
  refine⟨⟨hx.1,fun h=>h,bP hx.2.2.1 hsize,hx.2.2.2.1,fun i o2 hi hlv=>?_⟩,q2⟩
  by_cases e:i=(Aj s.st l).length
  ·grind
  ·simp only[e,aW]
   have hlt:i<(Aj s.st l).length:=by
    have:=(aF.1 hi).1
    simp at this
    omega
   rw[bG hlt] at hi
   obtain⟨o3,r1,r2,r3⟩:=Hu hi
   have hne:l≠i:=fun e2=>AOk
   have:=r3 hne
   subst this
   exact hx.2.2.2.2 i o2 r1 hlv
 ·by_cases e:l2=s.st.length
  ·grind
  grind [aF,bG,Hu,cell_of_block]
 grind [bG,Hu]
theorem uu (h:Core w0 St0 St β s a w) {l:Nat} {ob:Ob} {b0:Nat} (hob:s.st[l]?=some ob) (hlive:ob.live=true) (hβ:β l=some b0):Own w0 (fun x=>x=b0) w St (Aj s.st l) β:=by
 have hg:∀ l' o2,(Aj s.st l)[l']?=some o2→o2.live=true→s.st[l']?=some o2∧l≠l':=by
  intro l' o2 h2 hl
  obtain⟨o3,p1,p2,p3⟩:=Hu h2
  exact ANk
 exact h.own.move id (fun x hx=>⟨⟨hx.1,fun e=>hx.2.2.2.2 l ob hob hlive (by rw[hβ,e]),hx.2.2.1,hx.2.2.2.1,fun l' o2 hl' hlv=>hx.2.2.2.2 l' o2 (hg l' o2 hl' hlv).1 hlv⟩,rfl⟩) (fun _ _ h=>h) (fun _ _ _=>rfl)
  (fun l' o2 b k c h1 h2 h3 h4 _=>⟨o2,b,(hg l' o2 h1 h2).1,h2,h3,h4,rfl⟩) (fun _ _ _ _ _ _ _ _ e=>e)
theorem Le {n m k:Nat} (h1:n≤2147483648∨(n≤1099511627776∧m≤128)) (h2:m≤65536) (h3:k≤n):k*m≤140737488355328:=by
 rcases h1 with h1 | ⟨h1,h4⟩
 ·have:=abd (Nat.le_trans h3 h1) h2
  omega
 ·have:=abd (Nat.le_trans h3 h1) h4
  omega
theorem AAu (h:Core w0 St0 St β s a w) (e:TypeId) (n:Nat) (xs:List (List Cl)) (wr:Bool) (vals:List Value) (rest:Array Value) (cap:Nat) (hl:∀ x∈xs,x.length=n) (hvl:vals.length=xs.length*n)
  (hc:∀ (k:Nat) (c:Cl),xs.flatten[k]?=some c→∃ u,vals[k]?=some u∧RdC w St s.st β c u) (hcap:xs.length≤cap) (hcm:cap≤maxLen) (hrest:rest.size=(cap-xs.length)*n) :
  ∃ β',Core w0 St0 St β' ⟨s.n,s.env,s.st ++ [⟨e,n,xs,wr,true⟩]⟩ a (w.drew.alloc (.cells (vals.toArray++rest) e)) ∧
   AVR (w.drew.alloc (.cells (vals.toArray++rest) e)) St (s.st ++ [⟨e,n,xs,wr,true⟩]) β' (.c (.ref s.st.length)) (.slice (some ⟨w.heap.size,0,none⟩) xs.length cap):=by
 obtain⟨β',h1,h2,h3,_⟩:=h.newOb (FX w (.cells (vals.toArray++rest) e)) ⟨e,n,xs,wr,true⟩ (some w.heap.size) rfl AOi (fun b hb=>by
  grind [ak,Ej,aF,aaC])
 exact AM9
theorem Ve (h:Core w0 St0 St β s a w) (e:TypeId) (n:Nat) (xs:List (List Cl)) (wr:Bool) (vals:List Value) (rest:Array Value) (cap:Nat) (hl:∀ x∈xs,x.length=n) (hvl:vals.length=xs.length*n)
  (hc:∀ (k:Nat) (c:Cl),xs.flatten[k]?=some c→∃ u,vals[k]?=some u∧RdB w St s.st β c u) (hcap:xs.length≤cap) (hcm:cap≤maxLen) (hrest:rest.size=(cap-xs.length)*n)
  (hown:Own w0 (fun _=>False) (w.drew.alloc (.cells (vals.toArray++rest) e)) St (s.st ++ [⟨e,n,xs,wr,true⟩]) (fun l=>if l=s.st.length then some w.heap.size else β l)) :
  ∃ β',Core w0 St0 St β' ⟨s.n,s.env,s.st ++ [⟨e,n,xs,wr,true⟩]⟩ a (w.drew.alloc (.cells (vals.toArray++rest) e)) ∧
   AVR (w.drew.alloc (.cells (vals.toArray++rest) e)) St (s.st ++ [⟨e,n,xs,wr,true⟩]) β' (.c (.ref s.st.length)) (.slice (some ⟨w.heap.size,0,none⟩) xs.length cap):=by
 obtain⟨β',h1,h2,h3,_⟩:=h.newObB (FX w (.cells (vals.toArray++rest) e)) ⟨e,n,xs,wr,true⟩ (some w.heap.size) rfl AOi (fun b hb=>by
  grind [ak,Ej,aF,aaC]) hown
 exact AM9
theorem AHk (h:Core w0 St0 St β s a w) (o:Oper) (T:TypeId) (c:Call) (x y:Operand) (ho:o.op = .call c) (hcl:c.callee = .builtin .append) (hca:c.args.toList = [x,y]) (hct:c.argTypes.toList = [T,T]) (hc:Au x=true) (hc2:Au y=true)
  {z:AV} {st':List Ob} (hy:zF P s T (Ew s x) (Ew s y)=some (z,st')):Does P a w w0 St0 s o z st':=by
 have hx:=Cj h x hc
 have hyy:=Cj h y hc2
 have ha1:c.argTypes = #[T,T]:=APS
 have ha2:c.args = #[x,y]:=APT
 have hexec:∀ v w',(Builtin.append_ #[T,T] o.type #[a.eval x,a.eval y]).run P w = .ok v w'→(execOp a.eval o).run P w = .ok (.value v) w':=by
  exact AMy
 unfold zF at hy
 split at hy
 ·rename_i e hte
  have ht:=NJ hte
  split at hy
  ·rename_i n cs0 by' hs hz0 hb
   obtain⟨zs,hz,_,rfl⟩:=Q4 hz0
   split at hy
   ·rename_i hcond
    obtain⟨hzl0,hn,hby⟩:=hcond
    have hzl:zs.length=n:=AP5
    split at hy
    ·rename_i d hevy
     split at hy
     ·rename_i ys hd
      ·
       split at hy
       ·rename_i hall
        have hyl:∀ r∈ys,r.length=n:=fun r hr=>by
         have:=aP.1 hall r hr
         simp only[rowOk,ay,ZE] at this
         exact this.1
        have hysno:∀ (k:Nat) (c:Cl),ys.flatten[k]?=some c→Gi c=false:=fun k c hk=>by
         obtain⟨r,hr,hcr⟩:=aba.1 (bF hk)
         have:=aP.1 hall r hr
         simp only[rowOk,ay] at this
         grind
        rw[hevy] at hyy
        simp only[AVR] at hyy
        obtain⟨ad,capy,hvy,_,hcells⟩:=UN h hyy hd
        have hxx:AVR w St s.st β (Ew s x) (a.eval x):=hx
        have hyfl:ys.flatten.length=ys.length*n:=Eb hyl
        have htab:∃ i z',P.info? e=some i∧i.zero=some z'∧i.size=n∧i.bytes=by'∧z'.cells.size=n:=by
         exact AK3
        obtain⟨i,z',hi,hiz,hsz,hbs,hzs⟩:=htab
        have hnews:ys≠ []→∃ b off,ad=some ⟨b,off,none⟩∧∃ news:List Value,news.length=ys.length*n∧(∀ (k:Nat) (v:Value),news[k]?=some v→w.cell? ((⟨b,off,none⟩:Addr).add k)=some v) ∧
          (∀ (k:Nat) (c:Cl),ys.flatten[k]?=some c→∃ u,news[k]?=some u∧RdC w St s.st β c u)∧∀ u∈news,u.oneCell'=true:=by
         intro hne
         rcases hcells with h0 | ⟨b,off,rfl,hcell⟩
         ·grind
         ·obtain⟨news,n1,n2⟩:=MX (R:=fun c u=>RdC w St s.st β c u) (w:=w) (b:=b) ys.flatten off (fun k c hk=>by
           obtain⟨v,hv1,hv2⟩:=hcell k c hk
           exact⟨v,hv1,hv2.toC (hysno k c hk)⟩)
          have hat:∀ (k:Nat) (v:Value),news[k]?=some v→∃ c,ys.flatten[k]?=some c∧w.cell? ⟨b,off+k,none⟩=some v∧RdC w St s.st β c v:=fun k v hk=>by
           exact ANK
          refine⟨b,off,rfl,news,by rw[n1,hyfl],fun k v hk=>?_,fun k c hk=>?_,fun u hu=>?_⟩
          ·grind [addr_add]
          ·grind
          ·obtain⟨k,hk⟩:=aa6.1 hu
           obtain⟨_,_,_,hr⟩:=hat k u hk
           exact hr.one
        split at hy
        ·
         rename_i hevx
         split at hy
         ·rename_i hle
          simp only[ak,bK] at hy
          obtain⟨rfl,rfl⟩:=hy
          rw[hevx] at hxx
          obtain⟨hvx,_⟩:=PI hxx
          by_cases hne:ys = []
          ·subst hne
           have hy0:([]:List (List Cl)).length=0:=rfl
           rw[hy0] at hvy
           have hrun:(Builtin.append_ #[T,T] o.type #[a.eval x,a.eval y]).run P w = .ok (.slice none 0 0) w:=by
            rw[hvx,hvy]; exact H6 ht hs none 0 0 (aT _) ad capy w
           obtain⟨a1,a2,a3⟩:=h.addOb ⟨e,n,[],true,true⟩ none (fun _=>rfl) AOi h.own AOi
           exact⟨_,.slice none 0 0,w,St,_,hexec _ _ hrun,.inl rfl,a1,NY (b:=none) rfl AOi fun _=>⟨rfl,rfl⟩⟩
          ·obtain⟨b,off,rfl,news,n1,n2,n3,n4⟩:=hnews hne
           have hpos:0<ys.length:=aa0.2 hne
           have hr:=run_append_nil (P:=P) w T o.type e i z' ht hi hiz ⟨b,off,none⟩ ys.length capy news AOk n2 hpos AOh APV
           rw[← hvx,← hvy] at hr
           have hge:=grownCap_ge w ys.length 0 e
           obtain⟨β',g1,g2⟩:=AAu h e n ys true news (Builtin.zeroCells z'.cells (grownCap w ys.length 0 e-ys.length)) (grownCap w ys.length 0 e) hyl n1 (fun k c hk=>by
            grind) hge (grownCap_le_maxLen w ys.length 0 e APu) (by rw[size_zeroCells,hzs])
           exact AL4
         ·cases hy
        ·
         rename_i l hevx
         split at hy
         ·rename_i ob hob
          split at hy
          ·rename_i hoc
           obtain⟨hty,hosz,hle⟩:=hoc
           simp only[ak,bK] at hy
           obtain⟨rfl,rfl⟩:=hy
           rw[hevx] at hxx
           obtain⟨hl,hlive⟩:=CS hob
           simp only[AVR,RdC,BN,hl] at hxx
           have hx2:=hxx.2 hlive
           obtain⟨k1,k2⟩:=h.kill l
           have hkr:∀ c u,RdC w St s.st β c u→RdC w St (Aj s.st l) β c u:=fun c u hc=>by
            exact AMf
           have hkrB:∀ c u,RdB w St s.st β c u→RdB w St (Aj s.st l) β c u:=fun c u hc=>by
            exact ALg
           have hll:l<s.st.length:=(aF.1 hl).1
           have hkl:=Ii s.st l
           cases hβ:β l with
           | none =>
            simp only[hβ] at hx2
            obtain⟨hvx,hobx⟩:=hx2
            rw[hobx] at hle ⊢
            simp only[aN]
            by_cases hne:ys = []
            ·exact AJc
            ·obtain⟨b,off,rfl,news,n1,n2,n3,n4⟩:=hnews hne
             have hpos:0<ys.length:=aa0.2 hne
             simp only[y7,uX] at hle
             have hr:=run_append_nil (P:=P) w T o.type e i z' ht hi hiz ⟨b,off,none⟩ ys.length capy news AOk n2 hpos AOh APV
             rw[← hvx,← hvy] at hr
             have hge:=grownCap_ge w ys.length 0 e
             obtain⟨β',g1,g2⟩:=AAu k1 e n ys ob.wr news (Builtin.zeroCells z'.cells (grownCap w ys.length 0 e-ys.length)) (grownCap w ys.length 0 e) hyl n1 (fun k c hk=>by
              grind) hge (grownCap_le_maxLen w ys.length 0 e APu) (by rw[size_zeroCells,hzs])
             simp only[hkl] at g2
             exact AL4
           | some b0 =>
            simp only[hβ] at hx2
            obtain⟨cap,cs,hvx,c1,c2,c3,c4⟩:=hx2
            obtain⟨p1,p2,cs',p3,p4,p5⟩:=h.obs l ob b0 hl hlive hβ
            rw[c3] at p3
            simp only[ak,Obj.cells.injEq,abG] at p3
            subst p3
            have hfree:∀ l' o2,(Aj s.st l)[l']?=some o2→o2.live=true→β l'≠some b0:=fun l' o2 h2 hl2 hb2=>by
             exact AMt
            have hkeep:∀ o,St b0 o→ob.wr=false∧o<ob.xs.length*ob.sz:=fun o hbo=>h.sep l ob b0 o hl hlive hβ hbo
            have hxfl:ob.xs.flatten.length=ob.xs.length*n:=by rw[Eb p4,hosz]
            have hlall:∀ r∈ob.xs++ys,r.length=n:=fun r hr=>by
             grind
            have hcap:cs.size=cap*n:=by rw[c4,hosz]
            by_cases hne:ys = []
            ·subst hne
             have hy0:([]:List (List Cl)).length=0:=rfl
             rw[hy0] at hvy
             have hrun:(Builtin.append_ #[T,T] o.type #[a.eval x,a.eval y]).run P w = .ok (.slice (some ⟨b0,0,none⟩) ob.xs.length cap) w:=by
              rw[hvx,hvy]; exact H6 ht hs _ _ _ c1 ad capy w
             obtain⟨a1,a2,a3⟩:=k1.addObB ⟨e,n,ob.xs ++ [],ob.wr,true⟩ (some b0) AOi (fun b hb=>by
              grind) (Vd h hl hlive hβ (ys:=[]) rfl (fun k c hk=>APM) (fun x hx=>⟨fun e2=>hx.2.2.2.2 l ob hl hlive (by rw[hβ,e2]),rfl⟩) (aT _) (fun _ _ _=>rfl) (fun _ _ _ _ _ _ _=>rfl) (fun _ _=>rfl))
             exact AMW
            ·obtain⟨b,off,rfl,news,n1,n2,n3,n4⟩:=hnews hne
             have hpos:0<ys.length:=aa0.2 hne
             have hFC:ob.xs.flatten.length≤cs.toList.length:=MZ (R:=fun c u=>RdB w St s.st β c u) (fun k c hk=>AOk)
             have holdl:(cs.toList.take (ob.xs.length*n)).length=ob.xs.length*n:=by
              rw[bz,dO AOh]
             have hold:∀ (k:Nat) (c:Cl),ob.xs.flatten[k]?=some c→∃ u,(cs.toList.take (ob.xs.length*n))[k]?=some u∧RdB w St s.st β c u:=fun k c hk=>by
              grind
             have hboth:∀ (k:Nat) (c:Cl),(ob.xs++ys).flatten[k]?=some c→∃ u,(cs.toList.take (ob.xs.length*n)++news)[k]?=some u∧RdB w St (Aj s.st l) β c u:=fun k c hk=>by
              exact AMC
             by_cases hroom:ob.xs.length+ys.length≤cap
             ·
              have hcsl:cs.toList.length=cs.size:=AOi
              have hcapm:(ob.xs.length+ys.length)*n≤cap*n:=aaw _ hroom
              have hfit:ob.xs.length*i.size+news.length≤cs.size:=APt
              have hr:=run_append_room (P:=P) w T o.type e i ht hi b0 ob.xs.length cap cs AOk ⟨b,off,none⟩ ys.length capy news AOk n2 n4 hroom hfit
              rw[← hvx,← hvy,hsz] at hr
              exact AFV
             ·
              have holds:∀ (j:Nat) (v:Value),(cs.toList.take (ob.xs.length*n))[j]?=some v→w.cell? ((⟨b0,0,none⟩:Addr).add j)=some v:=fun j v hj=>by
               exact AMl
              have hr:=run_append_grow (P:=P) w T o.type e i z' ht hi hiz ⟨b0,0,none⟩ ob.xs.length cap (cs.toList.take (ob.xs.length*n)) AOk holds ⟨b,off,none⟩ ys.length capy news AOk n2 AOh AOh (by
               exact growslice_fits AOh (by rw[hbs]; exact Le hle hby (aT _)))
              rw[← hvx,← hvy] at hr
              exact AGd
          ·cases hy
         ·cases hy
        ·cases hy
       ·cases hy
     ·cases hy
    ·cases hy
   ·cases hy
  ·cases hy
 ·cases hy
theorem Vf (h:Core w0 St0 St β s a w) {l l2:Nat} {ob ob2:Ob} (hob:s.st[l]?=some ob) (hlive:ob.live=true) (hob2:s.st[l2]?=some ob2) (hlive2:ob2.live=true) (hne:l≠l2) {w':World} {b':Nat} {ob':Ob} (hxs:ob'.xs=ob.xs++ob2.xs) (hlv':ob'.live=true)
  (hfree:∀ x,PH w0 (fun _=>False) w St s.st β x→x≠b'∧w'.heap[x]?=w.heap[x]?) (hsize:w.heap.size≤w'.heap.size) (hcell:∀ b o,St b o→w'.cell? ⟨b,o,none⟩=w.cell? ⟨b,o,none⟩)
  (hoth:∀ (l3:Nat) (o3:Ob) (b3:Nat),s.st[l3]?=some o3→o3.live=true→β l3=some b3→l≠l3→w'.heap[b3]?=w.heap[b3]?)
  (hmv:∀ b0,β l=some b0→∀ k,k<ob.xs.flatten.length→w'.cell? ⟨b',k,none⟩=w.cell? ⟨b0,k,none⟩)
  (hmv2:∀ b2,β l2=some b2→∀ k,k<ob2.xs.flatten.length→w'.cell? ⟨b',ob.xs.flatten.length+k,none⟩=w.cell? ⟨b2,k,none⟩) :
  Own w0 (fun _=>False) w' St (Aj (Aj s.st l) l2 ++ [ob']) (fun i=>if i=s.st.length then some b' else β i):=by
 obtain⟨φ,f1,f2,f3⟩:=h.own
 have hkl:(Aj (Aj s.st l) l2).length=s.st.length:=by rw[Ii,Ii]
 have hget:∀ (i:Nat) (o:Ob),(Aj (Aj s.st l) l2 ++ [ob'])[i]?=some o→o.live=true→(i=s.st.length∧o=ob')∨(i<s.st.length∧i≠l∧i≠l2∧s.st[i]?=some o):=by
  intro i o hi hlv
  rcases bQ i s.st.length with h' | h'
  ·grind [bG,Hu]
  ·grind
 have hN:∃ o,(Aj (Aj s.st l) l2 ++ [ob'])[s.st.length]?=some o∧o.live=true:=by
  refine⟨ob', ?_,hlv'⟩
  rw[aY AOh,hkl]
  simp
 refine⟨fun i k x=>(i=s.st.length∧((k<ob.xs.flatten.length∧φ l k x)∨(ob.xs.flatten.length≤k∧φ l2 (k-ob.xs.flatten.length) x)))∨(i<s.st.length∧i≠l∧i≠l2∧φ i k x), ?_, ?_, ?_⟩
 ·intro i o b k c hi hlv hβ hk hc
  rcases hget i o hi hlv with ⟨rfl,rfl⟩ | ⟨h1,h2,h3,h4⟩
  ·simp only[aX,ak] at hβ
   subst hβ
   rw[hxs,aaF] at hk
   rcases bQ k ob.xs.flatten.length with h' | h'
   ·rw[bG h'] at hk
    cases hβl:β l with
    | none=>rw[h.nil l ob hob hlive hβl] at h'; simp at h'
    | some b0 =>
     obtain⟨u,hu,hr⟩:=f1 l ob b0 k c hob hlive hβl hk hc
     exact⟨u,AOk,RdO.mono (fun _ _ h=>h) hcell c u _ _ (fun x hx=>.inl ⟨rfl,.inl ⟨h',hx⟩⟩) (fun x hx=>(hfree x (f2 _ _ _ hx).2).2) hr⟩
   ·rw[aY h'] at hk
    have hk2:k-ob.xs.flatten.length<ob2.xs.flatten.length:=(aF.1 hk).1
    cases hβl:β l2 with
    | none=>rw[h.nil l2 ob2 hob2 hlive2 hβl] at hk2; simp at hk2
    | some b2 =>
     obtain⟨u,hu,hr⟩:=f1 l2 ob2 b2 _ c hob2 hlive2 hβl hk hc
     refine⟨u, ?_,RdO.mono (fun _ _ h=>h) hcell c u _ _ (fun x hx=>.inl ⟨rfl,.inr ⟨h',hx⟩⟩) (fun x hx=>(hfree x (f2 _ _ _ hx).2).2) hr⟩
     have:=hmv2 b2 hβl _ hk2
     simp_all
  ·have hne':¬ i=s.st.length:=by omega
   simp only[hne',aW] at hβ
   obtain⟨u,hu,hr⟩:=f1 i o b k c h4 hlv hβ hk hc
   exact⟨u,by grind [cell_of_block],RdO.mono (fun _ _ h=>h) hcell c u _ _ (fun x hx=>.inr ⟨h1,h2,h3,hx⟩) (fun x hx=>(hfree x (f2 _ _ _ hx).2).2) hr⟩
 ·have free:∀ x,PH w0 (fun _=>False) w St s.st β x→PH w0 (fun _=>False) w' St (Aj (Aj s.st l) l2 ++ [ob']) (fun i=>if i=s.st.length then some b' else β i) x:=by
   intro x hx
   refine⟨hx.1,fun h=>h,bP hx.2.2.1 hsize,hx.2.2.2.1,fun i o hi hlv=>?_⟩
   rcases hget i o hi hlv with ⟨rfl,rfl⟩ | ⟨h1,h2,h3,h4⟩
   ·grind
   ·have hne':¬ i=s.st.length:=by omega
    simp only[hne',aW]
    exact hx.2.2.2.2 i o h4 hlv
  rintro i k x (⟨rfl,hx⟩ | ⟨h1,h2,h3,hx⟩)
  ·grind
  ·obtain⟨⟨o,b,p1,p2,p3⟩,p4⟩:=f2 i k x hx
   refine⟨⟨o,b, ?_,p2, ?_⟩,free x p4⟩
   ·rw[bG AOh]
    rw[OL (OL p1)]
    grind
   grind
 grind
theorem Q_ {st:List Ob} {l l2 l':Nat} {o2:Ob} (h2:(Aj (Aj st l) l2)[l']?=some o2) (hl:o2.live=true):st[l']?=some o2∧l≠l'∧l2≠l':=by
 grind [Hu]
theorem ACF (h:Core w0 St0 St β s a w) {l:Nat} (l2:Nat) {ob:Ob} {b0:Nat} (hob:s.st[l]?=some ob) (hlive:ob.live=true) (hβ:β l=some b0):Own w0 (fun x=>x=b0) w St (Aj (Aj s.st l) l2) β:=
 h.own.move id (fun x hx=>⟨⟨hx.1,fun e=>hx.2.2.2.2 l ob hob hlive (by rw[hβ,e]),hx.2.2.1,hx.2.2.2.1,fun l' o2 hl' hlv=>hx.2.2.2.2 l' o2 (Q_ hl' hlv).1 hlv⟩,rfl⟩) (fun _ _ h=>h) (fun _ _ _=>rfl)
  (fun l' o2 b k c h1 h2 h3 h4 _=>⟨o2,b,(Q_ h1 h2).1,h2,h3,h4,rfl⟩) (fun _ _ _ _ _ _ _ _ e=>e)
def AD8 (P:Program) (s:MS) (T:TypeId) (x y:AV):Option (AV×List Ob):=match EO P T with
 | some e=>match Ae P e,VQ P e,Ey P e with
  | some n,some zs,some by'=>if zs.length=n∧0<n∧by'≤65536 then match x,y with
    | .c (.ref l),.c (.ref l2)=>match DT s.st l,DT s.st l2 with
     | some ob,some ob2=>if l≠l2∧ob.ty=e∧ob.sz=n∧ob2.sz=n∧(ob.xs.length+ob2.xs.length≤2147483648∨(ob.xs.length+ob2.xs.length≤1099511627776∧by'≤128)) then some (.c (.ref s.st.length),Aj (Aj s.st l) l2 ++ [⟨e,n,ob.xs++ob2.xs,ob.wr,true⟩]) else none
     | _,_=>none
    | _,_=>none
   else none
  | _,_,_=>none
 | none=>none
theorem AFl (h:Core w0 St0 St β s a w) (o:Oper) (T:TypeId) (c:Call) (x y:Operand) (ho:o.op = .call c) (hcl:c.callee = .builtin .append) (hca:c.args.toList = [x,y]) (hct:c.argTypes.toList = [T,T]) (hc:Au x=true) (hc2:Au y=true)
  {z:AV} {st':List Ob} (hy:AD8 P s T (Ew s x) (Ew s y)=some (z,st')):Does P a w w0 St0 s o z st':=by
 have hx:=Cj h x hc
 have hyy:=Cj h y hc2
 have ha1:c.argTypes = #[T,T]:=APS
 have ha2:c.args = #[x,y]:=APT
 have hexec:∀ v w',(Builtin.append_ #[T,T] o.type #[a.eval x,a.eval y]).run P w = .ok v w'→(execOp a.eval o).run P w = .ok (.value v) w':=by
  exact AMy
 unfold AD8 at hy
 split at hy
 ·rename_i e hte
  have ht:=NJ hte
  split at hy
  ·rename_i n cs0 by' hs hz0 hb
   obtain⟨zs,hz,_,rfl⟩:=Q4 hz0
   split at hy
   ·rename_i hcond
    obtain⟨hzl0,hn,hby⟩:=hcond
    have hzl:zs.length=n:=AP5
    split at hy
    ·rename_i l l2 hevx hevy
     split at hy
     ·rename_i ob ob2 hob hob2
      split at hy
      ·rename_i hoc
       obtain⟨hll2,hty,hosz,hosz2,hle⟩:=hoc
       simp only[ak,bK] at hy
       obtain⟨rfl,rfl⟩:=hy
       obtain⟨hl,hlive⟩:=CS hob
       obtain⟨hl2,hlive2⟩:=CS hob2
       generalize hys:ob2.xs=ys at *
       have hyl:∀ r∈ys,r.length=n:=by
        cases hβ2:β l2 with
        | none =>
         have:=h.nil l2 ob2 hl2 hlive2 hβ2
         grind
        | some b2 =>
         obtain⟨_,_,_,_,p4,_⟩:=h.obs l2 ob2 b2 hl2 hlive2 hβ2
         grind
       rw[hevy] at hyy
       simp only[AVR] at hyy
       have hd:Td s.st (.ref l2)=some ys:=by simp[Td,hob2,hys]
       obtain⟨ad,capy,hvy,_,hcells⟩:=UN h hyy hd
       have had:∀ b2,β l2=some b2→ad=some ⟨b2,0,none⟩:=fun b2 hb2=>by
        have:=hyy
        simp only[RdC,BN,hl2] at this
        grind
       rw[hevx] at hx
       have hyfl:ys.flatten.length=ys.length*n:=Eb hyl
       have htab:∃ i z',P.info? e=some i∧i.zero=some z'∧i.size=n∧i.bytes=by'∧z'.cells.size=n:=by
        exact AK3
       obtain⟨i,z',hi,hiz,hsz,hbs,hzs⟩:=htab
       have hnews:ys≠ []→∃ b off,ad=some ⟨b,off,none⟩∧∃ news:List Value,news.length=ys.length*n∧(∀ (k:Nat) (v:Value),news[k]?=some v→w.cell? ((⟨b,off,none⟩:Addr).add k)=some v) ∧
         (∀ (k:Nat) (c:Cl),ys.flatten[k]?=some c→∃ u,news[k]?=some u∧RdB w St s.st β c u)∧(∀ u∈news,u.oneCell'=true):=by
        intro hne
        rcases hcells with h0 | ⟨b,off,rfl,hcell⟩
        ·grind
        ·obtain⟨news,n1,n2⟩:=MX (R:=fun c u=>RdB w St s.st β c u) (w:=w) (b:=b) ys.flatten off (fun k c hk=>by
          grind)
         have hat:∀ (k:Nat) (v:Value),news[k]?=some v→∃ c,ys.flatten[k]?=some c∧w.cell? ⟨b,off+k,none⟩=some v∧RdB w St s.st β c v:=fun k v hk=>by
          exact ANK
         grind [addr_add,aa6,RdB.one]
       simp only[AVR,RdC,BN,hl] at hx
       have hx2:=hx.2 hlive
       obtain⟨k1a,k2a⟩:=h.kill l
       obtain⟨k1,k2b⟩:=k1a.kill l2
       have k2:∀ x u,AVR w St s.st β x u→AVR w St (Aj (Aj s.st l) l2) β x u:=fun x u hx=>k2b x u (k2a x u hx)
       have hkr:∀ c u,RdC w St s.st β c u→RdC w St (Aj (Aj s.st l) l2) β c u:=fun c u hc=>by
        exact AMf
       have hkrB:∀ c u,RdB w St s.st β c u→RdB w St (Aj (Aj s.st l) l2) β c u:=fun c u hc=>by
        exact ALg
       have hll:l<s.st.length:=(aF.1 hl).1
       have hkl:(Aj (Aj s.st l) l2).length=s.st.length:=by rw[Ii,Ii]
       cases hβ:β l with
       | none =>
        simp only[hβ] at hx2
        obtain⟨hvx,hobx⟩:=hx2
        rw[hobx] at hle ⊢
        simp only[aN]
        by_cases hne:ys = []
        ·exact AJc
        ·obtain⟨b,off,rfl,news,n1,n2,n3,n4⟩:=hnews hne
         have hpos:0<ys.length:=aa0.2 hne
         simp only[y7,uX] at hle
         have hr:=run_append_nil (P:=P) w T o.type e i z' ht hi hiz ⟨b,off,none⟩ ys.length capy news AOk n2 hpos AOh APV
         rw[← hvx,← hvy] at hr
         have hge:=grownCap_ge w ys.length 0 e
         obtain⟨β',g1,g2⟩:=Ve k1 e n ys ob.wr news (Builtin.zeroCells z'.cells (grownCap w ys.length 0 e-ys.length)) (grownCap w ys.length 0 e) hyl n1 (fun k c hk=>by
          grind) hge (grownCap_le_maxLen w ys.length 0 e APu) (by rw[size_zeroCells,hzs]) (by
           have hbd:=FX w (.cells (news.toArray++Builtin.zeroCells z'.cells (grownCap w ys.length 0 e-ys.length)) e)
           rw[hkl]
           refine Vf h hl hlive hl2 hlive2 hll2 AOk rfl (fun x hx=>⟨fun e2=>by have:=hx.2.2.1; omega,hbd.block x hx.2.2.1⟩) hbd.size (fun b o hbo=>cell_of_block (hbd.block b (h.stIn b o hbo))) (fun l3 o3 b3 h1 h2 h3 _=>hbd.block b3 (h.obs l3 o3 b3 h1 h2 h3).2.1) (fun b1 e1 k hk=>AOk) (fun b2 e1 k hk=>?_)
           have:=had b2 e1
           simp only[ak,Addr.mk.injEq,abG] at this
           obtain⟨rfl,rfl⟩:=this
           rw[hys,hyfl] at hk
           have hk2:k<news.length:=AOh
           have:=n2 k _ (au hk2)
           rw[addr_add,uX] at this
           rw[this,World.cell?,Ej w _,hobx]
           grind)
         simp only[hkl] at g2
         exact AL4
       | some b0 =>
        simp only[hβ] at hx2
        obtain⟨cap,cs,hvx,c1,c2,c3,c4⟩:=hx2
        obtain⟨p1,p2,cs',p3,p4,p5⟩:=h.obs l ob b0 hl hlive hβ
        rw[c3] at p3
        simp only[ak,Obj.cells.injEq,abG] at p3
        subst p3
        have hfree:∀ l' o2,(Aj (Aj s.st l) l2)[l']?=some o2→o2.live=true→β l'≠some b0:=fun l' o2 h2 hl2 hb2=>by
         obtain⟨r1,r2,_⟩:=Q_ h2 hl2
         exact r2 (h.inj l l' ob o2 b0 hl r1 hlive hl2 hβ hb2)
        have hkeep:∀ o,St b0 o→ob.wr=false∧o<ob.xs.length*ob.sz:=fun o hbo=>h.sep l ob b0 o hl hlive hβ hbo
        have hxfl:ob.xs.flatten.length=ob.xs.length*n:=by rw[Eb p4,hosz]
        have hlall:∀ r∈ob.xs++ys,r.length=n:=fun r hr=>by
         grind
        have hcap:cs.size=cap*n:=by rw[c4,hosz]
        by_cases hne:ys = []
        ·subst hne
         have hy0:([]:List (List Cl)).length=0:=rfl
         rw[hy0] at hvy
         have hrun:(Builtin.append_ #[T,T] o.type #[a.eval x,a.eval y]).run P w = .ok (.slice (some ⟨b0,0,none⟩) ob.xs.length cap) w:=by
          rw[hvx,hvy]; exact H6 ht hs _ _ _ c1 ad capy w
         obtain⟨a1,a2,a3⟩:=k1.addObB ⟨e,n,ob.xs ++ [],ob.wr,true⟩ (some b0) AOi (fun b hb=>by
          grind) (by
          rw[hkl]
          exact Vf h hl hlive hl2 hlive2 hll2 (by rw[hys]) rfl (fun x hx=>⟨fun e2=>hx.2.2.2.2 l ob hl hlive (by rw[hβ,e2]),rfl⟩) (aT _) (fun _ _ _=>rfl) (fun _ _ _ _ _ _ _=>rfl) (fun b1 e1 _ _=>AOk) (fun _ _ k hk=>AOk))
         exact AMW
        ·obtain⟨b,off,rfl,news,n1,n2,n3,n4⟩:=hnews hne
         have hpos:0<ys.length:=aa0.2 hne
         have hFC:ob.xs.flatten.length≤cs.toList.length:=MZ (R:=fun c u=>RdB w St s.st β c u) (fun k c hk=>AOk)
         have holdl:(cs.toList.take (ob.xs.length*n)).length=ob.xs.length*n:=by
          rw[bz,dO AOh]
         have hold:∀ (k:Nat) (c:Cl),ob.xs.flatten[k]?=some c→∃ u,(cs.toList.take (ob.xs.length*n))[k]?=some u∧RdB w St s.st β c u:=fun k c hk=>by
          grind
         have hboth:∀ (k:Nat) (c:Cl),(ob.xs++ys).flatten[k]?=some c→∃ u,(cs.toList.take (ob.xs.length*n)++news)[k]?=some u∧RdB w St (Aj (Aj s.st l) l2) β c u:=fun k c hk=>by
          grind
         by_cases hroom:ob.xs.length+ys.length≤cap
         ·
          have hcsl:cs.toList.length=cs.size:=AOi
          have hcapm:(ob.xs.length+ys.length)*n≤cap*n:=aaw _ hroom
          have hfit:ob.xs.length*i.size+news.length≤cs.size:=APt
          have hr:=run_append_room (P:=P) w T o.type e i ht hi b0 ob.xs.length cap cs AOk ⟨b,off,none⟩ ys.length capy news AOk n2 n4 hroom hfit
          rw[← hvx,← hvy,hsz] at hr
          rw[hsz] at hfit
          generalize hcs':(cs.toList.take (ob.xs.length*n)++news++cs.toList.drop (ob.xs.length*n+news.length)).toArray=C' at hr
          have hC's:C'.size=cs.size:=by
           rw[← hcs']
           simp only[abf,bn,aaP,holdl]
           omega
          have hC'at:∀ k,k<ob.xs.length*n+news.length→C'[k]?=(cs.toList.take (ob.xs.length*n)++news)[k]?:=fun k hk=>by
           grind
          have hturn:=k1.turn (b:=b0) p1 (ACF h l2 hl hlive hβ) hfree c3 (cs':=C') (fun o hbo=>by
           grind) hC's
          have hcell:∀ b' o,St b' o→(w.setRow b0 C').cell? ⟨b',o,none⟩=w.cell? ⟨b',o,none⟩:=fun b' o hbo=>by
           by_cases e2:b'=b0
           ·subst e2
            have ho:=(hkeep o hbo).2
            rw[hosz] at ho
            rw[World.cell?,World.cell?,setRow_heap w b' cs C' ob.ty (0,0) c3,c3]
            grind
           grind [cell_of_block,setRow_other]
          have hrr:∀ l' u,BN w (Aj (Aj s.st l) l2) β l' u→BN (w.setRow b0 C') (Aj (Aj s.st l) l2) β l' u:=by
           intro l' u hu
           unfold BN at hu ⊢
           cases hq:(Aj (Aj s.st l) l2)[l']? with
           | none=>grind
           | some o2 =>
            grind [setRow_other]
          obtain⟨a1,a2,a3⟩:=hturn.addObB ⟨e,n,ob.xs++ys,ob.wr,true⟩ (some b0) AOi (fun b' hb=>by
           simp only[ak] at hb
           subst hb
           refine⟨p1,by simp_all,hfree,fun o hbo=>?_,C',by grind [setRow_heap],hlall,fun k c hk=>?_⟩
           ·grind
           ·obtain⟨u,u1,u2⟩:=hboth k c hk
            have hk':k<ob.xs.length*n+news.length:=by
             have:=(aF.1 u1).1
             simpa only[bn,holdl] using this
            exact⟨u,AOk,RdB.mono (fun _ _ h=>h) hcell hrr _ _ u2⟩) (by
           rw[hkl]
           refine Vf h hl hlive hl2 hlive2 hll2 (by rw[hys]) rfl (fun x hx=>?_) (by simp_all) hcell (fun l3 o3 b3 h1 h2 h3 h4=>?_) (fun b1 e1 k hk=>?_) (fun b2 e1 k hk=>?_)
           ·have hxb:x≠b0:=fun e2=>hx.2.2.2.2 l ob hl hlive (by rw[hβ,e2])
            grind [setRow_other]
           ·exact setRow_other w b0 b3 C' fun e2=>h4 (h.inj l l3 ob o3 b0 hl h1 hlive h2 hβ (by rw[h3,e2]))
           ·rw[hβ] at e1
            have:=uV e1
            subst this
            have hk':k<ob.xs.length*n:=by rw[← hxfl]; exact hk
            rw[World.cell?,World.cell?,setRow_heap w b0 cs C' ob.ty (0,0) c3,c3]
            grind
           ·have:=had b2 e1
            simp only[ak,Addr.mk.injEq,abG] at this
            obtain⟨rfl,rfl⟩:=this
            rw[hys,hyfl] at hk
            have hk2:k<news.length:=AOh
            have:=n2 k _ (au hk2)
            rw[addr_add,uX] at this
            rw[this,World.cell?,setRow_heap w b0 cs C' ob.ty (0,0) c3]
            simp_all)
          refine⟨_,_,_,St,_,hexec _ _ hr,.inl rfl,a1, ?_⟩
          rw[← hkl]
          exact NY (b:=some b0) rfl AOi fun _=>⟨cap,C',AOi,AOk,c2,by grind [setRow_heap],AOk⟩
         ·
          have holds:∀ (j:Nat) (v:Value),(cs.toList.take (ob.xs.length*n))[j]?=some v→w.cell? ((⟨b0,0,none⟩:Addr).add j)=some v:=fun j v hj=>by
           exact AMl
          have hr:=run_append_grow (P:=P) w T o.type e i z' ht hi hiz ⟨b0,0,none⟩ ob.xs.length cap (cs.toList.take (ob.xs.length*n)) AOk holds ⟨b,off,none⟩ ys.length capy news AOk n2 AOh AOh (by
           exact growslice_fits AOh (by rw[hbs]; exact Le hle hby (aT _)))
          rw[← hvx,← hvy] at hr
          have hge:=grownCap_ge w (ob.xs.length+ys.length) cap e
          obtain⟨β',g1,g2⟩:=Ve k1 e n (ob.xs++ys) ob.wr (cs.toList.take (ob.xs.length*n)++news) (Builtin.zeroCells z'.cells (grownCap w (ob.xs.length+ys.length) cap e-(ob.xs.length+ys.length))) (grownCap w (ob.xs.length+ys.length) cap e) hlall (by
           grind) hboth AOk (grownCap_le_maxLen w _ cap e APu) (by rw[size_zeroCells,hzs]; simp) (by
           have hbd:=FX w (.cells ((cs.toList.take (ob.xs.length*n)++news).toArray++Builtin.zeroCells z'.cells (grownCap w (ob.xs.length+ys.length) cap e-(ob.xs.length+ys.length))) e)
           rw[hkl]
           refine Vf h hl hlive hl2 hlive2 hll2 (by rw[hys]) rfl (fun x hx=>⟨fun e2=>by have:=hx.2.2.1; omega,hbd.block x hx.2.2.1⟩) hbd.size (fun b o hbo=>cell_of_block (hbd.block b (h.stIn b o hbo))) (fun l3 o3 b3 h1 h2 h3 _=>hbd.block b3 (h.obs l3 o3 b3 h1 h2 h3).2.1) (fun b1 e1 k hk=>?_) (fun b2 e1 k hk=>?_)
           ·rw[hβ] at e1
            have:=uV e1
            subst this
            have hk':k<ob.xs.length*n:=by rw[← hxfl]; exact hk
            rw[World.cell?,World.cell?,Ej w _,c3]
            grind
           ·have:=had b2 e1
            simp only[ak,Addr.mk.injEq,abG] at this
            obtain⟨rfl,rfl⟩:=this
            rw[hys,hyfl] at hk
            have hk2:k<news.length:=AOh
            have:=n2 k _ (au hk2)
            rw[addr_add,uX] at this
            rw[this,World.cell?,Ej w _]
            grind)
          simp only[hkl,bn] at g2
          have earr:(cs.toList.take (ob.xs.length*n)++news).toArray=(cs.toList.take (ob.xs.length*n)).toArray++news.toArray:=AOi
          rw[earr] at g1 g2
          exact AL4
      ·cases hy
     ·cases hy
    ·cases hy
   ·cases hy
  ·cases hy
 ·cases hy
def AJe (zs:List Cl):Bool:=zs.any fun c=>match c with | .v (.slice _ _ _)=>true | _=>false
def zG (P:Program) (s:MS) (T:TypeId) (x y:AV):Option (AV×List Ob):=match x,y with
 | .c (.ref l),.c (.ref l2)=>match EO P T with
  | some e=>match VQ P e with
   | some zs=>if AJe zs=true then match DT s.st l2 with
     | some ob2=>if DI ob2.xs=true then AD8 P s T (.c (.ref l)) (.c (.ref l2)) else zF P s T (.c (.ref l)) (.c (.ref l2))
     | none=>none
    else zF P s T (.c (.ref l)) (.c (.ref l2))
   | none=>none
  | none=>none
 | x,y=>zF P s T x y
theorem AFm (h:Core w0 St0 St β s a w) (o:Oper) (T:TypeId) (c:Call) (x y:Operand) (ho:o.op = .call c) (hcl:c.callee = .builtin .append) (hca:c.args.toList = [x,y]) (hct:c.argTypes.toList = [T,T]) (hc:Au x=true) (hc2:Au y=true)
  {z:AV} {st':List Ob} (hy:zG P s T (Ew s x) (Ew s y)=some (z,st')):Does P a w w0 St0 s o z st':=by
 unfold zG at hy
 grind [AFl,AHk]
end Go.Vm
