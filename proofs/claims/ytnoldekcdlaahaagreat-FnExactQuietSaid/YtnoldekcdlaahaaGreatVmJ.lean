/- A part. -/
import Derived.Test.YtnoldekcdlaahaaGreatVmE
import Derived.Laws.BytesArg
import Derived.Laws.MakeOwn
set_option linter.unusedSimpArgs false
set_option linter.unusedVariables false
namespace Go.Vm
open Go.RowKit
theorem addr_add (b o j:Nat):(⟨b,o,none⟩:Addr).add j=⟨b,o+j,none⟩:=by
 unfold Addr.add; grind
theorem MX {R:Cl→Value→Prop} {w:World} {b:Nat}:∀ (xs:List Cl) (o:Nat),(∀ (j:Nat) (c:Cl),xs[j]?=some c→∃ u,w.cell? ⟨b,o+j,none⟩=some u∧R c u) →
  ∃ us:List Value,us.length=xs.length∧∀ (j:Nat) (c:Cl),xs[j]?=some c→∃ u,us[j]?=some u∧w.cell? ⟨b,o+j,none⟩=some u∧R c u
 | [],_,_=>⟨[],rfl,fun j c h=>AO_⟩
 | x::xs,o,h=>by
  obtain⟨us,h1,h2⟩:=MX xs (o+1) fun j c hj=>by
   have:=h (j+1) c AOk
   rwa [show o+(j+1)=o+1+j from AOh] at this
  obtain⟨u,hu⟩:=h 0 x rfl
  refine⟨u::us,by simp[h1],fun j c hj=>?_⟩
  grind
section
variable {P:Program} {w:World} {St:Nat→Nat→Prop} {st:List Ob} {β:Nat→Option Nat}
theorem AB9 {row:List Cl} {off n:Nat} {g:Bool} {x:AV} (h:∀ (j:Nat) (c:Cl),row[j]?=some c→Gi c=false) (hx:Om row off n g=some x):KH x=true:=by
 unfold Om at hx
 cases g with
 | true =>
  simp only[aX] at hx
  split at hx
  ·simp only[ak] at hx
   subst hx
   simp only[KH,aP]
   grind [aa6,aaG,aar]
  ·cases hx
 | false =>
  simp only[aC,aW] at hx
  split at hx
  ·rename_i c hc
   simp only[ak] at hx
   subst hx
   simp[KH,h _ c hc]
  ·cases hx
theorem AAo {row:List Cl} {b o off n:Nat} {g:Bool} {T:TypeId} {x:AV} (hcells:∀ (j:Nat) (c:Cl),row[j]?=some c→∃ u,w.cell? ⟨b,o+j,none⟩=some u∧RdB w St st β c u)
  (hs:Ae P T=some n) (hg:Bf P T=some g) (hx:Om row off n g=some x) (hno:KH x=true) :
  ∃ v,(Instr.loadAt T (.pointer (some ⟨b,o+off,none⟩))).run P w = .ok v w∧AVR w St st β x v:=by
 unfold Om at hx
 cases g with
 | true =>
  simp only[aX] at hx
  split at hx
  ·rename_i hle
   simp only[ak] at hx
   subst hx
   obtain⟨us,h1,h2⟩:=MX (R:=RdC w St st β) (w:=w) (b:=b) ((row.drop off).take n) (o+off) (fun j c hj=>by
    rw[aaJ] at hj
    split at hj
    ·rw[aaV] at hj
     obtain⟨u,hu,hr⟩:=hcells _ c hj
     rw[show o+(off+j)=o+off+j from AOh] at hu
     refine⟨u,hu,hr.toC ?_⟩
     simp only[KH,aP] at hno
     have hcm:=hno c (bF (i:=j) AOk)
     grind
    ·cases hj)
   have hlen:us.length=n:=by rw[h1]; simp; omega
   have hl:(loadCells ⟨b,o+off,none⟩ us.length).run P w = .ok us.toArray w:=
    run_loadCells_list (P:=P) w ⟨b,o+off,none⟩ us (fun j v hv=>by
     rw[addr_add]
     have hj:j<((row.drop off).take n).length:=by
      rw[← h1]
      rcases bQ j us.length with h' | h'
      ·exact h'
      ·grind
     obtain⟨u,hu1,hu2,_⟩:=h2 j _ (au hj)
     grind)
   refine⟨.agg us.toArray, ?_, ?_⟩
   ·rw[hlen] at hl
    simp[Instr.loadAt,Instr.sureAddr,loadVar,VR hg,Ig hs,hl]
   ·simp only[AVR]
    grind
  ·cases hx
 | false =>
  simp only[aC,aW] at hx
  split at hx
  ·rename_i c hc
   simp only[ak] at hx
   subst hx
   obtain⟨u,hu1,hu2⟩:=hcells off c hc
   have hu3:=hu2.toC (by simpa [KH] using hno)
   refine⟨u, ?_,by simpa only[AVR] using hu3⟩
   simp[Instr.loadAt,Instr.sureAddr,loadVar,VR hg,hu1]
  ·cases hx
theorem AFa {row:List Cl} {us:List Value} {off n:Nat} {g:Bool} {T:TypeId} {x:AV} (hl:us.length=row.length) (hcells:∀ (j:Nat) (c:Cl),row[j]?=some c→∃ u,us[j]?=some u∧RdC w St st β c u)
  (hs:Ae P T=some n) (hg:Bf P T=some g) (hx:Om row off n g=some x) :
  ∃ v,(part T us.toArray off).run P w = .ok v w∧AVR w St st β x v:=by
 unfold Om at hx
 cases g with
 | true =>
  simp only[aX] at hx
  split at hx
  ·rename_i hle
   simp only[ak] at hx
   subst hx
   refine⟨.agg (us.toArray.extract off (off+n)),by simp[part,VR hg,Ig hs], ?_⟩
   simp only[AVR]
   grind
  ·cases hx
 | false =>
  simp only[aC,aW] at hx
  split at hx
  ·rename_i c hc
   simp only[ak] at hx
   subst hx
   obtain⟨u,hu1,hu2⟩:=hcells off c hc
   refine⟨u, ?_,by simpa only[AVR] using hu2⟩
   simp[part,VR hg,hu1]
  ·cases hx
theorem oP:∀ {xs:List AV} {us:List Value},AVRs w St st β xs us→∀ (j:Nat) (x:AV),xs[j]?=some x→∃ u,us[j]?=some u∧AVR w St st β x u
 | [],_,_,j,x,h=>AO_
 | x0::xs,us,h,j,x,hj=>by
  simp only[AVRs] at h
  obtain⟨y,ys,rfl,h1,h2⟩:=h
  cases j with
  | zero=>simp at hj; subst hj; exact⟨y,rfl,h1⟩
  | succ j=>simpa using oP h2 j x (by simpa using hj)
theorem oQ {x:AV} {u:Value} {k:Nat} (h:AVR w St st β x u) (hk:Oo x=some k):∃ kd,u = .int kd (k:Int):=by
 unfold Oo at hk
 split at hk
 ·rename_i kd n
  split at hk
  ·rename_i hn
   simp only[ak] at hk
   simp only[AVR,RdC,RdD] at h
   grind
  ·cases hk
 ·cases hk
theorem PI {v u:Value} (h:AVR w St st β (.c (.v v)) u):u=v∧QZ v=true:=by
 simp only[AVR,RdC,RdD] at h
 omega
theorem XF {v:Value} (h:QZ v=true):AVR w St st β (.c (.v v)) v:=by
 simp only[AVR,RdC,RdD]
 grind
end
theorem AFb (c:UInt8):QZ (.int .u8 (c.toNat:Int))=true:=by
 have:=c.toNat_lt
 exact AOG
theorem ADu {n:Nat} (h:n≤maxLen):QZ (.int .i64 (n:Int))=true:=by
 simp only[maxLen] at h
 exact AOG
theorem uf {w0:Bs} {St0 St:Nat→Nat→Prop} {β:Nat→Option Nat} {s:MS} {a:Act} {w:World} (_:Core w0 St0 St β s a w) {d:Cl} {u:Value} {xs:List (List Cl)} (hd:RdC w St s.st β d u) (hx:Td s.st d=some xs) :
  ∃ ad cap,u = .slice ad xs.length cap∧xs.length≤cap∧cap≤maxLen:=by
 unfold Td at hx
 split at hx
 ·simp only[ak] at hx
  subst hx
  simp only[RdC,RdD] at hd
  grind
 ·cases hx
 ·simp only[ak] at hx
  subst hx
  simp only[RdC,RdD] at hd
  grind
 ·rename_i l
  cases ho:DT s.st l with
  | none=>grind
  | some ob =>
   simp only[ho,bW,ak] at hx
   subst hx
   obtain⟨hl,hlive⟩:=CS ho
   simp only[RdC,BN,hl] at hd
   grind
 ·cases hx
theorem AAp {w0:Bs} {St0 St:Nat→Nat→Prop} {β:Nat→Option Nat} {s:MS} {a:Act} {w:World} (h:Core w0 St0 St β s a w) {l i off:Nat} {u:Value} {ob:Ob} (hu:AVR w St s.st β (.lp l i off) u) (ho:DT s.st l=some ob) :
  ∃ b cs,β l=some b∧u = .pointer (some ⟨b,i*ob.sz+off,none⟩)∧w.heap[b]?=some (.cells cs ob.ty (0,0))∧(∀ x∈ob.xs,x.length=ob.sz) ∧
   (∀ (k:Nat) (c:Cl),ob.xs.flatten[k]?=some c→∃ u,cs[k]?=some u∧RdB w St s.st β c u):=by
 obtain⟨hl,hlive⟩:=CS ho
 simp only[AVR,hl] at hu
 obtain⟨b,hb,rfl⟩:=hu hlive
 obtain⟨_,_,cs,g1,g2,g3⟩:=h.obs l ob b hl hlive hb
 grind
theorem AB_ {w:World} {St:Nat→Nat→Prop} {st:List Ob} {β:Nat→Option Nat} {ob:Ob} {b:Nat} {cs:Array Value} (g1:w.heap[b]?=some (.cells cs ob.ty (0,0))) (g2:∀ x∈ob.xs,x.length=ob.sz)
  (g3:∀ (k:Nat) (c:Cl),ob.xs.flatten[k]?=some c→∃ u,cs[k]?=some u∧RdB w St st β c u) {i:Nat} {row:List Cl} (hi:ob.xs[i]?=some row) :
  ∀ (j:Nat) (c:Cl),row[j]?=some c→∃ u,w.cell? ⟨b,i*ob.sz+j,none⟩=some u∧RdB w St st β c u:=fun j c hj=>by
 obtain⟨u,hu,hc⟩:=g3 _ c (FZ g2 i j row c hi hj)
 exact⟨u,by simp[World.cell?,g1,hu],hc⟩
theorem RdD.toC {w:World} {St:Nat→Nat→Prop} {st:List Ob} {β:Nat→Option Nat} {c:Cl} {u:Value} (h:RdD w St c u):RdC w St st β c u:=by
 cases c with
 | ref l=>simp[RdD] at h
 | v x=>exact h
 | sl xs=>exact h
 | ow ty sz xs=>simp[RdD] at h
theorem UN {w0:Bs} {St0 St:Nat→Nat→Prop} {β:Nat→Option Nat} {s:MS} {a:Act} {w:World} (h:Core w0 St0 St β s a w) {d:Cl} {u:Value} {xs:List (List Cl)} (hd:RdC w St s.st β d u) (hx:Td s.st d=some xs) :
  ∃ ad cap,u = .slice ad xs.length cap∧(∃ sz,∀ x∈xs,x.length=sz)∧(xs = []∨∃ b off,ad=some ⟨b,off,none⟩∧∀ (k:Nat) (c:Cl),xs.flatten[k]?=some c→∃ v,w.cell? ⟨b,off+k,none⟩=some v∧RdB w St s.st β c v):=by
 unfold Td at hx
 split at hx
 ·simp only[ak] at hx
  subst hx
  simp only[RdC,RdD] at hd
  simp_all
 ·cases hx
 ·simp only[ak] at hx
  subst hx
  simp only[RdC,RdD] at hd
  obtain⟨ad,cap,h1,h2,h3,⟨sz,h4⟩,h5⟩:=hd
  refine⟨ad,cap,h1,⟨sz,h4⟩, ?_⟩
  rcases h5 with rfl | ⟨b,off,rfl,h6⟩
  ·grind
  ·refine .inr ⟨b,off,rfl, ?_⟩
   have key:∀ (xs:List (List Cl)) (off:Nat),RdE w St xs b off→∀ (k:Nat) (c:Cl),xs.flatten[k]?=some c→∃ v,w.cell? ⟨b,off+k,none⟩=some v∧RdB w St s.st β c v:=by
    intro xs
    induction xs with
    | nil=>grind
    | cons x xs ih =>
     intro off hr k c hk
     simp only[RdE] at hr
     simp only[dm] at hk
     rcases bQ k x.length with h' | h'
     ·rw[bG h'] at hk
      obtain⟨_,v,hv,hc⟩:=hr.1.at k c hk
      exact⟨v,hv,hc.toC.toB⟩
     grind
   grind
 ·rename_i l
  cases ho:DT s.st l with
  | none=>grind
  | some ob =>
   simp only[ho,bW,ak] at hx
   subst hx
   obtain⟨hl,hlive⟩:=CS ho
   simp only[RdC,BN,hl] at hd
   have h2:=hd.2 hlive
   split at h2
   ·simp_all
   ·rename_i b hb
    obtain⟨cap,cs,h1,h3,h4,_⟩:=h2
    obtain⟨_,_,cs',g1,g2,g3⟩:=h.obs l ob b hl hlive hb
    refine⟨_,cap,h1,⟨ob.sz,g2⟩,.inr ⟨b,0,rfl,fun k c hk=>?_⟩⟩
    obtain⟨v,hv,hc⟩:=g3 k c hk
    exact⟨v,by simp[World.cell?,g1,hv],hc⟩
 ·cases hx
theorem kP:∀ {xs:List (List Cl)} {ns:List Int},Q5 xs=some ns→ns.length=xs.length∧∀ (k:Nat) (n:Int),ns[k]?=some n→xs.flatten[k]?=some (.v (.int .u8 n))
 | [],ns,h=>by
  simp only[Q5,ak] at h
  subst h
  exact⟨rfl,fun k n hk=>APM⟩
 | x::r,ns,h=>by
  unfold Q5 at h
  split at h
  ·rename_i he; cases he
  ·rename_i n r' he
   cases he
   split at h
   ·rename_i ns' h'
    simp only[ak] at h
    subst h
    obtain⟨q1,q2⟩:=kP h'
    refine⟨by simp[q1],fun k m hk=>?_⟩
    cases k with
    | zero=>simp only[aQ,ak] at hk; subst hk; rfl
    | succ k=>simpa using q2 k m APN
   ·cases h
  ·cases h
end Go.Vm
namespace Go.Vm
open Go.RowKit
theorem UO {P:Program} {T:TypeId} {f fo:Nat} {ft:TypeId} (h:AC P T f=some (fo,ft)):∃ (fs:Array Field) (x:Field),P.underlying T=some (.struct fs)∧fs[f]?=some x∧x.offset=fo∧x.type=ft:=by
 unfold AC at h
 grind
theorem NJ {P:Program} {T e:TypeId} (h:EO P T=some e):P.underlying T=some (.slice e):=by
 unfold EO at h
 grind
def Gives (P:Program) (a:Act) (w:World) (St:Nat→Nat→Prop) (st:List Ob) (β:Nat→Option Nat) (o:Oper) (x:AV):Prop:=
 ∃ v,(execOp a.eval o).run P w = .ok (.value v) w∧AVR w St st β x v
variable {P:Program} {w0:Bs} {St0 St:Nat→Nat→Prop} {β:Nat→Option Nat} {s:MS} {a:Act} {w:World}
theorem AHh (h:Core w0 St0 St β s a w) (o:Oper) (T:TypeId) (x:Operand) (ho:o.op = .load T x) (hc:Au x=true) {y:AV} (hy:Ip P s (.load T x)=some y):Gives P a w St s.st β o y:=by
 have he:=Cj h x hc
 simp only[Ip] at hy
 split at hy
 ·rename_i n g hs hg
  split at hy
  ·rename_i l i off hev
   split at hy
   ·rename_i ob hob
    split at hy
    ·rename_i row hrow
     split at hy
     ·rename_i y0 hcut
      split at hy
      ·rename_i hno
       simp only[ak] at hy
       subst hy
       rw[hev] at he
       obtain⟨b,cs,hb,hu,g1,g2,g3⟩:=AAp h he hob
       obtain⟨v,hv,hr⟩:=AAo (P:=P) (T:=T) (AB_ g1 g2 g3 hrow) hs hg hcut hno
       exact⟨v,by simp[execOp,ho,hu,hv],hr⟩
      ·cases hy
     ·cases hy
    ·cases hy
   ·cases hy
  ·rename_i row hev
   rw[hev] at he
   simp only[AVR] at he
   obtain⟨b,off,hu,hr⟩:=he
   obtain⟨v,hv,hr2⟩:=AAo (P:=P) (w:=w) (St:=St) (st:=s.st) (β:=β) (T:=T) (row:=row) (b:=b) (o:=off) (off:=0) (fun j c hj=>by
    obtain⟨_,u,hu1,hu2⟩:=hr.at j c hj
    refine⟨u,hu1, ?_⟩
    cases c with
    | ref l=>simp[RdD] at hu2
    | v x=>exact hu2
    | sl xs=>exact hu2
    | ow ty sz xs=>simp[RdD] at hu2) hs hg hy (AB9 (fun j c hj=>by
     obtain⟨_,u,hu1,hu2⟩:=hr.at j c hj
     cases c with
     | ow ty sz xs=>simp[RdD] at hu2
     | _=>rfl) hy)
   exact⟨v,by simp only[abJ] at hv; simp[execOp,ho,hu,hv],hr2⟩
  ·cases hy
 ·cases hy
theorem AFc (h:Core w0 St0 St β s a w) (o:Oper) (T:TypeId) (x:Operand) (f:Nat) (ho:o.op = .field T x f) (hc:Au x=true) {y:AV} (hy:Ip P s (.field T x f)=some y):Gives P a w St s.st β o y:=by
 have he:=Cj h x hc
 simp only[Ip] at hy
 split at hy
 ·rename_i fo ft hf
  split at hy
  ·rename_i n g row hs hg hev
   rw[hev] at he
   simp only[AVR] at he
   obtain⟨us,hu,h1,h2⟩:=he
   obtain⟨fs,fx,q1,q2,q3,q4⟩:=UO hf
   obtain⟨v,hv,hr⟩:=AFa (P:=P) h1 h2 hs hg hy
   subst q3 q4
   exact⟨v,by simp[execOp,ho,Instr.field,run_underlying q1,q2,hu,asAgg,hv],hr⟩
  ·cases hy
 ·cases hy
theorem ug (h:Core w0 St0 St β s a w) (o:Oper) (T:TypeId) (x:Operand) (f:Nat) (ho:o.op = .fieldAddr T x f) (hc:Au x=true) {y:AV} (hy:Ip P s (.fieldAddr T x f)=some y):Gives P a w St s.st β o y:=by
 have he:=Cj h x hc
 simp only[Ip] at hy
 split at hy
 ·rename_i fo ft hf
  obtain⟨fs,fx,q1,q2,q3,q4⟩:=UO hf
  subst q3 q4
  split at hy
  ·rename_i m hs
   have hrun:∀ b off,(Instr.fieldAt T (.pointer (some ⟨b,off,none⟩)) f).run P w = .ok (.pointer (some ⟨b,off+fx.offset,none⟩)) w:=by
    intro b off
    simp[Instr.fieldAt,run_underlying q1,q2,Instr.sureAddr,fieldPlace,Ig hs,addr_add]
   split at hy
   ·rename_i l i off hev
    split at hy
    ·rename_i ob hob
     simp only[ak] at hy
     subst hy
     rw[hev] at he
     obtain⟨b,cs,hb,hu,_⟩:=AAp h he hob
     refine⟨_,by simp[execOp,ho,hu,hrun]; rfl, ?_⟩
     obtain⟨hl,_⟩:=CS hob
     simp only[AVR,hl]
     grind
    ·cases hy
   ·rename_i row hev
    simp only[ak] at hy
    subst hy
    rw[hev] at he
    simp only[AVR] at he
    obtain⟨b,off,hu,hr⟩:=he
    refine⟨_,by simp[execOp,ho,hu,hrun]; rfl, ?_⟩
    simp only[AVR]
    exact⟨b,_,rfl,hr.drop _⟩
   ·cases hy
  ·cases hy
 ·cases hy
theorem run_indexAt {T e:TypeId} {n:Nat} (ht:P.underlying T=some (.slice e)) (hs:Ae P e=some n) {b off len cap k:Nat} {kd:IntKind} (hk:k<len) :
  (Instr.indexAt T (.slice (some ⟨b,off,none⟩) len cap) (.int kd (k:Int))).run P w = .ok (.pointer (some ⟨b,off+k*n,none⟩)) w:=by
 have h1:¬ len≤k:=AOh
 simp[Instr.indexAt,asIntOf,run_underlying ht,Ig hs,addr_add,h1]
theorem uh (h:Core w0 St0 St β s a w) (o:Oper) (T:TypeId) (x ix:Operand) (ho:o.op = .indexAddr T x ix) (hc:Au x=true) (hc2:Au ix=true) {y:AV} (hy:Ip P s (.indexAddr T x ix)=some y):Gives P a w St s.st β o y:=by
 have he:=Cj h x hc
 have hi:=Cj h ix hc2
 simp only[Ip] at hy
 split at hy
 ·rename_i e hte
  have ht:=NJ hte
  split at hy
  ·rename_i n k hs hk
   obtain⟨kd,hi2⟩:=oQ hi hk
   split at hy
   ·rename_i xs hev
    split at hy
    ·rename_i row hrow
     split at hy
     ·rename_i hlen
      simp only[ak] at hy
      subst hy
      rw[hev] at he
      simp only[AVR,RdC,RdD] at he
      obtain⟨ad,cap,hu,h2,h3,⟨sz,h4⟩,h5⟩:=he
      have hkl:k<xs.length:=(aF.1 hrow).1
      rcases h5 with rfl | ⟨b,off,rfl,h6⟩
      ·simp at hkl
      ·have hsz:sz=n:=by rw[← hlen]; exact(h4 row (bF hrow)).symm
       subst hsz
       refine⟨_,by simp[execOp,ho,hu,hi2,run_indexAt ht hs hkl]; rfl, ?_⟩
       simp only[AVR]
       exact⟨b,_,rfl,h6.at sz h4 k row hrow⟩
     ·cases hy
    ·cases hy
   ·rename_i l hev
    split at hy
    ·rename_i ob hob
     split at hy
     ·rename_i hkl
      obtain⟨hkl,hsz⟩:=hkl
      simp only[ak] at hy
      subst hy
      rw[hev] at he
      obtain⟨hl,hlive⟩:=CS hob
      simp only[AVR,RdC,BN,hl] at he
      have h2:=he.2 hlive
      split at h2
      ·grind
      ·rename_i b hb
       obtain⟨cap,cs,hu,h3,h4,_⟩:=h2
       refine⟨_,by simp[execOp,ho,hu,hi2,run_indexAt ht hs hkl]; rfl, ?_⟩
       simp only[AVR,hl]
       grind
     ·cases hy
    ·cases hy
   ·cases hy
  ·cases hy
 ·cases hy
theorem AJd (h:Core w0 St0 St β s a w) (o:Oper) (c:Call) (ho:o.op = .call c) (hcl:c.callee = .builtin .len) (hc:c.args.toList.all Au=true) {y:AV} (hy:Ip P s (.call c)=some y):Gives P a w St s.st β o y:=by
 simp only[Ip,hcl] at hy
 split at hy
 ·rename_i t x hat hax
  have hx:Au x=true:=by rw[hax] at hc; simpa using hc
  have he:=Cj h x hx
  have ha1:c.argTypes = #[t]:=by have:=congrArg List.toArray hat; simpa using this
  have ha2:c.args = #[x]:=by have:=congrArg List.toArray hax; simpa using this
  split at hy
  ·rename_i b hu hev
   simp only[ak] at hy
   subst hy
   rw[hev] at he
   obtain⟨hv,hw⟩:=PI he
   refine⟨.int .i64 b.size, ?_,XF (ADu (by simpa [QZ] using hw))⟩
   exact ANe
  ·rename_i e d hu hev
   split at hy
   ·rename_i xs hd
    simp only[ak] at hy
    subst hy
    rw[hev] at he
    simp only[AVR] at he
    obtain⟨ad,cap,hv,h1,h2⟩:=uf h he hd
    refine⟨.int .i64 xs.length, ?_,XF (ADu AOh)⟩
    exact ANe
   ·cases hy
  ·cases hy
 ·cases hy
theorem ADv (h:Core w0 St0 St β s a w) (o:Oper) (c:Call) (ho:o.op = .call c) (hcl:c.callee = .builtin .min∨c.callee = .builtin .max) (hc:c.args.toList.all Au=true) {y:AV} (hy:Ip P s (.call c)=some y):Gives P a w St s.st β o y:=by
 rcases hcl with hcl | hcl
 all_goals
  simp only[Ip,hcl] at hy
  split at hy
  ·rename_i x x2 hax
   have hx:Au x=true∧Au x2=true:=by rw[hax] at hc; simpa using hc
   have he:=Cj h x hx.1
   have he2:=Cj h x2 hx.2
   have ha2:c.args = #[x,x2]:=by have:=congrArg List.toArray hax; simpa using this
   split at hy
   ·rename_i p q hev hev2
    simp only[ak] at hy
    subst hy
    rw[hev] at he
    rw[hev2] at he2
    obtain⟨hv,hw⟩:=PI he
    obtain⟨hv2,hw2⟩:=PI he2
    refine⟨_, ?_,XF ?_⟩
    rotate_left
    ·grind
    ·simp[execOp,ho,resolve,hcl,ha2,invoke,builtin,Builtin.min_,Builtin.max_,Builtin.min2,Builtin.max2,hv,hv2]
   ·cases hy
  ·cases hy
theorem AFd (h:Core w0 St0 St β s a w) (o:Oper) (T:TypeId) (x ix:Operand) (ho:o.op = .index T x ix) (hc:Au x=true) (hc2:Au ix=true) {y:AV} (hy:Ip P s (.index T x ix)=some y):Gives P a w St s.st β o y:=by
 have he:=Cj h x hc
 have hi:=Cj h ix hc2
 simp only[Ip] at hy
 split at hy
 ·rename_i hu
  split at hy
  ·rename_i b k hev hk
   obtain⟨kd,hi2⟩:=oQ hi hk
   split at hy
   ·rename_i c hb
    simp only[ak] at hy
    subst hy
    rw[hev] at he
    obtain⟨hv,hw⟩:=PI he
    refine⟨_, ?_,XF (AFb c)⟩
    simp[execOp,ho,Instr.index,asIntOf,hi2,run_underlying hu,hv,hb]
   ·cases hy
  ·cases hy
 ·cases hy
theorem oU (h:Core w0 St0 St β s a w) (o:Oper) (hc:o.op.operands.toList.all Au=true) {y:AV} (hy:Ip P s o.op=some y):Gives P a w St s.st β o y:=by
 obtain⟨dst,op,type,pos,after,guard⟩:=o
 simp only at hc hy
 cases op with
 | move x =>
  exact ANB
 | assign x =>
  exact ANB
 | pick c x1 x2 =>
  simp[Op.operands] at hc
  have he:=Cj h c hc.1
  have h1:=Cj h x1 hc.2.1
  have h2:=Cj h x2 hc.2.2
  simp only[Ip] at hy
  split at hy
  ·rename_i t hev
   simp only[ak] at hy; subst hy
   rw[hev] at he
   obtain⟨hv,_⟩:=PI he
   cases t with
   | true=>exact⟨_,by simp[execOp,hv,asBool],h1⟩
   | false=>exact⟨_,by simp[execOp,hv,asBool],h2⟩
  ·cases hy
 | load T x=>exact AHh h _ T x rfl AO2 hy
 | nilCheck x =>
  have he:=Cj h x AO2
  simp only[Ip] at hy
  split at hy
  ·rename_i l i off hev
   split at hy
   ·rename_i ob hob
    simp only[ak] at hy; subst hy
    rw[hev] at he
    obtain⟨b,cs,hb,hu,_⟩:=AAp h he hob
    exact⟨_,by simp[execOp,hu]; rfl,AOk⟩
   ·cases hy
  ·rename_i row hev
   simp only[ak] at hy; subst hy
   rw[hev] at he
   have he':=he
   simp only[AVR] at he'
   obtain⟨b,off,hu,_⟩:=he'
   exact⟨_,by simp[execOp,hu]; rfl,AOk⟩
  ·rename_i f x1 x2 hev
   simp only[ak] at hy; subst hy
   rw[hev] at he
   obtain⟨hv,hw⟩:=PI he
   exact⟨.func (.func f) x1 x2,by simp[execOp,hv],XF hw⟩
  ·cases hy
 | binOp op T x1 x2 T2 =>
  simp[Op.operands] at hc
  have h1:=Cj h x1 hc.1
  have h2:=Cj h x2 hc.2
  simp only[Ip] at hy
  split at hy
  ·rename_i p q hev1 hev2
   split at hy
   ·rename_i r hr
    simp only[ak] at hy; subst hy
    rw[hev1] at h1
    rw[hev2] at h2
    obtain⟨hv1,hw1⟩:=PI h1
    obtain⟨hv2,hw2⟩:=PI h2
    obtain⟨hrun,hwf⟩:=AFZ (P:=P) hw1 hr x1 x2 w
    refine⟨r, ?_,XF hwf⟩
    simp only[execOp,hv1,hv2]
    rw[Sem.run_bind,hrun]
    rfl
   ·cases hy
  ·rename_i cs ds hev1 hev2
   rw[hev1] at h1
   rw[hev2] at h2
   simp only[AVR] at h1 h2
   obtain⟨us,hu1,hu2,hu3⟩:=h1
   obtain⟨vs,hv1,hv2,hv3⟩:=h2
   split at hy
   ·rename_i ks hks
    split at hy
    ·rename_i r hr
     obtain⟨k1,k2⟩:=uZ (w:=w) hks hr (us:=us) (vs:=vs) (fun k x hk=>by
      obtain⟨z,hz,hc⟩:=hu3 k _ hk
      simp only[RdC,RdD] at hc
      rw[hz,hc.1]) (fun k x hk=>by
      obtain⟨z,hz,hc⟩:=hv3 k _ hk
      simp only[RdC,RdD] at hc
      rw[hz,hc.1]) x1 x2
     split at hy
     ·simp only[ak] at hy; subst hy
      refine⟨.bool r, ?_,XF rfl⟩
      simp only[execOp,hu1,hv1]
      rw[Sem.run_bind,k1]
      rfl
     ·simp only[ak] at hy; subst hy
      refine⟨.bool (!r), ?_,XF rfl⟩
      simp only[execOp,hu1,hv1]
      rw[Sem.run_bind,k2]
      rfl
     ·cases hy
    ·cases hy
   ·cases hy
  ·cases hy
 | unOp op T x =>
  have he:=Cj h x AO2
  simp only[Ip] at hy
  split at hy
  ·rename_i p hev
   split at hy
   ·rename_i r hr
    simp only[ak] at hy; subst hy
    rw[hev] at he
    obtain⟨hv,hw⟩:=PI he
    obtain⟨hrun,hwf⟩:=AHf (P:=P) hr w
    exact⟨r,by simp[execOp,hv,hrun],XF hwf⟩
   ·cases hy
  ·cases hy
 | convert src dst x =>
  have he:=Cj h x AO2
  simp only[Ip] at hy
  split at hy
  ·rename_i d1 k kd n hs1 hs2 hev
   simp only[ak] at hy; subst hy
   rw[hev] at he
   obtain⟨hv,hw⟩:=PI he
   refine⟨_, ?_,XF (v:=.int k (k.wrap n)) APC⟩
   simp[execOp,hv,convert,run_underlying hs1,run_underlying hs2,Conv.intToInt]
  ·rename_i d1 b hs1 hs2 hev
   simp only[ak] at hy; subst hy
   rw[hev] at he
   obtain⟨hv,hw⟩:=PI he
   refine⟨_, ?_,XF (v:=.string b) hw⟩
   simp[execOp,hv,convert,run_underlying hs1,run_underlying hs2]
  ·rename_i e d _ hs1 hs2 hev
   split at hy
   ·rename_i xs he1 hdx
    split at hy
    ·rename_i ns hns
     simp only[ak] at hy; subst hy
     rw[hev] at he
     simp only[AVR] at he
     obtain⟨q1,q2⟩:=kP hns
     obtain⟨ad0,cap0,e0,e1,e2⟩:=uf h he hdx
     obtain⟨ad,cap,hu,_,hcells⟩:=UN h he hdx
     have hsz:(strOfNums ns).size≤maxLen:=by rw[strOfNums_size,q1]; omega
     refine⟨.string (strOfNums ns), ?_,XF (v:=.string (strOfNums ns)) (by simp only[QZ,bf]; exact hsz)⟩
     have key:(convert src dst (a.eval x)).run P w = .ok (.string (strOfNums ns)) w:=by
      rw[hu]
      rcases hcells with rfl | ⟨b,off,rfl,hc2⟩
      ·have:ns = []:=aai q1
       subst this
       rw[hu] at e0
       cases ad with
       | none=>exact run_convert_bytes_nil w src e hs1 he1 _ _ dst hs2
       | some ad =>
        have:=run_convert_bytes_string (P:=P) w src dst e (some ad) 0 cap hs1 he1 hs2
        simp only[y7]
        rw[this,run_bytesToString w ad 0 cap [] (run_loadCells_list (P:=P) w ad [] (fun j v hj=>by simp at hj))]
        rfl
      ·refine run_convert_bytes_arg w src e hs1 he1 b off xs.length cap ns q1 (fun i hi=>?_) dst hs2
       have hin:i<ns.length:=AOh
       have hf:=q2 i ns[i] (by simp[hin])
       obtain⟨v,hv,hr⟩:=hc2 i _ hf
       have hr2:=hr.toC rfl
       simp only[RdC,RdD] at hr2
       grind
     simp only[execOp,Sem.run_bind,key,Result.andThen_ok,Sem.run_pure]
    ·cases hy
   ·cases hy
  ·cases hy
 | fieldAddr T x f=>exact ug h _ T x f rfl AO2 hy
 | field T x f=>exact AFc h _ T x f rfl AO2 hy
 | indexAddr T x ix =>
  simp[Op.operands] at hc
  grind [uh]
 | index T x ix =>
  simp[Op.operands] at hc
  grind [AFd]
 | extract x ix =>
  have he:=Cj h x AO2
  simp only[Ip] at hy
  split at hy
  ·rename_i xs hev
   rw[hev] at he
   simp only[AVR] at he
   obtain⟨us,hu,h1⟩:=he
   obtain⟨u,hu1,hu2⟩:=oP h1 ix y hy
   exact⟨u,by simp[execOp,hu,Instr.extract,hu1],hu2⟩
  ·cases hy
 | call c =>
  have hca:c.args.toList.all Au=true:=by
   exact ALo
  by_cases h1:c.callee = .builtin .len
  ·grind [AJd]
  ·by_cases h2:c.callee = .builtin .min∨c.callee = .builtin .max
   ·grind [ADv]
   ·simp only[Ip] at hy
    grind
 | _=>simp[Ip] at hy
theorem oV {l:Nat} {u:Value} {st:List Ob} (h:BN w st β l u):l<st.length:=by
 unfold BN at h
 grind
theorem zB {l i off:Nat} {u:Value} {st:List Ob} (h:AVR w St st β (.lp l i off) u):l<st.length:=by
 simp only[AVR] at h
 grind
theorem Core.newObB (h:Core w0 St0 St β s a w) {w':World} (hb:Below w.heap.size w w') (ob:Ob) (ob':Option Nat) (hwr:ob.live=true)
  (hnone:ob'=none→ob.xs = []) (hsome:∀ b,ob'=some b→w.heap.size≤b∧b<w'.heap.size∧∃ cs:Array Value,w'.heap[b]?=some (.cells cs ob.ty (0,0))∧(∀ x∈ob.xs,x.length=ob.sz) ∧
   ∀ (k:Nat) (c:Cl),ob.xs.flatten[k]?=some c→∃ u,cs[k]?=some u∧RdB w St s.st β c u)
  (hown:Own w0 (fun _=>False) w' St (s.st ++ [ob]) (fun l=>if l=s.st.length then ob' else β l)) :
  ∃ β',Core w0 St0 St β' ⟨s.n,s.env,s.st ++ [ob]⟩ a w'∧β' s.st.length=ob'∧(∀ x u,AVR w St s.st β x u→AVR w' St (s.st ++ [ob]) β' x u)∧(∀ x u,RdC w St s.st β x u→RdC w' St (s.st ++ [ob]) β' x u):=by
 refine⟨fun l=>if l=s.st.length then ob' else β l, ?_⟩
 have hw0:w0.heap.size≤w.heap.size:=h.below.size
 have hblk:∀ k,k<w.heap.size→w'.heap[k]?=w.heap[k]?:=hb.block
 have hcell:∀ b o,St b o→w'.cell? ⟨b,o,none⟩=w.cell? ⟨b,o,none⟩:=fun b o hbo=>cell_of_block (hblk b (h.stIn b o hbo))
 have hold:∀ l,l<s.st.length→(s.st ++ [ob])[l]?=s.st[l]?:=fun l hl=>AOk
 have hr:∀ l u,BN w s.st β l u→BN w' (s.st ++ [ob]) (fun l=>if l=s.st.length then ob' else β l) l u:=by
  intro l u hu
  have hl:=oV hu
  unfold BN at hu ⊢
  rw[hold l hl]
  have hne:¬ l=s.st.length:=AOh
  simp only[hne,aW]
  exact ANI
 have hp:∀ l i off u,AVR w St s.st β (.lp l i off) u→AVR w' St (s.st ++ [ob]) (fun l=>if l=s.st.length then ob' else β l) (.lp l i off) u:=by
  exact AM8
 have hA:∀ x u,AVR w St s.st β x u→AVR w' St (s.st ++ [ob]) (fun l=>if l=s.st.length then ob' else β l) x u:=fun x u hx=>AVR.mono (fun _ _ h=>h) hcell hr hp x u hx
 have hC:∀ x u,RdC w St s.st β x u→RdC w' St (s.st ++ [ob]) (fun l=>if l=s.st.length then ob' else β l) x u:=fun x u hx=>RdC.mono (fun _ _ h=>h) hcell hr x u hx
 have hBB:∀ x u,RdB w St s.st β x u→RdB w' St (s.st ++ [ob]) (fun l=>if l=s.st.length then ob' else β l) x u:=fun x u hx=>RdB.mono (fun _ _ h=>h) hcell hr x u hx
 have hsplit:∀ l o2,(s.st ++ [ob])[l]?=some o2→(l<s.st.length∧s.st[l]?=some o2)∨(l=s.st.length∧o2=ob):=by
  exact AOV
 refine⟨?_,AOi,hA,hC⟩
 exact {
  defers:=h.defers
  size:=h.size
  lim:=h.lim
  env:=fun i=>hA _ _ (h.env i)
  below:=h.below.grow hb
  st0:=h.st0
  stOld:=h.stOld
  stIn:=fun b o hbo=>bP (h.stIn b o hbo) hb.size
  obs:=fun l o2 b hl hlive hβ=>by
   rcases hsplit l o2 hl with ⟨h1,h2⟩ | ⟨rfl,rfl⟩
   ·have hne:¬ l=s.st.length:=by omega
    simp only[hne,aW] at hβ
    obtain⟨q1,q2,q3⟩:=h.obs l o2 b h2 hlive hβ
    refine⟨q1,bP q2 hb.size, ?_⟩
    obtain⟨cs,g1,g2,g3⟩:=q3
    refine⟨cs,AOk,g2,fun k c hk=>?_⟩
    grind
   ·simp only[aX] at hβ
    obtain⟨q1,q2,cs,g1,g2,g3⟩:=hsome b hβ
    refine⟨.inl (Nat.le_trans hw0 q1),q2,cs,g1,g2,fun k c hk=>?_⟩
    grind
  nil:=fun l o2 hl hlive hβ=>by
   exact AMY
  inj:=fun l1 l2 o1 o2 b h1 h2 h3 h4 h5 h6=>by
   rcases hsplit l1 o1 h1 with ⟨p1,p2⟩ | ⟨rfl,rfl⟩<;>rcases hsplit l2 o2 h2 with ⟨q1,q2⟩ | ⟨rfl,rfl⟩
   ·exact AMa
   ·have e1:¬ l1=s.st.length:=by omega
    simp only[e1,aW,aX] at h5 h6
    have:=(h.obs l1 o1 b p2 h3 h5).2.1
    grind
   ·have e1:¬ l2=s.st.length:=by omega
    simp only[e1,aW,aX] at h5 h6
    have:=(h.obs l2 o2 b q2 h4 h6).2.1
    grind
   ·rfl
  sep:=fun l o2 b o hl hlive hβ hbo=>by
   rcases hsplit l o2 hl with ⟨h1,h2⟩ | ⟨rfl,rfl⟩
   ·exact ANR
   ·simp only[aX] at hβ
    have:=(hsome b hβ).1
    have:=h.stIn b o hbo
    omega
  own:=hown }
theorem Core.newOb (h:Core w0 St0 St β s a w) {w':World} (hb:Below w.heap.size w w') (ob:Ob) (ob':Option Nat) (hwr:ob.live=true)
  (hnone:ob'=none→ob.xs = []) (hsome:∀ b,ob'=some b→w.heap.size≤b∧b<w'.heap.size∧∃ cs:Array Value,w'.heap[b]?=some (.cells cs ob.ty (0,0))∧(∀ x∈ob.xs,x.length=ob.sz) ∧
   ∀ (k:Nat) (c:Cl),ob.xs.flatten[k]?=some c→∃ u,cs[k]?=some u∧RdC w St s.st β c u) :
  ∃ β',Core w0 St0 St β' ⟨s.n,s.env,s.st ++ [ob]⟩ a w'∧β' s.st.length=ob'∧(∀ x u,AVR w St s.st β x u→AVR w' St (s.st ++ [ob]) β' x u)∧(∀ x u,RdC w St s.st β x u→RdC w' St (s.st ++ [ob]) β' x u):=by
 refine h.newObB hb ob ob' hwr hnone (fun b hb'=>?_) ?_
 ·obtain⟨q1,q2,cs,g1,g2,g3⟩:=hsome b hb'
  refine⟨q1,q2,cs,g1,g2,fun k c hk=>?_⟩
  obtain⟨u,hu,hc⟩:=g3 k c hk
  exact⟨u,hu,hc.toB⟩
 ·refine h.own.move id (fun x hx=>⟨⟨hx.1,fun h=>h,bP hx.2.2.1 hb.size,hx.2.2.2.1,fun l o2 hl hlv=>?_⟩,hb.block x hx.2.2.1⟩) (fun _ _ h=>h)
   (fun b o hbo=>cell_of_block (hb.block b (h.stIn b o hbo))) (fun l o2 b k c hl hlive hβ hk hc=>?_) (fun _ _ _ _ _ _ _ _ e=>e)
  ·by_cases e:l=s.st.length
   ·simp only[e,aX]
    intro hb'
    have:=(hsome x hb').1
    have:=hx.2.2.1
    omega
   ·simp only[e,aW]
    have hlt:l<s.st.length:=by
     exact AOW
    rw[bG hlt] at hl
    exact hx.2.2.2.2 l o2 hl hlv
  ·by_cases e:l=s.st.length
   ·subst e
    rw[aY (aT _)] at hl
    simp only[jP,aQ,ak] at hl
    subst hl
    simp only[aX] at hβ
    obtain⟨_,_,cs,_,_,g3⟩:=hsome b hβ
    obtain⟨u,_,hr⟩:=g3 k c hk
    rw[hr.notOw] at hc
    cases hc
   ·simp only[e,aW] at hβ
    have hlt:l<s.st.length:=by
     exact AOW
    rw[bG hlt] at hl
    exact⟨o2,b,hl,hlive,hβ,hk,cell_of_block (hb.block b (h.obs l o2 b hl hlive hβ).2.1)⟩
theorem YI (w:World) (o:Obj):Below w.heap.size w (w.alloc o):=(Below.refl _ _).alloc (aT _) o
theorem alloc_at (w:World) (o:Obj):(w.alloc o).heap[w.heap.size]?=some o:=by
 show (w.heap.push o)[w.heap.size]?=_
 simp
theorem Core.newCells (h:Core w0 St0 St β s a w) (ty:TypeId) (sz:Nat) (xs:List (List Cl)) (cs:Array Value) (hl:∀ x∈xs,x.length=sz)
  (hc:∀ (k:Nat) (c:Cl),xs.flatten[k]?=some c→∃ u,cs[k]?=some u∧RdC w St s.st β c u) :
  ∃ β',Core w0 St0 St β' ⟨s.n,s.env,s.st ++ [⟨ty,sz,xs,true,true⟩]⟩ a (w.alloc (.cells cs ty))∧β' s.st.length=some w.heap.size∧(∀ x u,AVR w St s.st β x u→AVR (w.alloc (.cells cs ty)) St (s.st ++ [⟨ty,sz,xs,true,true⟩]) β' x u):=by
 obtain⟨β',h1,h2,h3,_⟩:=h.newOb (YI w (.cells cs ty)) ⟨ty,sz,xs,true,true⟩ (some w.heap.size) rfl AOi (fun b hb=>by
  grind [ak,alloc_at])
 grind
def Does (P:Program) (a:Act) (w:World) (w0:Bs) (St0:Nat→Nat→Prop) (s:MS) (o:Oper) (y:AV) (st':List Ob):Prop:=
 ∃ nx v w' St' β',(execOp a.eval o).run P w = .ok nx w'∧(nx = .value v∨(nx = .skip∧v=Go.undef))∧Core w0 St0 St' β' ⟨s.n,s.env,st'⟩ a w'∧AVR w' St' st' β' y v
def P9 (P:Program) (s:MS) (T:TypeId):Option (AV×List Ob):=match VQ P T with
 | some cs=>some (.lp s.st.length 0 0,s.st ++ [⟨T,cs.length,[cs],true,true⟩])
 | none=>none
def ADw (s:MS) (T:TypeId) (x:AV):Option (AV×List Ob):=match cellsA x with
 | some cs=>some (.lp s.st.length 0 0,s.st ++ [⟨T,cs.length,[cs],true,true⟩])
 | none=>none
def dQ (P:Program) (s:MS) (T:TypeId) (p x:AV):Option (AV×List Ob):=match Ae P T,p,cellsA x with
 | some n,.lp l i off,some cs=>match DT s.st l with
  | some ob=>if ob.wr=true∧cs.length=n then match ob.xs[i]? with
   | some row=>if off+n≤row.length then some (.undef,s.st.set l { ob with xs:=ob.xs.set i (row.take off++(cs++row.drop (off+n))) }) else none
   | none=>none
   else none
  | none=>none
 | _,_,_=>none
theorem ADx (h:Core w0 St0 St β s a w) (o:Oper) (T:TypeId) (ho:o.op = .alloc T) {y:AV} {st':List Ob} (hy:P9 P s T=some (y,st')):Does P a w w0 St0 s o y st':=by
 unfold P9 at hy
 split at hy
 ·rename_i cs0 hz0
  ·obtain⟨zs,hz,hwf,rfl⟩:=Q4 hz0
   simp only[ak,bK] at hy
   obtain⟨rfl,rfl⟩:=hy
   obtain⟨z,hz1,hz2⟩:=VS hz w
   obtain⟨β',h1,h2,_⟩:=h.newCells T (zs.map Cl.v).length [zs.map .v] z.cells AOi (fun k c hk=>by
    simp only[dm,aaH,bI,qp,yx] at hk
    obtain⟨v,hv,rfl⟩:=hk
    refine⟨v,AOk, ?_⟩
    simp only[RdC,RdD,true_and]
    exact aP.1 hwf v (bF hv))
   refine⟨_,.pointer (some ⟨w.heap.size,0,none⟩),_,St,β', ?_,.inl rfl,h1, ?_⟩
   ·simp[execOp,ho,Instr.alloc,hz1,newVar,newRow]
   ·simp[AVR,h2]
 ·cases hy
theorem AHi (h:Core w0 St0 St β s a w) (o:Oper) (T:TypeId) (x:Operand) (ho:o.op = .box T x) (hc:Au x=true) {y:AV} {st':List Ob} (hy:ADw s T (Ew s x)=some (y,st')):Does P a w w0 St0 s o y st':=by
 have he:=Cj h x hc
 unfold ADw at hy
 split at hy
 ·rename_i cs hcs
  simp only[ak,bK] at hy
  obtain⟨rfl,rfl⟩:=hy
  obtain⟨q1,q2⟩:=Sv he hcs
  obtain⟨β',h1,h2,_⟩:=h.newCells T cs.length [cs] (a.eval x).cells AOi (fun k c hk=>by
   grind)
  refine⟨_,.pointer (some ⟨w.heap.size,0,none⟩),_,St,β', ?_,.inl rfl,h1, ?_⟩
  ·simp[execOp,ho,Instr.box,newVar,newRow]
  ·simp[AVR,h2]
 ·cases hy
theorem Core.write (h:Core w0 St0 St β s a w) {l:Nat} {ob:Ob} (hob:DT s.st l=some ob) (hwr:ob.wr=true) {b:Nat} (hb:β l=some b) (xs':List (List Cl)) (hlen:xs'.length=ob.xs.length) (hsz:∀ x∈xs',x.length=ob.sz)
  {cs cs':Array Value} (hcs:w.heap[b]?=some (.cells cs ob.ty (0,0))) (hsize:cs'.size=cs.size) (hc:∀ (k:Nat) (c:Cl),xs'.flatten[k]?=some c→∃ u,cs'[k]?=some u∧RdB w St s.st β c u)
  (how:∀ (k:Nat) (c:Cl),xs'.flatten[k]?=some c→Gi c=true→ob.xs.flatten[k]?=some c∧cs'[k]?=cs[k]?) :
  Core w0 St0 St β ⟨s.n,s.env,s.st.set l { ob with xs:=xs' }⟩ a (w.setRow b cs'):=by
 obtain⟨hl,hlive⟩:=CS hob
 obtain⟨hB,hlt,_⟩:=h.obs l ob b hl hlive hb
 have hnew:(w.setRow b cs').heap[b]?=some (.cells cs' ob.ty (0,0)):=setRow_heap w b cs cs' ob.ty (0,0) hcs
 have hoth:∀ k,k≠b→(w.setRow b cs').heap[k]?=w.heap[k]?:=fun k hk=>setRow_other w b k cs' hk
 have hbelow:BelowB w0 (w.setRow b cs'):=h.below.step (n:=0) ⟨rfl,rfl,rfl,by simp_all,fun k hk=>absurd hk (Nat.not_lt_zero _)⟩ (fun k h1 h2=>hoth k fun e=>by
  subst e
  rcases hB with h' | h'
  ·omega
  grind) fun k hk=>by
  grind [y8,oN]
 have hcell:∀ b' o,St b' o→(w.setRow b cs').cell? ⟨b',o,none⟩=w.cell? ⟨b',o,none⟩:=fun b' o hbo=>by
  have hne:b'≠b:=fun e=>by
   subst e
   have:=(h.sep l ob b' o hl hlive hb hbo).1
   grind
  grind [cell_of_block]
 have hll:l<s.st.length:=(aF.1 hl).1
 have hget:∀ l',(s.st.set l { ob with xs:=xs' })[l']?=if l=l' then some { ob with xs:=xs' } else s.st[l']?:=fun l'=>by
  grind
 have hr:∀ l' u,BN w s.st β l' u→BN (w.setRow b cs') (s.st.set l { ob with xs:=xs' }) β l' u:=by
  intro l' u hu
  unfold BN at hu ⊢
  rw[hget l']
  by_cases e:l=l'
  ·grind
  ·simp only[e,aW]
   exact AMT
 have hp:∀ l' i off u,AVR w St s.st β (.lp l' i off) u→AVR (w.setRow b cs') St (s.st.set l { ob with xs:=xs' }) β (.lp l' i off) u:=by
  intro l' i off u hu
  simp only[AVR,hget l'] at hu ⊢
  exact ANk
 have hC:∀ x u,RdC w St s.st β x u→RdC (w.setRow b cs') St (s.st.set l { ob with xs:=xs' }) β x u:=fun x u hx=>RdC.mono (fun _ _ h=>h) hcell hr x u hx
 have hBB:∀ x u,RdB w St s.st β x u→RdB (w.setRow b cs') St (s.st.set l { ob with xs:=xs' }) β x u:=fun x u hx=>RdB.mono (fun _ _ h=>h) hcell hr x u hx
 have hsp:∀ l' o2,(s.st.set l { ob with xs:=xs' })[l']?=some o2→∃ o3,s.st[l']?=some o3∧o2.live=o3.live∧o2.wr=o3.wr∧o2.sz=o3.sz∧o2.ty=o3.ty∧o2.xs.length=o3.xs.length∧(l≠l'→o2=o3)∧(l=l'→o3=ob∧o2.xs=xs'):=by
  intro l' o2 h2
  rw[hget l'] at h2
  exact ANk
 exact {
  defers:=h.defers
  size:=h.size
  lim:=h.lim
  env:=fun i=>AVR.mono (fun _ _ h=>h) hcell hr hp _ _ (h.env i)
  below:=hbelow
  st0:=h.st0
  stOld:=h.stOld
  stIn:=fun b' o hbo=>by simpa [World.setRow] using h.stIn b' o hbo
  obs:=fun l' o2 b2 hl2 hlive2 hβ=>by
   obtain⟨o3,r1,r2,r3,r4,r5,r6,r7,r8⟩:=hsp l' o2 hl2
   obtain⟨q1,q2,cs2,g1,g2,g3⟩:=h.obs l' o3 b2 r1 AOk hβ
   refine⟨q1,AOk, ?_⟩
   by_cases e:l=l'
   ·obtain⟨e1,e2⟩:=r8 e
    subst e
    have:b2=b:=by rw[hb] at hβ; exact(uV hβ).symm
    subst this
    refine⟨cs',AOk,AOk,fun k c hk=>?_⟩
    grind
   ·have:=r7 e
    subst this
    have hne:b2≠b:=fun e2=>by subst e2; exact e (h.inj l l' ob o2 b2 hl r1 hlive hlive2 hb hβ)
    refine⟨cs2,AOk,g2,fun k c hk=>?_⟩
    grind
  nil:=fun l' o2 hl2 hlive2 hβ=>by
   obtain⟨o3,r1,r2,r3,r4,r5,r6,r7,r8⟩:=hsp l' o2 hl2
   have:=h.nil l' o3 r1 AOk hβ
   grind
  inj:=fun l1 l2 o1 o2 b' h1 h2 h3 h4 h5 h6=>by
   obtain⟨p1,q1,r1,_⟩:=hsp l1 o1 h1
   obtain⟨p2,q2,r2,_⟩:=hsp l2 o2 h2
   exact h.inj l1 l2 p1 p2 b' q1 q2 AOk AOk h5 h6
  sep:=fun l' o2 b' o hl2 hlive2 hβ hbo=>by
   obtain⟨o3,r1,r2,r3,r4,r5,r6,r7,r8⟩:=hsp l' o2 hl2
   have:=h.sep l' o3 b' o r1 AOk hβ hbo
   grind
  own:=by
   refine h.own.move id (fun x hx=>?_) (fun _ _ h=>h) hcell (fun l' o2 b2 k c hl2 hlive2 hβ hk hcw=>?_) (fun _ _ _ _ _ _ _ _ e=>e)
   ·have hxb:x≠b:=fun e=>hx.2.2.2.2 l ob hl hlive (by rw[hb,e])
    exact⟨⟨hx.1,fun h=>h,by simpa [World.setRow] using hx.2.2.1,hx.2.2.2.1,fun l' o2 hl' hlv=>by
     obtain⟨o3,r1,r2,_⟩:=hsp l' o2 hl'
     exact hx.2.2.2.2 l' o3 r1 AOk⟩,hoth x hxb⟩
   ·obtain⟨o3,r1,r2,r3,r4,r5,r6,r7,r8⟩:=hsp l' o2 hl2
    by_cases e:l=l'
    ·obtain⟨e1,e2⟩:=r8 e
     subst e
     have eb:b2=b:=by rw[hb] at hβ; exact(uV hβ).symm
     subst eb
     rw[e2] at hk
     obtain⟨g1,g2⟩:=how k c hk hcw
     refine⟨ob,b2,hl,hlive,hb,g1, ?_⟩
     simp[World.cell?,hnew,hcs,g2]
    ·have:=r7 e
     subst this
     have hne:b2≠b:=fun e2=>by subst e2; exact e (h.inj l l' ob o2 b2 hl r1 hlive hlive2 hb hβ)
     grind [cell_of_block] }
theorem Q7 {xs:List (List Cl)} {sz i off n:Nat} {row cs:List Cl} (hl:∀ x∈xs,x.length=sz) (hi:xs[i]?=some row) (hle:off+n≤row.length) :
  (xs.set i (row.take off++(cs++row.drop (off+n)))).flatten=xs.flatten.take (i*sz+off)++(cs++xs.flatten.drop (i*sz+(off+n))):=by
 have hil:i<xs.length:=(aF.1 hi).1
 have hx:xs=xs.take i++row::xs.drop (i+1):=by
  have:row=xs[i]:=by rw[au hil] at hi; exact(uV hi).symm
  rw[this,← aG hil,List.take_append_drop]
 have hA:(xs.take i).flatten.length=i*sz:=by
  rw[Eb (sz:=sz) (fun x hx=>hl x (aar hx)),bz,dO AOh]
 have hF:xs.flatten=(xs.take i).flatten++(row++(xs.drop (i+1)).flatten):=by
  conv=>lhs; rw[hx]
  simp
 rw[List.set_eq_take_append_cons_drop,bu hil]
 grind [aaF,dm,bM,List.take_length_add_append,List.drop_length_add_append]
theorem YJ {R:Cl→Value→Prop} {F cs:List Cl} {C vs:List Value} {p n:Nat} (hC:∀ (k:Nat) (c:Cl),F[k]?=some c→∃ u,C[k]?=some u∧R c u) (hp:p+n≤F.length) (hcl:cs.length=n) (hvl:vs.length=n)
  (hcs:∀ (k:Nat) (c:Cl),cs[k]?=some c→∃ u,vs[k]?=some u∧R c u) (hFC:F.length≤C.length) :
  ∀ (k:Nat) (c:Cl),(F.take p++(cs++F.drop (p+n)))[k]?=some c→∃ u,(C.take p++(vs++C.drop (p+n)))[k]?=some u∧R c u:=by
 grind
theorem ADy {F cs:List Cl} {C vs:List Value} {p n:Nat} (hp:p+n≤F.length) (hcl:cs.length=n) (hvl:vs.length=n) (hFC:F.length≤C.length) (hno:∀ (k:Nat) (c:Cl),cs[k]?=some c→Gi c=false) :
  ∀ (k:Nat) (c:Cl),(F.take p++(cs++F.drop (p+n)))[k]?=some c→Gi c=true→F[k]?=some c∧(C.take p++(vs++C.drop (p+n)))[k]?=C[k]?:=by
 intro k c hk hc
 have l1:(F.take p).length=p:=AOj
 grind
theorem MZ {R:Cl→Value→Prop} {F:List Cl} {C:List Value} (hC:∀ (k:Nat) (c:Cl),F[k]?=some c→∃ u,C[k]?=some u∧R c u):F.length≤C.length:=by
 rcases bQ C.length F.length with h | h
 ·obtain⟨u,hu,_⟩:=hC C.length _ (au h)
  simp at hu
 ·exact h
theorem ADz (h:Core w0 St0 St β s a w) (o:Oper) (T:TypeId) (p x:Operand) (ho:o.op = .store T p x) (hc:Au p=true) (hc2:Au x=true) {y:AV} {st':List Ob} (hy:dQ P s T (Ew s p) (Ew s x)=some (y,st')):Does P a w w0 St0 s o y st':=by
 have hp:=Cj h p hc
 have hx:=Cj h x hc2
 unfold dQ at hy
 split at hy
 ·rename_i n l i off cs hs hev hcs
  split at hy
  ·rename_i ob hob
   split at hy
   ·rename_i hwl
    obtain⟨hwr,hcl⟩:=hwl
    split at hy
    ·rename_i row hrow
     split at hy
     ·rename_i hle
      simp only[ak,bK] at hy
      obtain⟨rfl,rfl⟩:=hy
      rw[hev] at hp
      obtain⟨b,C,hb,hu,g1,g2,g3⟩:=AAp h hp hob
      obtain⟨q1,q2⟩:=Sv hx hcs
      have hrl:row.length=ob.sz:=g2 row (bF hrow)
      have hil:i<ob.xs.length:=(aF.1 hrow).1
      have hFl:ob.xs.flatten.length=ob.xs.length*ob.sz:=Eb g2
      have g3':∀ (k:Nat) (c:Cl),ob.xs.flatten[k]?=some c→∃ u,C.toList[k]?=some u∧RdB w St s.st β c u:=fun k c hk=>AOk
      have hFC:=MZ g3'
      have hpos:i*ob.sz+(off+n)≤ob.xs.flatten.length:=by
       rw[hFl]
       have:(i+1)*ob.sz≤ob.xs.length*ob.sz:=aaw _ hil
       rw[jH] at this; omega
      have hvl:(a.eval x).cells.toList.length=n:=by rw[q1,hcl]
      have h1:∀ v∈(a.eval x).cells.toList,v.oneCell'=true:=fun v hv=>by
       obtain⟨k,hk1,hk2⟩:=aay hv
       have hkc:k<cs.length:=by rw[← q1]; exact hk1
       obtain⟨u,hu1,hu2⟩:=q2 k _ (au hkc)
       rw[au hk1] at hu1
       simp only[ak] at hu1
       rw[← hk2,hu1]; exact hu2.one
      have hrun:=run_storeCells_at P b (i*ob.sz+off) ob.ty (a.eval x).cells.toList 0 C w g1 (by
       grind) h1
      simp only[abJ,hvl] at hrun
      have hasz:(a.eval x).cells.size=n:=by simpa using hvl
      refine⟨.skip,Go.undef,_,St,β, ?_,.inr ⟨rfl,rfl⟩,h.write hob hwr hb (ob.xs.set i (row.take off++(cs++row.drop (off+n)))) AOi ?_ g1 (cs':=(C.toList.take (i*ob.sz+off)++(a.eval x).cells.toList++C.toList.drop (i*ob.sz+off+n)).toArray) ?_ ?_ ?_, ?_⟩
      ·simp[execOp,ho,hu,Instr.storeAt,Instr.sureAddr,storeVar,Ig hs,hasz,hrun]
      ·grind
      ·grind
      ·intro k c hk
       rw[Q7 g2 hrow hle] at hk
       have:=YJ g3' (p:=i*ob.sz+off) (n:=n) AOh hcl hvl (fun k c hk=>by obtain⟨u,hu1,hu2⟩:=q2 k c hk; exact⟨u,hu1,hu2.toB⟩) hFC k c AOk
       grind
      ·intro k c hk how
       rw[Q7 g2 hrow hle] at hk
       have:=ADy (C:=C.toList) (vs:=(a.eval x).cells.toList) (p:=i*ob.sz+off) (n:=n) AOh hcl hvl hFC (fun k c hk=>by obtain⟨u,_,hu2⟩:=q2 k c hk; exact hu2.notOw) k c AOk how
       grind
      ·simp only[AVR]
     ·cases hy
    ·cases hy
   ·cases hy
  ·cases hy
 ·cases hy
def Ey (P:Program) (t:TypeId):Option Nat:=(P.info? t).map (·.bytes)
def ui (P:Program) (s:MS) (T:TypeId) (l c:AV):Option (AV×List Ob):=match EO P T with
 | some e=>match Ae P e,VQ P e,Ey P e with
  | some n,some cs,some by'=>match l,c with
   | .c (.v (.int .i64 nl)),.c (.v (.int .i64 nc))=>if cs.length=n∧0<n∧by'≤65536∧0≤nl∧nl≤nc∧nc≤2147483648
    then some (.c (.ref s.st.length),s.st ++ [⟨e,n,List.replicate nl.toNat cs,true,true⟩]) else none
   | _,_=>none
  | _,_,_=>none
 | none=>none
theorem oW (zs:Array Value) (n k:Nat) (hk:k<n) (hz:0<zs.size):(madeCells zs n)[k]?=zs[k%zs.size]?:=by
 have hm:k%zs.size<zs.size:=Nat.mod_lt _ hz
 simp[madeCells,hk,hm]
theorem Q8 {z:List Cl} {n:Nat} {k:Nat} {c:Cl} (hz:0<z.length) (h:(List.replicate n z).flatten[k]?=some c):z[k%z.length]?=some c∧k<n*z.length:=by
 have hl:∀ x∈List.replicate n z,x.length=z.length:=fun x hx=>AOk
 have hlen:=Eb hl
 have hk:k<n*z.length:=by
  rcases bQ k (n*z.length) with h' | h'
  ·exact h'
  ·grind
 refine⟨?_,hk⟩
 have hi:k/z.length<n:=Nat.div_lt_of_lt_mul AOk
 have hj:k%z.length<z.length:=Nat.mod_lt _ hz
 have:=FZ hl (k/z.length) (k%z.length) z _ AP_ (au hj)
 grind [Nat.mul_comm,Nat.div_add_mod,au]
theorem AFe (h:Core w0 St0 St β s a w) (o:Oper) (T:TypeId) (l c:Operand) (ho:o.op = .makeSlice T l c) (hc:Au l=true) (hc2:Au c=true) {y:AV} {st':List Ob} (hy:ui P s T (Ew s l) (Ew s c)=some (y,st')):Does P a w w0 St0 s o y st':=by
 have hl:=Cj h l hc
 have hcc:=Cj h c hc2
 unfold ui at hy
 split at hy
 ·rename_i e hte
  have ht:=NJ hte
  split at hy
  ·rename_i n cs0 by' hs hz0 hb
   obtain⟨zs,hz,hwf,rfl⟩:=Q4 hz0
   split at hy
   ·rename_i nl nc hev1 hev2
    split at hy
    ·rename_i hcond
     obtain⟨hzl0,hn,hby,h0,h1,h2⟩:=hcond
     have hzl:zs.length=n:=AP5
     simp only[ak,bK] at hy
     obtain⟨rfl,rfl⟩:=hy
     rw[hev1] at hl
     rw[hev2] at hcc
     obtain⟨hv1,_⟩:=PI hl
     obtain⟨hv2,_⟩:=PI hcc
     unfold Ae at hs
     unfold Q3 at hz
     unfold Ey at hb
     cases hi:P.info? e with
     | none=>grind
     | some i =>
      cases hiz:i.zero with
      | none=>grind
      | some z =>
       simp[hi] at hs hb
       simp[hi,hiz] at hz
       have hzs:z.cells.size=n:=by rw[← hzl,← hz]; simp
       have hrun:=run_make (P:=P) w T e i z ht hi hiz .i64 .i64 nl nc h0 h1 (by rw[hb]; have:(by':Int)*nc≤65536*2147483648:=Int.mul_le_mul AOh h2 AOh AOh; omega) AOh
       have hmc:(madeCells z.cells (nc.toNat*i.size)).size=nc.toNat*i.size:=size_madeCells _ _
       obtain⟨β',q1,q2,q3⟩:=h.newCells e n (List.replicate nl.toNat (zs.map .v)) (madeCells z.cells (nc.toNat*i.size)) (fun x hx=>AOk) (fun k cl hk=>by
        have hzl':(zs.map Cl.v).length=n:=by simpa using hzl
        obtain⟨r1,r2⟩:=Q8 AOh hk
        rw[hzl'] at r1 r2
        simp only[qp,yx] at r1
        obtain⟨v,hv,rfl⟩:=r1
        have hkn:k<nc.toNat*i.size:=by
         rw[hs]
         exact bP r2 (aaw _ AOh)
        refine⟨v, ?_, ?_⟩
        ·grind [oW]
        ·simp only[RdC,RdD,true_and]
         exact aP.1 hwf v (bF hv))
       refine⟨_,.slice (some ⟨w.heap.size,0,none⟩) nl.toNat nc.toNat,_,St,β', ?_,.inl rfl,q1, ?_⟩
       ·simp[execOp,ho,hv1,hv2,hrun]
       ·simp only[AVR,RdC,BN]
        rw[aY (aT _)]
        simp only[jP,aQ,q2]
        refine⟨rfl,fun _=>⟨nc.toNat,_, ?_, ?_, ?_,alloc_at w _, ?_⟩⟩
        ·simp
        ·simp; omega
        ·simp only[maxLen]; omega
        grind
    ·cases hy
   ·cases hy
  ·cases hy
 ·cases hy
theorem foldl_set:∀ (vs:List Value) (off k:Nat) (A:Array Value),off+k+vs.length≤A.size →
  (vs.zipIdx k).foldl (fun cs (x:Value×Nat)=>cs.setIfInBounds (off+x.2) x.1) A=(A.toList.take (off+k)++vs++A.toList.drop (off+k+vs.length)).toArray
 | [],off,k,A,_=>AOi
 | v::vs,off,k,A,h=>by
  simp only[df] at h
  simp only[List.zipIdx_cons,abC]
  rw[foldl_set vs off (k+1) (A.setIfInBounds (off+k) v) AOj]
  congr 1
  have:=list_seg_step A.toList (off+k) v vs AOj
  simp only[Array.toList_setIfInBounds]
  rw[show off+(k+1)=off+k+1 from AOh,this]
  simp
theorem kQ (place:Nat→Option (Nat×Nat)) (A:Array Value) (i off size:Nat) (v:Value) (rest:List (Nat×Value)) (hp:place i=some (off,size)) (hv:v.cells.size=size) (hle:off+size≤A.size) :
  Instr.fill place A ((i,v)::rest)=Instr.fill place (A.toList.take off++(v.cells.toList++A.toList.drop (off+size))).toArray rest:=by
 have h1:¬ ((decide (v.cells.size≠size)||decide (off+v.cells.size>A.size))=true):=AOj
 have hfl:=foldl_set v.cells.toList off 0 A AOj
 simp only[abJ] at hfl
 have e:v.cells.zipIdx.foldl (fun cs (x:Value×Nat)=>cs.setIfInBounds (off+x.2) x.1) A=(A.toList.take off++(v.cells.toList++A.toList.drop (off+size))).toArray:=by
  rw[← Array.foldl_toList]
  rw[Array.toList_zipIdx,hfl]
  simp[hv]
 simp only[Instr.fill,hp]
 rw[aZ h1]
 exact congrArg (fun B=>Instr.fill place B rest) e
def Ih (s:MS) (ps:List (Nat×Operand)):List (Nat×AV):=match ps with
 | []=>[]
 | p::r=>(p.1,Ew s p.2)::Ih s r
def VU:List (Nat×AV)→Nat→Nat→Option (List (List Cl))
 | [],_,_=>some []
 | (i,x)::r,k,n=>match cellsA x,VU r (k+1) n with
  | some cs,some rs=>if i=k∧cs.length=n then some (cs::rs) else none
  | _,_=>none
def kR (P:Program) (T:TypeId) (F:List Cl):List (Nat×AV)→Option (List Cl)
 | []=>some F
 | (i,x)::r=>match AC P T i,cellsA x with
  | some (off,ft),some cs=>match Ae P ft with
   | some n=>if cs.length=n∧off+n≤F.length then kR P T (F.take off++(cs++F.drop (off+n))) r else none
   | none=>none
  | _,_=>none
theorem kS (n:Nat) {st:List Ob} (hn:0<n):∀ (ps:List (Nat×AV)) (vs:List (Nat×Value)) (k:Nat) (rows:List (List Cl)) (A:Array Value),
  vs.length=ps.length→(∀ (j:Nat) (p:Nat×AV),ps[j]?=some p→∃ q:Nat×Value,vs[j]?=some q∧q.1=p.1∧AVR w St st β p.2 q.2)→VU ps k n=some rows→(k+ps.length)*n≤A.size →
  ∃ B:Array Value,Instr.fill (fun i=>some (i*n,n)) A vs=some B∧B.size=A.size∧(∀ j,j<k*n→B[j]?=A[j]?)∧(∀ j,(k+ps.length)*n≤j→B[j]?=A[j]?) ∧
   ∀ (j:Nat) (c:Cl),rows.flatten[j]?=some c→∃ u,B[k*n+j]?=some u∧RdC w St st β c u
 | [],vs,k,rows,A,hl,_,hr,_=>by
  simp only[VU,ak] at hr
  subst hr
  have:vs = []:=aai APR
  subst this
  exact⟨A,rfl,rfl,fun _ _=>rfl,fun _ _=>rfl,fun j c hj=>by simp at hj⟩
 | (i,x)::ps,vs,k,rows,A,hl,hvs,hr,hA=>by
  cases vs with
  | nil=>simp at hl
  | cons v vs =>
   obtain⟨q,hq1,hq2,hq3⟩:=hvs 0 (i,x) rfl
   simp only[aQ,ak] at hq1
   subst hq1
   simp only[VU] at hr
   split at hr
   ·rename_i cs rs hcs hrs
    split at hr
    ·rename_i hik
     obtain⟨hik,hcl⟩:=hik
     simp only[ak] at hr
     subst hr
     subst hik
     obtain⟨c1,c2⟩:=Sv hq3 hcs
     obtain⟨vi,vv⟩:=v
     simp only at hq2 hq3 c1 c2
     subst hq2
     have hvsz:vv.cells.size=n:=by
      have:vv.cells.toList.length=vv.cells.size:=AOi
      omega
     simp only[df] at hA
     have hA':vi*n+n≤A.size:=by
      exact AOH
     have hsz:(A.toList.take (vi*n)++(vv.cells.toList++A.toList.drop (vi*n+n))).toArray.size=A.size:=by
      have:A.toList.length=A.size:=AOi
      have:vv.cells.toList.length=vv.cells.size:=AOi
      simp only[abf,bn,bz,aaP]
      omega
     obtain⟨B,b1,b2,b3,b4,b5⟩:=kS n hn ps vs (vi+1) rs (A.toList.take (vi*n)++(vv.cells.toList++A.toList.drop (vi*n+n))).toArray APR
      (fun j p hj=>by simpa using hvs (j+1) p (by simpa using hj)) hrs (by rw[hsz]; rw[show vi+1+ps.length=vi+(ps.length+1) from AOh]; exact hA)
     have hAl:A.toList.length=A.size:=AOi
     have htl:(A.toList.take (vi*n)).length=vi*n:=AOj
     have hvl:vv.cells.toList.length=n:=by simpa using hvsz
     refine⟨B, ?_,by rw[b2,hsz],fun j hj=>?_,fun j hj=>?_,fun j c hj=>?_⟩
     ·rw[kQ _ A vi (vi*n) n vv vs rfl hvsz hA']; exact b1
     ·rw[b3 j (by rw[jH]; omega)]
      simp only[aa7]
      rw[bG AOh,aaJ,bu hj]
      simp
     ·simp only[df] at hj
      rw[b4 j (by rw[show vi+1+ps.length=vi+(ps.length+1) from AOh]; exact hj)]
      have hj2:vi*n+n≤j:=by
       exact AOH
      simp only[aa7]
      rw[aY AOh,aY AOh,aaV,htl,hvl]
      rw[show vi*n+n+(j-vi*n-n)=j from AOh]
      simp
     ·simp only[dm] at hj
      rcases bQ j n with h1 | h1
      ·rw[bG AOh] at hj
       obtain⟨u,hu,hc⟩:=c2 j c hj
       refine⟨u, ?_,hc⟩
       rw[b3 _ (by rw[jH]; omega)]
       simp only[aa7]
       rw[aY AOh,htl,show vi*n+j-vi*n=j from AOh,bG AOh]
       exact hu
      ·rw[aY AOh,hcl] at hj
       obtain⟨u,hu,hc⟩:=b5 (j-n) c hj
       refine⟨u, ?_,hc⟩
       rw[jH] at hu
       rw[show vi*n+1*n+(j-n)=vi*n+j from AOh] at hu
       exact hu
    ·cases hr
   ·cases hr
end Go.Vm
