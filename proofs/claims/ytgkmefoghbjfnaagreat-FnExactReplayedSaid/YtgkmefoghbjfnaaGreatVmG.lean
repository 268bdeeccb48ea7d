/- A part. -/
import Derived.Test.YtgkmefoghbjfnaaGreatVmE
import Derived.Laws.BytesArg
set_option linter.unusedSimpArgs false
set_option linter.unusedVariables false
namespace Go.Vm
open Go.RowKit
theorem addr_add (b o j:Nat):(⟨b,o,none⟩:Addr).add j=⟨b,o+j,none⟩:=by
 unfold Addr.add; split<;>simp_all
theorem G8 {R:Cl→Value→Prop} {w:World} {b:Nat}:∀ (xs:List Cl) (o:Nat),(∀ (j:Nat) (c:Cl),xs[j]?=some c→∃ u,w.cell? ⟨b,o+j,none⟩=some u∧R c u) →
  ∃ us:List Value,us.length=xs.length∧∀ (j:Nat) (c:Cl),xs[j]?=some c→∃ u,us[j]?=some u∧w.cell? ⟨b,o+j,none⟩=some u∧R c u
 | [],_,_=>⟨[],rfl,fun j c h=>by simp at h⟩
 | x::xs,o,h=>by
  obtain⟨us,h1,h2⟩:=G8 xs (o+1) fun j c hj=>by
   have:=h (j+1) c (by simpa using hj)
   rwa [show o+(j+1)=o+1+j by omega] at this
  obtain⟨u,hu⟩:=h 0 x rfl
  refine⟨u::us,by simp[h1],fun j c hj=>?_⟩
  cases j with
  | zero=>simp at hj; subst hj; exact⟨u,rfl,hu⟩
  | succ j =>
   have:=h2 j c (by simpa using hj)
   rwa [show o+1+j=o+(j+1) by omega] at this
section
variable {P:Program} {w:World} {St:Nat→Nat→Prop} {st:List Ob} {β:Nat→Option Nat}
theorem fF {row:List Cl} {off n:Nat} {g:Bool} {x:AV} (h:∀ (j:Nat) (c:Cl),row[j]?=some c→Dj c=false) (hx:Il row off n g=some x):Fh x=true:=by
 unfold Il at hx
 cases g with
 | true =>
  simp only[bC] at hx
  split at hx
  ·simp only[ag] at hx
   subst hx
   simp only[Fh,aA]
   intro c hc
   obtain⟨j,hj⟩:=sU.1 (List.mem_of_mem_drop (qi hc))
   simp[h j c hj]
  ·cases hx
 | false =>
  simp only[aN,aK] at hx
  split at hx
  ·rename_i c hc
   simp only[ag] at hx
   subst hx
   simp[Fh,h _ c hc]
  ·cases hx
theorem ZZ {row:List Cl} {b o off n:Nat} {g:Bool} {T:TypeId} {x:AV} (hcells:∀ (j:Nat) (c:Cl),row[j]?=some c→∃ u,w.cell? ⟨b,o+j,none⟩=some u∧RdB w St st β c u)
  (hs:AQ P T=some n) (hg:Az P T=some g) (hx:Il row off n g=some x) (hno:Fh x=true) :
  ∃ v,(Instr.loadAt T (.pointer (some ⟨b,o+off,none⟩))).run P w = .ok v w∧AVR w St st β x v:=by
 unfold Il at hx
 cases g with
 | true =>
  simp only[bC] at hx
  split at hx
  ·rename_i hle
   simp only[ag] at hx
   subst hx
   obtain⟨us,h1,h2⟩:=G8 (R:=RdC w St st β) (w:=w) (b:=b) ((row.drop off).take n) (o+off) (fun j c hj=>by
    rw[aV] at hj
    split at hj
    ·rw[bY] at hj
     obtain⟨u,hu,hr⟩:=hcells _ c hj
     rw[show o+(off+j)=o+off+j by omega] at hu
     refine⟨u,hu,hr.toC ?_⟩
     simp only[Fh,aA] at hno
     have hcm:=hno c (aT (i:=j) (by rw[aV]; rename_i hlt; rw[ED hlt,bY]; exact hj))
     simpa using hcm
    ·cases hj)
   have hlen:us.length=n:=by rw[h1]; simp; omega
   have hl:(loadCells ⟨b,o+off,none⟩ us.length).run P w = .ok us.toArray w:=
    run_loadCells_list (P:=P) w ⟨b,o+off,none⟩ us (fun j v hv=>by
     rw[addr_add]
     have hj:j<((row.drop off).take n).length:=by
      rw[← h1]
      rcases aX j us.length with h' | h'
      ·exact h'
      ·simp[df h'] at hv
     obtain⟨u,hu1,hu2,_⟩:=h2 j _ (aW hj)
     rw[hv] at hu1
     simp only[ag] at hu1
     subst hu1
     exact hu2)
   refine⟨.agg us.toArray, ?_, ?_⟩
   ·rw[hlen] at hl
    simp[Instr.loadAt,Instr.sureAddr,loadVar,Ny hg,Eb hs,hl]
   ·simp only[AVR]
    refine⟨us,rfl,h1,fun k c hk=>?_⟩
    obtain⟨u,hu1,_,hu3⟩:=h2 k c hk
    exact⟨u,hu1,hu3⟩
  ·cases hx
 | false =>
  simp only[aN,aK] at hx
  split at hx
  ·rename_i c hc
   simp only[ag] at hx
   subst hx
   obtain⟨u,hu1,hu2⟩:=hcells off c hc
   have hu3:=hu2.toC (by simpa [Fh] using hno)
   refine⟨u, ?_,by simpa only[AVR] using hu3⟩
   simp[Instr.loadAt,Instr.sureAddr,loadVar,Ny hg,hu1]
  ·cases hx
theorem nG {row:List Cl} {us:List Value} {off n:Nat} {g:Bool} {T:TypeId} {x:AV} (hl:us.length=row.length) (hcells:∀ (j:Nat) (c:Cl),row[j]?=some c→∃ u,us[j]?=some u∧RdC w St st β c u)
  (hs:AQ P T=some n) (hg:Az P T=some g) (hx:Il row off n g=some x) :
  ∃ v,(part T us.toArray off).run P w = .ok v w∧AVR w St st β x v:=by
 unfold Il at hx
 cases g with
 | true =>
  simp only[bC] at hx
  split at hx
  ·rename_i hle
   simp only[ag] at hx
   subst hx
   refine⟨.agg (us.toArray.extract off (off+n)),by simp[part,Ny hg,Eb hs], ?_⟩
   simp only[AVR]
   refine⟨(us.drop off).take n, ?_,by simp[hl],fun k c hk=>?_⟩
   ·congr 1
    apply fD
    simp[List.extract_eq_take_drop]
   ·rw[aV] at hk
    split at hk
    ·rename_i hkn
     rw[bY] at hk
     obtain⟨u,hu1,hu2⟩:=hcells _ c hk
     exact⟨u,by rw[aV,ED hkn,bY]; exact hu1,hu2⟩
    ·cases hk
  ·cases hx
 | false =>
  simp only[aN,aK] at hx
  split at hx
  ·rename_i c hc
   simp only[ag] at hx
   subst hx
   obtain⟨u,hu1,hu2⟩:=hcells off c hc
   refine⟨u, ?_,by simpa only[AVR] using hu2⟩
   simp[part,Ny hg,hu1]
  ·cases hx
theorem Za:∀ {xs:List AV} {us:List Value},AVRs w St st β xs us→∀ (j:Nat) (x:AV),xs[j]?=some x→∃ u,us[j]?=some u∧AVR w St st β x u
 | [],_,_,j,x,h=>by simp at h
 | x0::xs,us,h,j,x,hj=>by
  simp only[AVRs] at h
  obtain⟨y,ys,rfl,h1,h2⟩:=h
  cases j with
  | zero=>simp at hj; subst hj; exact⟨y,rfl,h1⟩
  | succ j=>simpa using Za h2 j x (by simpa using hj)
theorem VC {x:AV} {u:Value} {k:Nat} (h:AVR w St st β x u) (hk:VB x=some k):∃ kd,u = .int kd (k:Int):=by
 unfold VB at hk
 split at hk
 ·rename_i kd n
  split at hk
  ·rename_i hn
   simp only[ag] at hk
   simp only[AVR,RdC,RdD] at h
   obtain⟨rfl,_⟩:=h
   exact⟨kd,by rw[← hk]; congr 1; omega⟩
  ·cases hk
 ·cases hk
theorem I8 {v u:Value} (h:AVR w St st β (.c (.v v)) u):u=v∧Kz v=true:=by
 simp only[AVR,RdC,RdD] at h
 exact⟨h.1,h.2⟩
theorem O8 {v:Value} (h:Kz v=true):AVR w St st β (.c (.v v)) v:=by
 simp only[AVR,RdC,RdD]
 exact⟨trivial,h⟩
end
theorem nH (c:UInt8):Kz (.int .u8 (c.toNat:Int))=true:=by
 have:=c.toNat_lt
 simp[Kz,Lit.wf,IntKind.min,IntKind.max,IntKind.signed,IntKind.bits]; omega
theorem ja {n:Nat} (h:n≤maxLen):Kz (.int .i64 (n:Int))=true:=by
 simp only[maxLen] at h
 simp[Kz,Lit.wf,IntKind.min,IntKind.max,IntKind.signed,IntKind.bits]; omega
theorem XT {w0:Bs} {St0 St:Nat→Nat→Prop} {β:Nat→Option Nat} {s:MS} {a:Act} {w:World} (_:Core w0 St0 St β s a w) {d:Cl} {u:Value} {xs:List (List Cl)} (hd:RdC w St s.st β d u) (hx:Le s.st d=some xs) :
  ∃ ad cap,u = .slice ad xs.length cap∧xs.length≤cap∧cap≤maxLen:=by
 unfold Le at hx
 split at hx
 ·simp only[ag] at hx
  subst hx
  simp only[RdC,RdD] at hd
  exact⟨none,0,hd.1,by simp,by simp[maxLen]⟩
 ·cases hx
 ·simp only[ag] at hx
  subst hx
  simp only[RdC,RdD] at hd
  obtain⟨ad,cap,h1,h2,h3,_⟩:=hd
  exact⟨ad,cap,h1,h2,h3⟩
 ·rename_i l
  cases ho:BV s.st l with
  | none=>simp[ho] at hx
  | some ob =>
   simp only[ho,sZ,ag] at hx
   subst hx
   obtain⟨hl,hlive⟩:=Ag ho
   simp only[RdC,Aq,hl] at hd
   have h2:=hd.2 hlive
   split at h2
   ·obtain⟨rfl,hx⟩:=h2
    exact⟨none,0,by simp[hx],by simp[hx],by simp[maxLen]⟩
   ·obtain⟨cap,cs,h1,h3,h4,_⟩:=h2
    exact⟨_,cap,h1,h3,h4⟩
 ·cases hx
theorem Zb {w0:Bs} {St0 St:Nat→Nat→Prop} {β:Nat→Option Nat} {s:MS} {a:Act} {w:World} (h:Core w0 St0 St β s a w) {l i off:Nat} {u:Value} {ob:Ob} (hu:AVR w St s.st β (.lp l i off) u) (ho:BV s.st l=some ob) :
  ∃ b cs,β l=some b∧u = .pointer (some ⟨b,i*ob.sz+off,none⟩)∧w.heap[b]?=some (.cells cs ob.ty (0,0))∧(∀ x∈ob.xs,x.length=ob.sz) ∧
   (∀ (k:Nat) (c:Cl),ob.xs.flatten[k]?=some c→∃ u,cs[k]?=some u∧RdB w St s.st β c u):=by
 obtain⟨hl,hlive⟩:=Ag ho
 simp only[AVR,hl] at hu
 obtain⟨b,hb,rfl⟩:=hu hlive
 obtain⟨_,_,cs,g1,g2,g3⟩:=h.obs l ob b hl hlive hb
 exact⟨b,cs,hb,rfl,g1,g2,g3⟩
theorem fG {w:World} {St:Nat→Nat→Prop} {st:List Ob} {β:Nat→Option Nat} {ob:Ob} {b:Nat} {cs:Array Value} (g1:w.heap[b]?=some (.cells cs ob.ty (0,0))) (g2:∀ x∈ob.xs,x.length=ob.sz)
  (g3:∀ (k:Nat) (c:Cl),ob.xs.flatten[k]?=some c→∃ u,cs[k]?=some u∧RdB w St st β c u) {i:Nat} {row:List Cl} (hi:ob.xs[i]?=some row) :
  ∀ (j:Nat) (c:Cl),row[j]?=some c→∃ u,w.cell? ⟨b,i*ob.sz+j,none⟩=some u∧RdB w St st β c u:=fun j c hj=>by
 obtain⟨u,hu,hc⟩:=g3 _ c (Dz g2 i j row c hi hj)
 exact⟨u,by simp[World.cell?,g1,hu],hc⟩
theorem RdD.toC {w:World} {St:Nat→Nat→Prop} {st:List Ob} {β:Nat→Option Nat} {c:Cl} {u:Value} (h:RdD w St c u):RdC w St st β c u:=by
 cases c with
 | ref l=>simp[RdD] at h
 | v x=>exact h
 | sl xs=>exact h
 | ow ty sz xs=>simp[RdD] at h
theorem MR {w0:Bs} {St0 St:Nat→Nat→Prop} {β:Nat→Option Nat} {s:MS} {a:Act} {w:World} (h:Core w0 St0 St β s a w) {d:Cl} {u:Value} {xs:List (List Cl)} (hd:RdC w St s.st β d u) (hx:Le s.st d=some xs) :
  ∃ ad cap,u = .slice ad xs.length cap∧(∃ sz,∀ x∈xs,x.length=sz)∧(xs = []∨∃ b off,ad=some ⟨b,off,none⟩∧∀ (k:Nat) (c:Cl),xs.flatten[k]?=some c→∃ v,w.cell? ⟨b,off+k,none⟩=some v∧RdB w St s.st β c v):=by
 unfold Le at hx
 split at hx
 ·simp only[ag] at hx
  subst hx
  simp only[RdC,RdD] at hd
  exact⟨none,0,hd.1,⟨0,by simp⟩,.inl rfl⟩
 ·cases hx
 ·simp only[ag] at hx
  subst hx
  simp only[RdC,RdD] at hd
  obtain⟨ad,cap,h1,h2,h3,⟨sz,h4⟩,h5⟩:=hd
  refine⟨ad,cap,h1,⟨sz,h4⟩, ?_⟩
  rcases h5 with rfl | ⟨b,off,rfl,h6⟩
  ·exact .inl rfl
  ·refine .inr ⟨b,off,rfl, ?_⟩
   have key:∀ (xs:List (List Cl)) (off:Nat),RdE w St xs b off→∀ (k:Nat) (c:Cl),xs.flatten[k]?=some c→∃ v,w.cell? ⟨b,off+k,none⟩=some v∧RdB w St s.st β c v:=by
    intro xs
    induction xs with
    | nil=>intro off _ k c hk; simp at hk
    | cons x xs ih =>
     intro off hr k c hk
     simp only[RdE] at hr
     simp only[bM] at hk
     rcases aX k x.length with h' | h'
     ·rw[ah h'] at hk
      obtain⟨_,v,hv,hc⟩:=hr.1.at k c hk
      exact⟨v,hv,hc.toC.toB⟩
     ·rw[ak h'] at hk
      obtain⟨v,hv,hc⟩:=ih (off+x.length) hr.2 (k-x.length) c hk
      exact⟨v,by rwa [show off+x.length+(k-x.length)=off+k by omega] at hv,hc⟩
   exact key _ off h6
 ·rename_i l
  cases ho:BV s.st l with
  | none=>simp[ho] at hx
  | some ob =>
   simp only[ho,sZ,ag] at hx
   subst hx
   obtain⟨hl,hlive⟩:=Ag ho
   simp only[RdC,Aq,hl] at hd
   have h2:=hd.2 hlive
   split at h2
   ·obtain⟨rfl,hx⟩:=h2
    exact⟨none,0,by simp[hx],⟨0,by simp[hx]⟩,.inl hx⟩
   ·rename_i b hb
    obtain⟨cap,cs,h1,h3,h4,_⟩:=h2
    obtain⟨_,_,cs',g1,g2,g3⟩:=h.obs l ob b hl hlive hb
    refine⟨_,cap,h1,⟨ob.sz,g2⟩,.inr ⟨b,0,rfl,fun k c hk=>?_⟩⟩
    obtain⟨v,hv,hc⟩:=g3 k c hk
    exact⟨v,by simp[World.cell?,g1,hv],hc⟩
 ·cases hx
theorem Tc:∀ {xs:List (List Cl)} {ns:List Int},O7 xs=some ns→ns.length=xs.length∧∀ (k:Nat) (n:Int),ns[k]?=some n→xs.flatten[k]?=some (.v (.int .u8 n))
 | [],ns,h=>by
  simp only[O7,ag] at h
  subst h
  exact⟨rfl,fun k n hk=>by simp at hk⟩
 | x::r,ns,h=>by
  unfold O7 at h
  split at h
  ·rename_i he; cases he
  ·rename_i n r' he
   cases he
   split at h
   ·rename_i ns' h'
    simp only[ag] at h
    subst h
    obtain⟨q1,q2⟩:=Tc h'
    refine⟨by simp[q1],fun k m hk=>?_⟩
    cases k with
    | zero=>simp only[ai,ag] at hk; subst hk; rfl
    | succ k=>simpa using q2 k m (by simpa using hk)
   ·cases h
  ·cases h
end Go.Vm
namespace Go.Vm
open Go.RowKit
theorem MV {P:Program} {T:TypeId} {f fo:Nat} {ft:TypeId} (h:AB P T f=some (fo,ft)):∃ (fs:Array Field) (x:Field),P.underlying T=some (.struct fs)∧fs[f]?=some x∧x.offset=fo∧x.type=ft:=by
 unfold AB at h
 split at h
 ·rename_i fs hu
  cases hx:fs[f]? with
  | none=>simp[hx] at h
  | some x=>simp[hx] at h; exact⟨fs,x,hu,hx,h.1,h.2⟩
 ·cases h
theorem Hg {P:Program} {T e:TypeId} (h:CE P T=some e):P.underlying T=some (.slice e):=by
 unfold CE at h
 split at h
 ·simp only[ag] at h; subst h; assumption
 ·cases h
def Gives (P:Program) (a:Act) (w:World) (St:Nat→Nat→Prop) (st:List Ob) (β:Nat→Option Nat) (o:Oper) (x:AV):Prop:=
 ∃ v,(execOp a.eval o).run P w = .ok (.value v) w∧AVR w St st β x v
variable {P:Program} {w0:Bs} {St0 St:Nat→Nat→Prop} {β:Nat→Option Nat} {s:MS} {a:Act} {w:World}
theorem rD (h:Core w0 St0 St β s a w) (o:Oper) (T:TypeId) (x:Operand) (ho:o.op = .load T x) (hc:Af x=true) {y:AV} (hy:En P s (.load T x)=some y):Gives P a w St s.st β o y:=by
 have he:=BJ h x hc
 simp only[En] at hy
 split at hy
 ·rename_i n g hs hg
  split at hy
  ·rename_i l i off hev
   split at hy
   ·rename_i ob hob
    split at hy
    ·rename_i row hrow
     split at hy
     ·rename_i y0 hcut
      split at hy
      ·rename_i hno
       simp only[ag] at hy
       subst hy
       rw[hev] at he
       obtain⟨b,cs,hb,hu,g1,g2,g3⟩:=Zb h he hob
       obtain⟨v,hv,hr⟩:=ZZ (P:=P) (T:=T) (fG g1 g2 g3 hrow) hs hg hcut hno
       exact⟨v,by simp[execOp,ho,hu,hv],hr⟩
      ·cases hy
     ·cases hy
    ·cases hy
   ·cases hy
  ·rename_i row hev
   rw[hev] at he
   simp only[AVR] at he
   obtain⟨b,off,hu,hr⟩:=he
   obtain⟨v,hv,hr2⟩:=ZZ (P:=P) (w:=w) (St:=St) (st:=s.st) (β:=β) (T:=T) (row:=row) (b:=b) (o:=off) (off:=0) (fun j c hj=>by
    obtain⟨_,u,hu1,hu2⟩:=hr.at j c hj
    refine⟨u,hu1, ?_⟩
    cases c with
    | ref l=>simp[RdD] at hu2
    | v x=>exact hu2
    | sl xs=>exact hu2
    | ow ty sz xs=>simp[RdD] at hu2) hs hg hy (fF (fun j c hj=>by
     obtain⟨_,u,hu1,hu2⟩:=hr.at j c hj
     cases c with
     | ow ty sz xs=>simp[RdD] at hu2
     | _=>rfl) hy)
   exact⟨v,by simp only[lG] at hv; simp[execOp,ho,hu,hv],hr2⟩
  ·cases hy
 ·cases hy
theorem nI (h:Core w0 St0 St β s a w) (o:Oper) (T:TypeId) (x:Operand) (f:Nat) (ho:o.op = .field T x f) (hc:Af x=true) {y:AV} (hy:En P s (.field T x f)=some y):Gives P a w St s.st β o y:=by
 have he:=BJ h x hc
 simp only[En] at hy
 split at hy
 ·rename_i fo ft hf
  split at hy
  ·rename_i n g row hs hg hev
   rw[hev] at he
   simp only[AVR] at he
   obtain⟨us,hu,h1,h2⟩:=he
   obtain⟨fs,fx,q1,q2,q3,q4⟩:=MV hf
   obtain⟨v,hv,hr⟩:=nG (P:=P) h1 h2 hs hg hy
   subst q3 q4
   exact⟨v,by simp[execOp,ho,Instr.field,run_underlying q1,q2,hu,asAgg,hv],hr⟩
  ·cases hy
 ·cases hy
theorem XU (h:Core w0 St0 St β s a w) (o:Oper) (T:TypeId) (x:Operand) (f:Nat) (ho:o.op = .fieldAddr T x f) (hc:Af x=true) {y:AV} (hy:En P s (.fieldAddr T x f)=some y):Gives P a w St s.st β o y:=by
 have he:=BJ h x hc
 simp only[En] at hy
 split at hy
 ·rename_i fo ft hf
  obtain⟨fs,fx,q1,q2,q3,q4⟩:=MV hf
  subst q3 q4
  split at hy
  ·rename_i m hs
   have hrun:∀ b off,(Instr.fieldAt T (.pointer (some ⟨b,off,none⟩)) f).run P w = .ok (.pointer (some ⟨b,off+fx.offset,none⟩)) w:=by
    intro b off
    simp[Instr.fieldAt,run_underlying q1,q2,Instr.sureAddr,fieldPlace,Eb hs,addr_add]
   split at hy
   ·rename_i l i off hev
    split at hy
    ·rename_i ob hob
     simp only[ag] at hy
     subst hy
     rw[hev] at he
     obtain⟨b,cs,hb,hu,_⟩:=Zb h he hob
     refine⟨_,by simp[execOp,ho,hu,hrun]; rfl, ?_⟩
     obtain⟨hl,_⟩:=Ag hob
     simp only[AVR,hl]
     exact fun _=>⟨b,hb,by rw[tH]⟩
    ·cases hy
   ·rename_i row hev
    simp only[ag] at hy
    subst hy
    rw[hev] at he
    simp only[AVR] at he
    obtain⟨b,off,hu,hr⟩:=he
    refine⟨_,by simp[execOp,ho,hu,hrun]; rfl, ?_⟩
    simp only[AVR]
    exact⟨b,_,rfl,hr.drop _⟩
   ·cases hy
  ·cases hy
 ·cases hy
theorem run_indexAt {T e:TypeId} {n:Nat} (ht:P.underlying T=some (.slice e)) (hs:AQ P e=some n) {b off len cap k:Nat} {kd:IntKind} (hk:k<len) :
  (Instr.indexAt T (.slice (some ⟨b,off,none⟩) len cap) (.int kd (k:Int))).run P w = .ok (.pointer (some ⟨b,off+k*n,none⟩)) w:=by
 have h1:¬ len≤k:=by omega
 simp[Instr.indexAt,asIntOf,run_underlying ht,Eb hs,addr_add,h1]
theorem XV (h:Core w0 St0 St β s a w) (o:Oper) (T:TypeId) (x ix:Operand) (ho:o.op = .indexAddr T x ix) (hc:Af x=true) (hc2:Af ix=true) {y:AV} (hy:En P s (.indexAddr T x ix)=some y):Gives P a w St s.st β o y:=by
 have he:=BJ h x hc
 have hi:=BJ h ix hc2
 simp only[En] at hy
 split at hy
 ·rename_i e hte
  have ht:=Hg hte
  split at hy
  ·rename_i n k hs hk
   obtain⟨kd,hi2⟩:=VC hi hk
   split at hy
   ·rename_i xs hev
    split at hy
    ·rename_i row hrow
     split at hy
     ·rename_i hlen
      simp only[ag] at hy
      subst hy
      rw[hev] at he
      simp only[AVR,RdC,RdD] at he
      obtain⟨ad,cap,hu,h2,h3,⟨sz,h4⟩,h5⟩:=he
      have hkl:k<xs.length:=(az.1 hrow).1
      rcases h5 with rfl | ⟨b,off,rfl,h6⟩
      ·simp at hkl
      ·have hsz:sz=n:=by rw[← hlen]; exact(h4 row (aT hrow)).symm
       subst hsz
       refine⟨_,by simp[execOp,ho,hu,hi2,run_indexAt ht hs hkl]; rfl, ?_⟩
       simp only[AVR]
       exact⟨b,_,rfl,h6.at sz h4 k row hrow⟩
     ·cases hy
    ·cases hy
   ·rename_i l hev
    split at hy
    ·rename_i ob hob
     split at hy
     ·rename_i hkl
      obtain⟨hkl,hsz⟩:=hkl
      simp only[ag] at hy
      subst hy
      rw[hev] at he
      obtain⟨hl,hlive⟩:=Ag hob
      simp only[AVR,RdC,Aq,hl] at he
      have h2:=he.2 hlive
      split at h2
      ·obtain⟨_,hx⟩:=h2
       rw[hx] at hkl; simp at hkl
      ·rename_i b hb
       obtain⟨cap,cs,hu,h3,h4,_⟩:=h2
       refine⟨_,by simp[execOp,ho,hu,hi2,run_indexAt ht hs hkl]; rfl, ?_⟩
       simp only[AVR,hl]
       exact fun _=>⟨b,hb,by simp[hsz]⟩
     ·cases hy
    ·cases hy
   ·cases hy
  ·cases hy
 ·cases hy
theorem vM (h:Core w0 St0 St β s a w) (o:Oper) (c:Call) (ho:o.op = .call c) (hcl:c.callee = .builtin .len) (hc:c.args.toList.all Af=true) {y:AV} (hy:En P s (.call c)=some y):Gives P a w St s.st β o y:=by
 simp only[En,hcl] at hy
 split at hy
 ·rename_i t x hat hax
  have hx:Af x=true:=by rw[hax] at hc; simpa using hc
  have he:=BJ h x hx
  have ha1:c.argTypes = #[t]:=by have:=congrArg List.toArray hat; simpa using this
  have ha2:c.args = #[x]:=by have:=congrArg List.toArray hax; simpa using this
  split at hy
  ·rename_i b hu hev
   simp only[ag] at hy
   subst hy
   rw[hev] at he
   obtain⟨hv,hw⟩:=I8 he
   refine⟨.int .i64 b.size, ?_,O8 (ja (by simpa [Kz] using hw))⟩
   simp[execOp,ho,resolve,hcl,ha1,ha2,invoke,builtin,Builtin.len_,run_underlying hu,hv,goInt]
  ·rename_i e d hu hev
   split at hy
   ·rename_i xs hd
    simp only[ag] at hy
    subst hy
    rw[hev] at he
    simp only[AVR] at he
    obtain⟨ad,cap,hv,h1,h2⟩:=XT h he hd
    refine⟨.int .i64 xs.length, ?_,O8 (ja (by omega))⟩
    simp[execOp,ho,resolve,hcl,ha1,ha2,invoke,builtin,Builtin.len_,run_underlying hu,hv,goInt]
   ·cases hy
  ·cases hy
 ·cases hy
theorem jc (h:Core w0 St0 St β s a w) (o:Oper) (c:Call) (ho:o.op = .call c) (hcl:c.callee = .builtin .min∨c.callee = .builtin .max) (hc:c.args.toList.all Af=true) {y:AV} (hy:En P s (.call c)=some y):Gives P a w St s.st β o y:=by
 rcases hcl with hcl | hcl
 all_goals
  simp only[En,hcl] at hy
  split at hy
  ·rename_i x x2 hax
   have hx:Af x=true∧Af x2=true:=by rw[hax] at hc; simpa using hc
   have he:=BJ h x hx.1
   have he2:=BJ h x2 hx.2
   have ha2:c.args = #[x,x2]:=by have:=congrArg List.toArray hax; simpa using this
   split at hy
   ·rename_i p q hev hev2
    simp only[ag] at hy
    subst hy
    rw[hev] at he
    rw[hev2] at he2
    obtain⟨hv,hw⟩:=I8 he
    obtain⟨hv2,hw2⟩:=I8 he2
    refine⟨_, ?_,O8 ?_⟩
    rotate_left
    ·simp only[Kz] at hw hw2 ⊢
     split<;>assumption
    ·simp[execOp,ho,resolve,hcl,ha2,invoke,builtin,Builtin.min_,Builtin.max_,Builtin.min2,Builtin.max2,hv,hv2]
   ·cases hy
  ·cases hy
theorem nJ (h:Core w0 St0 St β s a w) (o:Oper) (T:TypeId) (x ix:Operand) (ho:o.op = .index T x ix) (hc:Af x=true) (hc2:Af ix=true) {y:AV} (hy:En P s (.index T x ix)=some y):Gives P a w St s.st β o y:=by
 have he:=BJ h x hc
 have hi:=BJ h ix hc2
 simp only[En] at hy
 split at hy
 ·rename_i hu
  split at hy
  ·rename_i b k hev hk
   obtain⟨kd,hi2⟩:=VC hi hk
   split at hy
   ·rename_i c hb
    simp only[ag] at hy
    subst hy
    rw[hev] at he
    obtain⟨hv,hw⟩:=I8 he
    refine⟨_, ?_,O8 (nH c)⟩
    simp[execOp,ho,Instr.index,asIntOf,hi2,run_underlying hu,hv,hb]
   ·cases hy
  ·cases hy
 ·cases hy
theorem VD (h:Core w0 St0 St β s a w) (o:Oper) (hc:o.op.operands.toList.all Af=true) {y:AV} (hy:En P s o.op=some y):Gives P a w St s.st β o y:=by
 obtain⟨dst,op,type,pos,after,guard⟩:=o
 simp only at hc hy
 cases op with
 | move x =>
  have he:=BJ h x (by simpa [Op.operands] using hc)
  simp only[En,ag] at hy; subst hy
  exact⟨_,by simp[execOp],he⟩
 | assign x =>
  have he:=BJ h x (by simpa [Op.operands] using hc)
  simp only[En,ag] at hy; subst hy
  exact⟨_,by simp[execOp],he⟩
 | pick c x1 x2 =>
  simp[Op.operands] at hc
  have he:=BJ h c hc.1
  have h1:=BJ h x1 hc.2.1
  have h2:=BJ h x2 hc.2.2
  simp only[En] at hy
  split at hy
  ·rename_i t hev
   simp only[ag] at hy; subst hy
   rw[hev] at he
   obtain⟨hv,_⟩:=I8 he
   cases t with
   | true=>exact⟨_,by simp[execOp,hv,asBool],h1⟩
   | false=>exact⟨_,by simp[execOp,hv,asBool],h2⟩
  ·cases hy
 | load T x=>exact rD h _ T x rfl (by simpa [Op.operands] using hc) hy
 | nilCheck x =>
  have he:=BJ h x (by simpa [Op.operands] using hc)
  simp only[En] at hy
  split at hy
  ·rename_i l i off hev
   split at hy
   ·rename_i ob hob
    simp only[ag] at hy; subst hy
    rw[hev] at he
    obtain⟨b,cs,hb,hu,_⟩:=Zb h he hob
    exact⟨_,by simp[execOp,hu]; rfl,by rw[← hu]; exact he⟩
   ·cases hy
  ·rename_i row hev
   simp only[ag] at hy; subst hy
   rw[hev] at he
   have he':=he
   simp only[AVR] at he'
   obtain⟨b,off,hu,_⟩:=he'
   exact⟨_,by simp[execOp,hu]; rfl,by rw[← hu]; exact he⟩
  ·rename_i f x1 x2 hev
   simp only[ag] at hy; subst hy
   rw[hev] at he
   obtain⟨hv,hw⟩:=I8 he
   exact⟨.func (.func f) x1 x2,by simp[execOp,hv],O8 hw⟩
  ·cases hy
 | binOp op T x1 x2 T2 =>
  simp[Op.operands] at hc
  have h1:=BJ h x1 hc.1
  have h2:=BJ h x2 hc.2
  simp only[En] at hy
  split at hy
  ·rename_i p q hev1 hev2
   split at hy
   ·rename_i r hr
    simp only[ag] at hy; subst hy
    rw[hev1] at h1
    rw[hev2] at h2
    obtain⟨hv1,hw1⟩:=I8 h1
    obtain⟨hv2,hw2⟩:=I8 h2
    obtain⟨hrun,hwf⟩:=nD (P:=P) hw1 hr x1 x2 w
    refine⟨r, ?_,O8 hwf⟩
    simp only[execOp,hv1,hv2]
    rw[Sem.run_bind,hrun]
    rfl
   ·cases hy
  ·rename_i cs ds hev1 hev2
   rw[hev1] at h1
   rw[hev2] at h2
   simp only[AVR] at h1 h2
   obtain⟨us,hu1,hu2,hu3⟩:=h1
   obtain⟨vs,hv1,hv2,hv3⟩:=h2
   split at hy
   ·rename_i ks hks
    split at hy
    ·rename_i r hr
     obtain⟨k1,k2⟩:=jZ (w:=w) hks hr (us:=us) (vs:=vs) (fun k x hk=>by
      obtain⟨z,hz,hc⟩:=hu3 k _ hk
      simp only[RdC,RdD] at hc
      rw[hz,hc.1]) (fun k x hk=>by
      obtain⟨z,hz,hc⟩:=hv3 k _ hk
      simp only[RdC,RdD] at hc
      rw[hz,hc.1]) x1 x2
     split at hy
     ·simp only[ag] at hy; subst hy
      refine⟨.bool r, ?_,O8 rfl⟩
      simp only[execOp,hu1,hv1]
      rw[Sem.run_bind,k1]
      rfl
     ·simp only[ag] at hy; subst hy
      refine⟨.bool (!r), ?_,O8 rfl⟩
      simp only[execOp,hu1,hv1]
      rw[Sem.run_bind,k2]
      rfl
     ·cases hy
    ·cases hy
   ·cases hy
  ·cases hy
 | unOp op T x =>
  have he:=BJ h x (by simpa [Op.operands] using hc)
  simp only[En] at hy
  split at hy
  ·rename_i p hev
   split at hy
   ·rename_i r hr
    simp only[ag] at hy; subst hy
    rw[hev] at he
    obtain⟨hv,hw⟩:=I8 he
    obtain⟨hrun,hwf⟩:=qy (P:=P) hr w
    exact⟨r,by simp[execOp,hv,hrun],O8 hwf⟩
   ·cases hy
  ·cases hy
 | convert src dst x =>
  have he:=BJ h x (by simpa [Op.operands] using hc)
  simp only[En] at hy
  split at hy
  ·rename_i d1 k kd n hs1 hs2 hev
   simp only[ag] at hy; subst hy
   rw[hev] at he
   obtain⟨hv,hw⟩:=I8 he
   refine⟨_, ?_,O8 (v:=.int k (k.wrap n)) (by simp only[Kz]; exact Go.wf_wrap _ _)⟩
   simp[execOp,hv,convert,run_underlying hs1,run_underlying hs2,Conv.intToInt]
  ·rename_i d1 b hs1 hs2 hev
   simp only[ag] at hy; subst hy
   rw[hev] at he
   obtain⟨hv,hw⟩:=I8 he
   refine⟨_, ?_,O8 (v:=.string b) hw⟩
   simp[execOp,hv,convert,run_underlying hs1,run_underlying hs2]
  ·rename_i e d _ hs1 hs2 hev
   split at hy
   ·rename_i xs he1 hdx
    split at hy
    ·rename_i ns hns
     simp only[ag] at hy; subst hy
     rw[hev] at he
     simp only[AVR] at he
     obtain⟨q1,q2⟩:=Tc hns
     obtain⟨ad0,cap0,e0,e1,e2⟩:=XT h he hdx
     obtain⟨ad,cap,hu,_,hcells⟩:=MR h he hdx
     have hsz:(strOfNums ns).size≤maxLen:=by rw[strOfNums_size,q1]; omega
     refine⟨.string (strOfNums ns), ?_,O8 (v:=.string (strOfNums ns)) (by simp only[Kz,dm]; exact hsz)⟩
     have key:(convert src dst (a.eval x)).run P w = .ok (.string (strOfNums ns)) w:=by
      rw[hu]
      rcases hcells with rfl | ⟨b,off,rfl,hc2⟩
      ·have:ns = []:=bz q1
       subst this
       rw[hu] at e0
       cases ad with
       | none=>exact run_convert_bytes_nil w src e hs1 he1 _ _ dst hs2
       | some ad =>
        have:=run_convert_bytes_string (P:=P) w src dst e (some ad) 0 cap hs1 he1 hs2
        simp only[Vf]
        rw[this,run_bytesToString w ad 0 cap [] (run_loadCells_list (P:=P) w ad [] (fun j v hj=>by simp at hj))]
        rfl
      ·refine run_convert_bytes_arg w src e hs1 he1 b off xs.length cap ns q1 (fun i hi=>?_) dst hs2
       have hin:i<ns.length:=by omega
       have hf:=q2 i ns[i] (by simp[hin])
       obtain⟨v,hv,hr⟩:=hc2 i _ hf
       have hr2:=hr.toC rfl
       simp only[RdC,RdD] at hr2
       rw[hv,hr2.1]
       simp[List.getD,hin]
     simp only[execOp,Sem.run_bind,key,Result.andThen_ok,Sem.run_pure]
    ·cases hy
   ·cases hy
  ·cases hy
 | fieldAddr T x f=>exact XU h _ T x f rfl (by simpa [Op.operands] using hc) hy
 | field T x f=>exact nI h _ T x f rfl (by simpa [Op.operands] using hc) hy
 | indexAddr T x ix =>
  simp[Op.operands] at hc
  exact XV h _ T x ix rfl hc.1 hc.2 hy
 | index T x ix =>
  simp[Op.operands] at hc
  exact nJ h _ T x ix rfl hc.1 hc.2 hy
 | extract x ix =>
  have he:=BJ h x (by simpa [Op.operands] using hc)
  simp only[En] at hy
  split at hy
  ·rename_i xs hev
   rw[hev] at he
   simp only[AVR] at he
   obtain⟨us,hu,h1⟩:=he
   obtain⟨u,hu1,hu2⟩:=Za h1 ix y hy
   exact⟨u,by simp[execOp,hu,Instr.extract,hu1],hu2⟩
  ·cases hy
 | call c =>
  have hca:c.args.toList.all Af=true:=by
   simp only[Op.operands,Call.operands,lC,bV,aI] at hc
   exact hc.2
  by_cases h1:c.callee = .builtin .len
  ·exact vM h _ c rfl h1 hca hy
  ·by_cases h2:c.callee = .builtin .min∨c.callee = .builtin .max
   ·exact jc h _ c rfl h2 hca hy
   ·simp only[En] at hy
    split at hy<;>simp_all
 | _=>simp[En] at hy
end Go.Vm
