/- A part. -/
import Derived.Test.YtnoldekcdlaahaaGreatPVmY
import Derived.Test.YtnoldekcdlaahaaGreatPVmPb
import Derived.Orders
set_option linter.unusedSimpArgs false
set_option linter.unusedVariables false
namespace Go.Vm
open Go.RowKit
variable {P:Program} {w0:Bs} {St0 St:Nat→Nat→Prop} {β:Nat→Option Nat} {s:MS} {a:Act} {w:World}
def same (st:List Ob):Option AV→Option (AV×List Ob)
 | some y=>some (y,st)
 | none=>none
def nS (st:List Ob):List AV→Option (List (List Cl)×List Ob)
 | []=>some ([],st)
 | .ip row::r=>match nS st r with
  | some (xs,st')=>some (row::xs,st')
  | none=>none
 | .lp l i off::r=>match Cf st l with
  | some ob=>if Gq ob.xs=true then match ob.xs[i]? with
   | some row=>match nS (QO st l) r with
    | some (xs,st')=>some (row.drop off::xs,st')
    | none=>none
   | none=>none
   else none
  | none=>none
 | _::_=>none
theorem Jr (h:Core w0 St0 St β s a w):∀ (xs:List Operand),xs.all Ak=true→AVRs w St s.st β (xs.map (Ei s)) (xs.map a.eval)
 | [],_=>by simp[AVRs]
 | x::xs,hc=>by
  simp only[bi,ay] at hc
  simp only[YR,AVRs]
  exact⟨_,_,rfl,CO h x hc.1,Jr h xs hc.2⟩
theorem nT:∀ (cs:List AV) (vs:List Value) (st st':List Ob) (xs:List (List Cl)) (St:Nat→Nat→Prop),Core w0 St0 St β ⟨s.n,s.env,st⟩ a w→AVRs w St st β cs vs→nS st cs=some (xs,st') →
  ∃ St',Core w0 St0 St' β ⟨s.n,s.env,st'⟩ a w∧(∀ b o,St b o→St' b o)∧vs.length=xs.length∧∀ (k:Nat) (c:List Cl),xs[k]?=some c→∃ b off,vs[k]?=some (.pointer (some ⟨b,off,none⟩))∧RdL w St' c b off
 | [],vs,st,st',xs,St,h,hv,hx=>by
  simp only[nS,ak,bK] at hx
  obtain⟨rfl,rfl⟩:=hx
  simp only[AVRs] at hv
  subst hv
  exact⟨St,h,fun _ _ h=>h,rfl,fun k c hk=>APA⟩
 | c::cs,vs,st,st',xs,St,h,hv,hx=>by
  simp only[AVRs] at hv
  obtain⟨v,vs,rfl,h1,h2⟩:=hv
  cases c with
  | ip row =>
   simp only[nS] at hx
   split at hx
   ·rename_i ys st1 hy
    simp only[ak,bK] at hx
    obtain⟨rfl,rfl⟩:=hx
    obtain⟨St',q1,q2,q3,q4⟩:=nT cs vs st st1 ys St h h2 hy
    simp only[AVR] at h1
    grind [aV,ak,RdL.mono]
   ·cases hx
  | lp l i off =>
   simp only[nS] at hx
   split at hx
   ·rename_i ob hob
    split at hx
    ·rename_i hp
     split at hx
     ·rename_i row hrow
      split at hx
      ·rename_i ys st1 hy
       simp only[ak,bK] at hx
       obtain⟨rfl,rfl⟩:=hx
       obtain⟨St1,f1,f2,_,f4⟩:=h.freeze l hob hp
       obtain⟨hl,hlive⟩:=Bo hob
       simp only[AVR,hl] at h1
       obtain⟨b,hβ,rfl⟩:=h1 hlive
       have h2':AVRs w St1 (QO st l) β cs vs:=AVRs.mono f2 (fun _ _ _=>rfl) (fun l' u hu=>(WW l' u).2 hu) (T_ fun l' ob' hl'=>sU hl') cs vs h2
       obtain⟨St',q1,q2,q3,q4⟩:=nT cs vs (QO st l) st1 ys St1 f1 h2' hy
       obtain⟨g1,g2⟩:=f4 b hβ
       have hr:RdL w St1 (row.drop off) b (i*ob.sz+off):=by
        have:=(g2.at ob.sz g1 i row hrow).drop off
        simpa using this
       grind [aV,ak,RdL.mono]
      ·cases hx
     ·cases hx
    ·cases hx
   ·cases hx
  | _=>simp[nS] at hx
def WC (P:Program) (s:MS) (o:Op):Option (AV×List Ob):=match o with
 | .alloc T=>PZ P s T
 | .box T x=>AC9 s T (Ei s x)
 | .store T p x=>Zo P s T (Ei s p) (Ei s x)
 | .makeSlice T l c=>sQ P s T (Ei s l) (Ei s c)
 | .buildSlice T len ps=>LW P s T len ps.toList
 | .build T ps=>if EX P T then Tz P s T ps.toList else none
 | .slice T x lo hi none=>UA P s T (Ei s x) lo hi
 | .load T x=>match Io P s (.load T x) with
  | some y=>some (y,s.st)
  | none=>AAC P s T (Ei s x)
 | .makeFunc (.func f) first caps=>if first.toList.isEmpty=true then match nS s.st (caps.toList.map (Ei s)) with
  | some (xs,st')=>some (.clo f xs,st')
  | none=>none
  else none
 | .call c=>match c.callee with
  | .builtin .append=>match c.args.toList,c.argTypes.toList with
   | [x,y],[T,T']=>if T=T' then xk P s T (Ei s x) (Ei s y) else xm P s T T' (Ei s x) (Ei s y)
   | _,_=>none
  | _=>same s.st (Io P s (.call c))
 | op=>same s.st (Io P s op)
theorem AFW {st st':List Ob} {x:Option AV} {y:AV} (h:same st x=some (y,st')):x=some y∧st'=st:=by
 cases x with
 | none=>simp[same] at h
 | some z=>simp only[same,ak,bK] at h; grind
theorem OQ (h:Core w0 St0 St β s a w) {o:Oper} {y:AV} (hg:Gives P a w St s.st β o y):Does P a w w0 St0 s o y s.st:=by
 obtain⟨v,h1,h2⟩:=hg
 exact⟨_,v,w,St,β,h1,.inl rfl,h,h2⟩
theorem ADi (h:Core w0 St0 St β s a w) (o:Oper) (T:TypeId) (x:Operand) (ho:o.op = .load T x) (hc:Ak x=true) {y:AV} {st':List Ob} (hy:AAC P s T (Ei s x)=some (y,st')):Does P a w w0 St0 s o y st':=by
 have he:=CO h x hc
 unfold AAC at hy
 split at hy
 ·rename_i l i off hg hev
  split at hy
  ·rename_i ob hob
   split at hy
   ·rename_i hwr
    split at hy
    ·rename_i row hrow
     split at hy
     ·rename_i ty sz xs hcell
      simp only[ak,bK] at hy
      obtain⟨rfl,rfl⟩:=hy
      obtain⟨b,u,β',hb,hu,hcore,href⟩:=h.openCell hob hwr hrow hcell
      rw[hev] at he
      obtain⟨hl,hlive⟩:=Bo hob
      simp only[AVR,hl] at he
      obtain⟨b2,hb2,hv⟩:=he hlive
      rw[hb] at hb2
      cases hb2
      refine⟨.value u,u,w,St,β', ?_,.inl rfl,hcore,by simpa only[AVR] using href⟩
      simp[execOp,ho,hv,Instr.loadAt,Instr.sureAddr,loadVar,U8 hg,hu]
     ·cases hy
    ·cases hy
   ·cases hy
  ·cases hy
 ·cases hy
theorem yF (h:Core w0 St0 St β s a w) (o:Oper) (hc:o.op.operands.toList.all Ak=true) {y:AV} {st':List Ob} (hy:WC P s o.op=some (y,st')):Does P a w w0 St0 s o y st':=by
 have hF:∀ {y:AV} {st':List Ob},same s.st (Io P s o.op)=some (y,st')→Does P a w w0 St0 s o y st':=fun {y st'} hs=>by
  obtain⟨h1,rfl⟩:=AFW hs
  grind [OQ,mi]
 cases hop:o.op with
 | alloc T=>rw[hop] at hy; exact AC_ h o T hop hy
 | load T x =>
  rw[hop] at hy hc
  simp only[WC] at hy
  split at hy
  ·grind [ak,bK,OQ,mi]
  ·exact ADi h o T x hop AOl hy
 | box T x =>
  rw[hop] at hy hc
  exact AHE h o T x hop AOl hy
 | makeFunc fn first caps =>
  rw[hop] at hy hc
  cases fn with
  | func f =>
   simp only[WC] at hy
   split at hy
   ·rename_i hfe
    split at hy
    ·rename_i xs st1 hx
     simp only[ak,bK] at hy
     obtain⟨rfl,rfl⟩:=hy
     have hcc:caps.toList.all Ak=true:=by
      simp only[Op.operands,aaL,jU,ay] at hc
      exact hc.2
     obtain⟨St',q1,q2,q3,q4⟩:=nT _ _ s.st _ xs St h (Jr h caps.toList hcc) hx
     have hf0:first = #[]:=by
      apply abl
      simpa using hfe
     have e:caps.map a.eval=(caps.toList.map a.eval).toArray:=API
     refine⟨.value (.func (.func f) #[] (caps.map a.eval)),.func (.func f) #[] (caps.map a.eval),w,St',β,by simp[execOp,hop,hf0,Instr.makeFunc],.inl rfl,q1, ?_⟩
     simp only[AVR]
     grind
    ·cases hy
   ·cases hy
  | _=>simp[WC,Io,same] at hy
 | store T p x =>
  rw[hop] at hy hc
  simp[Op.operands] at hc
  exact ADB h o T p x hop hc.1 hc.2 hy
 | makeSlice T l c =>
  rw[hop] at hy hc
  simp[Op.operands] at hc
  exact AE5 h o T l c hop hc.1 hc.2 hy
 | buildSlice T len ps =>
  rw[hop] at hy hc
  exact iQ h o T len ps hop (by simpa [Op.operands,Function.comp_def] using hc) hy
 | build T ps =>
  rw[hop] at hy hc
  simp only[WC] at hy
  split at hy
  ·rename_i hfo
   exact ADC h o T ps hop hfo (by simpa [Op.operands,Function.comp_def] using hc) hy
  ·cases hy
 | slice T x lo hi mx =>
  cases mx with
  | none =>
   rw[hop] at hy hc
   simp[Op.operands] at hc
   refine ADL h o T x lo hi hop hc.1 ?_ ?_ hy
   ·cases lo with
    | none=>rfl
    | some q=>exact hc.2.1 q rfl
   ·cases hi with
    | none=>rfl
    | some q=>exact hc.2.2 q rfl
  | some m=>rw[hop] at hy; simp[WC,Io,same] at hy
 | call c =>
  by_cases hap:c.callee = .builtin .append
  ·rw[hop] at hy hc
   simp only[WC,hap] at hy
   split at hy
   ·rename_i x y2 T T' hca hct
    split at hy
    ·rename_i hT
     subst hT
     simp only[Op.operands,Call.operands,aaL,jU,ay,hca] at hc
     grind [AFE]
    ·simp only[Op.operands,Call.operands,aaL,jU,ay,hca] at hc
     grind [AFG]
   ·cases hy
  ·rw[hop] at hy
   have:WC P s (.call c)=same s.st (Io P s (.call c)):=by
    simp only[WC]
   grind
 | _=>exact hF (by rw[hop] at hy ⊢; exact hy)
theorem NS (o:Oper) (c:Call) (f:FuncId) (ho:o.op = .call c) (hcl:c.callee = .value (.func f)) (hin:CallsIn P f):(execOp a.eval o).run P w = .ok (.enter f (c.args.map a.eval)) w:=by
 have:=hin (c.args.map a.eval) w
 simp[execOp,ho,resolve,hcl,Act.eval,Deferred.ofValue,invoke,this]
theorem AAD (o:Oper) (c:Call) (f:FuncId) (x:Operand) (caps:Array Value) (ho:o.op = .call c) (hcl:c.callee = .value x) (hx:a.eval x = .func (.func f) #[] caps) (hin:CallsIn P f):(execOp a.eval o).run P w = .ok (.enter f (c.args.map a.eval++caps)) w:=by
 have:=hin (c.args.map a.eval++caps) w
 simp[execOp,ho,resolve,hcl,hx,Deferred.ofValue,invoke,this]
theorem SX (h:Core w0 St0 St β s a w) {rs:List Res} {e:Ending} {w':World} {us:List Value} {bs:List (Option Nat)} {St':Nat→Nat→Prop} (hb:Back w St rs e w' us bs St'):Core w0 St0 St' β s a w':=
 h.grow hb.below hb.st hb.stOld hb.stIn
theorem ADj (h:Core w0 St0 St β s a w) {rs:List Res} {e:Ending} {w':World} {us:List Value} {bs:List (Option Nat)} {St':Nat→Nat→Prop} (hb:Back w St rs e w' us bs St'):Own w0 (fun x=>w.heap.size≤x) w' St' s.st β:=
 h.own.grow hb.below hb.st hb.stOld h.stIn (fun l ob b h1 h2 h3=>(h.obs l ob b h1 h2 h3).2.1) (fun x h1 h2=>AOQ)
theorem ResR.blk {w w':World} {St':Nat→Nat→Prop}:∀ (rs:List Res) (us:List Value) (bs:List (Option Nat)) (Φs:List (Nat→Nat→Prop)),ResR w' St' w.heap.size rs us bs Φs→∀ (i b:Nat),bs[i]?=some (some b)→w.heap.size≤b:=by
 intro rs
 induction rs with
 | nil=>intro us bs Φs h i b hi; obtain⟨_,rfl,_⟩:=h; simp at hi
 | cons r rs ih =>
  intro us bs Φs h i b hi
  obtain⟨u,us',b0,bs',Φ,Φs',rfl,rfl,rfl,h1,h2⟩:=h
  cases i with
  | succ i=>grind
  | zero =>
   simp only[aV,ak] at hi
   subst hi
   cases r with
   | val x=>exact absurd h1.2 AOR
   | own ty sz xs wr=>exact h1.1
   | agg cl=>exact absurd h1.1 AOR
theorem Qw (h:Core w0 St0 St β s a w) {rs:List Res} {e:Ending} {w':World} {us:List Value} {bs:List (Option Nat)} {St':Nat→Nat→Prop} (hb:Back w St rs e w' us bs St') :
  ∃ β',Core w0 St0 St' β' ⟨s.n,s.env,(Ir s.st rs).2⟩ a w'∧AVRs w' St' (Ir s.st rs).2 β' (Ir s.st rs).1 us:=by
 obtain⟨Φs,hr,hf⟩:=hb.res
 have hfr:∀ x,w.heap.size≤x→∀ l o2,s.st[l]?=some o2→o2.live=true→β l≠some x:=fun x hx l o2 hl hlv hβ=>by
  have:=(h.obs l o2 x hl hlv hβ).2.1
  omega
 obtain⟨β',q1,q2,_⟩:=Yl w.heap.size rs us bs Φs s.st β (fun x=>w.heap.size≤x) (SX h hb) h.below.size (ADj h hb) hr hf
  (fun i b hi=>⟨ResR.blk rs us bs Φs hr i b hi,hfr b (ResR.blk rs us bs Φs hr i b hi)⟩) (fun i Φ k x hi hx=>⟨(hf.fresh i Φ k x hi hx).1,hfr x (hf.fresh i Φ k x hi hx).1⟩)
 grind
def InlS (P:Program) (f:FuncId) (st:List Ob) (args:List AV) (y:AV) (st':List Ob):Prop:=CallsIn P f∧∀ (w0:Bs) (St0 St:Nat→Nat→Prop) (β:Nat→Option Nat) (s:MS) (a:Act) (w:World) (us:List Value),s.st=st→Core w0 St0 St β s a w→AVRs w St st β args us →
 Calls P f us.toArray w fun e w'=>∃ u,e = .returned u∧∃ St' β',Core w0 St0 St' β' ⟨s.n,s.env,st'⟩ a w'∧AVR w' St' st' β' y u
def Ci (P:Program) (s:MS) (o:Op) (r:AV):Prop:=match o with
 | .call c=>match c.callee with
  | .value (.func f)=>(∃ args rs,(We s.st (c.args.toList.map (Ei s))=some (args,s.st)∨(TM s.st (c.args.toList.map (Ei s))=some args∧rs.all Gn=true))∧Ctr P f args rs∧r=retA (Wj rs))∨InlS P f s.st (c.args.toList.map (Ei s)) r s.st
  | .value (.tmp t)=>match unpin (Bi s.env t) with
   | .clo f xs=>∃ args rs,We s.st (c.args.toList.map (Ei s))=some (args,s.st)∧Ctr P f (args++xs.map AV.ip) rs∧r=retA (Wj rs)
   | _=>False
  | .builtin .append=>False
  | _=>Io P s (.call c)=some r
 | .build T ps=>EX P T=true∧Tz P s T ps.toList=some (r,s.st)
 | .slice T x lo hi none=>UA P s T (Ei s x) lo hi=some (r,s.st)
 | op=>Io P s op=some r
theorem Wu (h:Core w0 St0 St β s a w) (o:Oper) (hc:o.op.operands.toList.all Ak=true) {r:AV} (hr:Ci P s o.op r) (Q:Exit→Act→World→Prop) :
  o.wp P a w (fun a' w'=>Sim w0 St0 (s.put o.dst r) a' w') Q:=by
 have hD:∀ {r:AV},Does P a w w0 St0 s o r s.st→o.wp P a w (fun a' w'=>Sim w0 St0 (s.put o.dst r) a' w') Q:=fun {r} hd=>by
  obtain⟨nx,v,w',St',β',h1,h2,h3,h4⟩:=hd
  unfold Oper.wp
  rw[h1]
  rcases h2 with rfl | ⟨rfl,rfl⟩
  ·exact⟨St',β',h3.put o.dst h4⟩
  ·exact⟨St',β',h3.put o.dst h4⟩
 have hF:∀ {r:AV},Io P s o.op=some r→o.wp P a w (fun a' w'=>Sim w0 St0 (s.put o.dst r) a' w') Q:=fun {r} hs=>hD (OQ h (mi h o hc hs))
 cases hop:o.op with
 | call c =>
  rw[hop] at hr
  simp only[Ci] at hr
  split at hr
  ·rename_i f hcl
   have hca:c.args.toList.all Ak=true:=by
    rw[hop] at hc
    exact ALN
   rcases hr with hr | ⟨hin,hr⟩
   rotate_left
   ·have hcall:=hr w0 St0 St β s a w _ rfl h (Jr h c.args.toList hca)
    have ea:(c.args.toList.map a.eval).toArray=c.args.map a.eval:=API
    rw[ea] at hcall
    unfold Oper.wp
    rw[NS o c f hop hcl hin]
    simp only[Oper.upon]
    refine hcall.mono fun e w' hb=>?_
    obtain⟨u,rfl,St',β',h1,h2⟩:=hb
    exact⟨St',β',h1.put o.dst h2⟩
   obtain⟨args,rs,hf,hspec,rfl⟩:=hr
   rcases hf with hf | hf
   ·obtain⟨St1,q1,q2,q3⟩:=VB _ _ _ _ St h hf
    have hargs:=q3 _ (Jr h c.args.toList hca)
    unfold Oper.wp
    rw[NS o c f hop hcl hspec.1]
    simp only[Oper.upon]
    have hcall:=hspec.2 w St1 (c.args.toList.map a.eval) q1.stIn hargs
    have ea:(c.args.toList.map a.eval).toArray=c.args.map a.eval:=API
    rw[ea] at hcall
    refine hcall.mono fun e w' hb=>?_
    obtain⟨us,bs,St2,hb⟩:=hb
    obtain⟨bs3,St3,hb3⟩:=VD hb
    have k1:=SX q1 hb3
    exact AHF
   ·obtain⟨φ,hφ⟩:=h.own
    have hargs:=Zv h hφ hf.1 (Jr h c.args.toList hca)
    unfold Oper.wp
    rw[NS o c f hop hcl hspec.1]
    simp only[Oper.upon]
    have hcall:=hspec.2 w _ (c.args.toList.map a.eval) (fun b o hb=>AllSt.lt h hφ hb) hargs
    have ea:(c.args.toList.map a.eval).toArray=c.args.map a.eval:=API
    rw[ea] at hcall
    refine hcall.mono fun e w' hb=>?_
    obtain⟨us,bs,St2,hb⟩:=hb
    have hb:=hb.clo hf.2 h.stIn
    obtain⟨bs3,St3,hb3⟩:=VD hb
    have k1:=SX h hb3
    exact AHF
  ·rename_i t hcl
   split at hr
   ·rename_i f xs hev
    obtain⟨args,rs,hf,hspec,rfl⟩:=hr
    have hca:c.args.toList.all Ak=true:=by
     rw[hop] at hc
     exact ALN
    obtain⟨St1,q1,q2,q3⟩:=VB _ _ _ _ St h hf
    have hargs:=q3 _ (Jr h c.args.toList hca)
    have he:AVR w St s.st β (unpin (Bi s.env t)) (a.eval (.tmp t)):=CO h (.tmp t) (aJ.1 hc _ (by rw[hop]; simp[Op.operands,Call.operands,hcl]))
    rw[hev] at he
    simp only[AVR] at he
    obtain⟨us0,hu0,hul,hur⟩:=he
    have hcap:RdAs w St1 (xs.map AV.ip) us0:=Wh hul fun k c hk=>by
     grind [RdL.mono]
    unfold Oper.wp
    rw[AAD o c f (.tmp t) us0.toArray hop hcl hu0 hspec.1]
    simp only[Oper.upon]
    have hcall:=hspec.2 w St1 (c.args.toList.map a.eval++us0) q1.stIn (Zr hargs hcap)
    have ea:(c.args.toList.map a.eval++us0).toArray=c.args.map a.eval++us0.toArray:=API
    rw[ea] at hcall
    refine hcall.mono fun e w' hb=>?_
    obtain⟨us,bs,St2,hb⟩:=hb
    obtain⟨bs3,St3,hb3⟩:=VD hb
    have k1:=SX q1 hb3
    exact AHF
   grind
  ·exact hr.elim
  grind
 | build T ps =>
  rw[hop] at hr
  refine hD (yF h o hc ?_)
  rw[hop]
  simp only[Ci] at hr
  simp only[WC,hr.1,bf]
  exact hr.2
 | slice T x lo hi mx =>
  rw[hop] at hr
  cases mx with
  | none =>
   refine hD (yF h o hc ?_)
   rw[hop]
   exact hr
  | some m=>simp only[Ci,Io] at hr; cases hr
 | _=>exact hF (by rw[hop] at hr ⊢; exact hr)
theorem jm {s s':MS} {x:Operand} (h:∀ t,x = .tmp t→Bi s'.env t=Bi s.env t):Ei s' x=Ei s x:=by
 cases x with
 | tmp t=>exact congrArg unpin (h t rfl)
 | _=>rfl
theorem Ph {s s':MS} (hst:s'.st=s.st) (o:Op) (h:∀ t,.tmp t∈o.operands.toList→Bi s'.env t=Bi s.env t) (r:AV) (hr:Ci P s o r):Ci P s' o r:=by
 have he:∀ x,x∈o.operands.toList→Ei s' x=Ei s x:=fun x hx=>jm fun t ht=>h t AOT
 cases o with
 | call c =>
  have hargs:∀ x∈c.args.toList,Ei s' x=Ei s x:=fun x hx=>he x (by
   simp only[Op.operands,Call.operands,aaL,aa1]
   exact .inr hx)
  have hmap:c.args.toList.map (Ei s')=c.args.toList.map (Ei s):=aaK hargs
  simp only[Ci] at hr ⊢
  split at hr
  ·grind
  ·rename_i t hcl
   have ht:Bi s'.env t=Bi s.env t:=h t (by simp[Op.operands,Call.operands,hcl])
   grind
  ·exact hr
  ·simp only[Io] at hr ⊢
   grind
 | build T ps =>
  have hps:∀ p∈ps.toList,Ei s' p.2=Ei s p.2:=fun p hp=>he p.2 (by
   simp only[Op.operands]
   grind)
  have key:∀ (l:List (Nat×Operand)),(∀ p∈l,Ei s' p.2=Ei s p.2)→Ib s' l=Ib s l:=by
   exact AMS
  simp only[Ci,Tz,key _ hps,hst] at hr ⊢
  exact hr
 | slice T x lo hi mx =>
  cases mx with
  | none =>
   have h1:Ei s' x=Ei s x:=he x AOY
   have h2:∀ d,Ic s' lo d=Ic s lo d:=fun d=>by
    cases lo with
    | none=>rfl
    | some q=>simp only[Ic]; rw[he q AOY]
   have h3:∀ d,Ic s' hi d=Ic s hi d:=fun d=>by
    cases hi with
    | none=>rfl
    | some q=>simp only[Ic]; rw[he q AOY]
   simp only[Ci,UA,vwE,h1,h2,h3,hst] at hr ⊢
   exact hr
  | some m=>simp only[Ci,Io] at hr; cases hr
 | move x=>simp only[Ci,Io] at hr ⊢; rw[he x AOY]; exact hr
 | assign x=>simp only[Ci,Io] at hr ⊢; rw[he x AOY]; exact hr
 | pick c x y=>simp only[Ci,Io] at hr ⊢; rw[he c AOY,he x AOY,he y AOY]; exact hr
 | load T x=>simp only[Ci,Io] at hr ⊢; rw[he x AOY,hst]; exact hr
 | nilCheck x=>simp only[Ci,Io] at hr ⊢; rw[he x AOY,hst]; exact hr
 | binOp op T x y T2=>simp only[Ci,Io] at hr ⊢; rw[he x AOY,he y AOY]; exact hr
 | unOp op T x=>simp only[Ci,Io] at hr ⊢; rw[he x AOY]; exact hr
 | convert a b x=>simp only[Ci,Io] at hr ⊢; rw[he x AOY,hst]; exact hr
 | fieldAddr T x f=>simp only[Ci,Io] at hr ⊢; rw[he x AOY,hst]; exact hr
 | field T x f=>simp only[Ci,Io] at hr ⊢; rw[he x AOY]; exact hr
 | indexAddr T x y=>simp only[Ci,Io] at hr ⊢; rw[he x AOY,he y AOY,hst]; exact hr
 | index T x y=>simp only[Ci,Io] at hr ⊢; rw[he x AOY,he y AOY]; exact hr
 | extract x i=>simp only[Ci,Io] at hr ⊢; rw[he x AOY]; exact hr
 | _=>simp only[Ci,Io] at hr; cases hr
def nU (ops:Array Oper) (env:List (Nat×AV)) (g:Option (Nat×Bool)):Option Bool:=match g with
 | none=>some true
 | some (j,want)=>match (ops[j]?).bind (·.dst) with
  | some d=>match (if d<1000000 then Bi env d else .un) with
   | .c (.v (.bool t))=>some (t==want)
   | .undef=>some false
   | _=>none
  | none=>some false
theorem nV (h:Core w0 St0 St β s a w) {ops:Array Oper} {o:Oper} {b:Bool} (hg:nU ops s.env o.guard=some b):Region.wanted o (yielded ops a.tmps)=b:=by
 unfold nU at hg
 unfold Region.wanted
 split at hg
 ·grind
 ·rename_i j want hn
  simp only[hn]
  unfold yielded
  split at hg
  ·rename_i d hd
   rw[hd]
   have henv:AVR w St s.st β (if d<1000000 then Bi s.env d else .un) (a.tmps.getD d undef):=by
    split
    ·have:=h.env d
     rwa [U7 ‹_›] at this
    ·simp only[AVR]
   split at hg
   ·rename_i t hev
    simp only[ak] at hg
    subst hg
    rw[hev] at henv
    obtain⟨hv,_⟩:=OO henv
    have hlt:d<a.tmps.size:=by
     rcases bV d a.tmps.size with h' | h'
     ·exact h'
     ·simp[h',undef] at hv
    simp_all
   ·rename_i hev
    simp only[ak] at hg
    subst hg
    rw[hev] at henv
    simp only[AVR] at henv
    simp only[abr]
    cases hq:a.tmps[d]? with
    | none=>simp
    | some v =>
     have:v=undef:=by simpa [hq] using henv
     subst this
     simp[undef]
   ·cases hg
  grind
def CondK (b:Bool) (x y:Prop):Prop:=(b=true→x)∧(b=false→y)
theorem KX {x y:Prop}:CondK true x y=x:=by simp[CondK]
theorem LX {x y:Prop}:CondK false x y=y:=by simp[CondK]
theorem AER {b:Bool} {x y:Prop} (h1:b=true→x) (h2:b=false→y):CondK b x y:=⟨h1,h2⟩
def TP (x:Option (AV×List Ob)) (K:AV→List Ob→Prop):Prop:=match x with
 | some (y,st)=>K y st
 | none=>False
def uA (x:Option (List AV×List Ob)) (K:List AV→List Ob→Prop):Prop:=match x with
 | some (y,st)=>K y st
 | none=>False
def TQ (x:Option Bool) (K:Bool→Prop):Prop:=match x with
 | some b=>K b
 | none=>False
def AAE (x:AV) (K:Bool→Prop):Prop:=match x with
 | .c (.v (.bool b))=>K b
 | _=>False
theorem yG {y:AV} {st:List Ob} {K:AV→List Ob→Prop}:TP (some (y,st)) K=K y st:=rfl
theorem yH {y:List AV} {st:List Ob} {K:List AV→List Ob→Prop}:uA (some (y,st)) K=K y st:=rfl
theorem yI {b:Bool} {K:Bool→Prop}:TQ (some b) K=K b:=rfl
theorem yJ {b:Bool} {K:Bool→Prop}:AAE (.c (.v (.bool b))) K=K b:=rfl
def DrK (P:Program) (s:MS) (o:Op) (K:AV→Prop):Prop:=∃ r,Ci P s o r∧K r
def uB (s:MS) (dst:Option Nat) (K:MS→Prop) (r:AV):Prop:=K (s.put dst r)
def gD (P:Program) (o:Oper) (K:MS→Prop) (s:MS) (b:Bool):Prop:=CondK b (DrK P s o.op (uB s o.dst K)) (K (s.put o.dst .undef))
theorem AFX {P:Program} {o:Oper} {K:MS→Prop} {s:MS}:gD P o K s true=DrK P s o.op (uB s o.dst K):=KX
theorem ADk {P:Program} {o:Oper} {K:MS→Prop} {s:MS}:gD P o K s false=K (s.put o.dst .undef):=LX
theorem gD.mk {P:Program} {o:Oper} {K:MS→Prop} {s:MS} {b:Bool} (h1:b=true→DrK P s o.op (uB s o.dst K)) (h2:b=false→K (s.put o.dst .undef)):gD P o K s b:=AER h1 h2
def vpD (P:Program) (ops:Array Oper) (K:MS→Prop):List Oper→MS→Prop
 | [],s=>K s
 | o::rest,s=>TQ (nU ops s.env o.guard) (gD P o (vpD P ops K rest) s)
def Bj (o:Oper) (i:Nat):Bool:=o.after.any fun e=>e.on==i&&Region.binds .any e
def Qx (ops:Array Oper) (o:Oper):List Nat:=
 (o.op.operands.toList.filterMap fun x=>match x with | .tmp t=>some t | _=>none)++(match o.guard with | some (j,_)=>((ops[j]?).bind (·.dst)).toList | none=>[])
def VS (ops:Array Oper) (i j:Nat):Bool:=match ops[i]?,ops[j]? with
 | some oi,some oj=>match oi.dst with
  | some d=>(i==j||oj.dst != some d)&&(i==j || !(Qx ops oj).contains d||(if i<j then Bj oj i else Bj oi j))
  | none=>true
 | _,_=>true
def FV (n:Nat) (ops:Array Oper):Bool:=
 ((List.range ops.size).all fun i=>(List.range ops.size).all fun j=>VS ops i j) &&
 ((List.range ops.size).all fun i=>match ops[i]? with | some o=>(o.after.all fun e=>!Region.binds .any e||e.on<i)&&(match o.dst with | some d=>d<n | none=>true) | none=>true)
theorem Core.congr (h:Core w0 St0 St β s a w) {s':MS} (hn:s'.n=s.n) (hst:s'.st=s.st) (he:∀ t,Bi s'.env t=Bi s.env t):Core w0 St0 St β s' a w:={
 defers:=h.defers
 size:=by rw[hn]; exact h.size
 lim:=by rw[hn]; exact h.lim
 env:=fun i=>by rw[he,hst]; exact h.env i
 below:=h.below,st0:=h.st0,stOld:=h.stOld,stIn:=h.stIn
 obs:=by rw[hst]; exact h.obs
 nil:=by rw[hst]; exact h.nil
 inj:=by rw[hst]; exact h.inj
 sep:=by rw[hst]; exact h.sep
 own:=by rw[hst]; exact h.own }
section draw
variable (ops:Array Oper) (R:Nat→AV)
def Bv (env:List (Nat×AV)) (X:Nat→Bool):Nat→List (Nat×AV)
 | 0=>env
 | k+1=>match (ops[k]?).bind (·.dst) with
  | some d=>if X k then(d,R k)::Bv env X k else Bv env X k
  | none=>Bv env X k
variable {ops R}
theorem Fq {env:List (Nat×AV)} {X:Nat→Bool} (hd:∀ (i j d:Nat),(ops[i]?).bind (·.dst)=some d→(ops[j]?).bind (·.dst)=some d→i=j) {i d:Nat} (hi:(ops[i]?).bind (·.dst)=some d) (hX:X i=true) :
  ∀ k,i<k→Bi (Bv ops R env X k) d=R i
 | 0,h=>AOQ
 | k+1,h=>by
  simp only[Bv]
  rcases bV i k with h' | h'
  ·have ih:=Fq (env:=env) (X:=X) hd hi hX k h'
   split
   ·rename_i d' hk
    split
    ·simp only[Bi]
     by_cases e:d'=d
     ·subst e
      have:=hd i k d' hi hk
      omega
     ·simp only[e,aX]; exact ih
    ·exact ih
   ·exact ih
  ·have:i=k:=by omega
   subst this
   simp only[hi,hX,bf,Bi]
theorem Bc {env:List (Nat×AV)} {X:Nat→Bool} {d:Nat}:∀ k,(∀ (i:Nat),i<k→(ops[i]?).bind (·.dst)=some d→X i=false)→Bi (Bv ops R env X k) d=Bi env d
 | 0,_=>rfl
 | k+1,hm=>by
  have ih:=Bc (env:=env) (X:=X) k (fun i hi=>hm i AOQ)
  simp only[Bv]
  split
  ·rename_i d' hk
   split
   ·rename_i hx
    simp only[Bi]
    by_cases e:d'=d
    ·subst e
     have:=hm k AOQ hk
     rw[hx] at this; cases this
    ·simp only[e,aX]; exact ih
   ·exact ih
  ·exact ih
end draw
theorem Xx {n:Nat} {ops:Array Oper} (h:FV n ops=true) {i j:Nat} (hi:i<ops.size) (hj:j<ops.size):VS ops i j=true:=by
 simp only[FV,ay] at h
 grind
theorem Z_ {n:Nat} {ops:Array Oper} (h:FV n ops=true):∀ (i j d:Nat),(ops[i]?).bind (·.dst)=some d→(ops[j]?).bind (·.dst)=some d→i=j:=by
 intro i j d hi hj
 cases hoi:ops[i]? with
 | none=>grind
 | some oi =>
  cases hoj:ops[j]? with
  | none=>grind
  | some oj =>
   simp only[hoi,hoj,abr] at hi hj
   have:=Xx h (bP.1 hoi).1 (bP.1 hoj).1
   simp only[VS,hoi,hoj,hi,ay,r_,iP,bne_iff_ne] at this
   grind
theorem N8 {n:Nat} {ops:Array Oper} (h:FV n ops=true) {i j d:Nat} {oi oj:Oper} (hoi:ops[i]?=some oi) (hoj:ops[j]?=some oj) (hd:oi.dst=some d) (hr:d∈Qx ops oj) (hne:i≠j) :
  (i<j→Bj oj i=true)∧(j<i→Bj oi j=true):=by
 have:=Xx h (bP.1 hoi).1 (bP.1 hoj).1
 simp only[VS,hoi,hoj,hd,ay,r_,iP,bne_iff_ne] at this
 grind
theorem GM {n:Nat} {ops:Array Oper} (h:FV n ops=true) {i:Nat} {o:Oper} (ho:ops[i]?=some o):(∀ e∈o.after,Region.binds .any e=true→e.on<i)∧∀ d,o.dst=some d→d<n:=by
 simp only[FV,ay] at h
 grind [aJ,bP,Array.all_eq_true']
theorem Dh {o:Oper} {i:Nat} {listed:Array Bool} (h:Bj o i=true) (hall:∀ e∈o.after,Region.binds .any e=true→listed.getD e.on false=true):listed.getD i false=true:=by
 unfold Bj at h
 grind
theorem a_ {n:Nat} {ops:Array Oper} {K:MS→Prop} (hok:FV n ops=true) (hn:s.n=n):∀ (l:List Oper) (k:Nat) (R0:Nat→AV),(∀ j,l[j]?=ops[k+j]?)→k+l.length=ops.size →
  vpD P ops K l ⟨s.n,Bv ops R0 s.env (fun i=>decide (i<k)) k,s.st⟩ →
  ∃ R:Nat→AV,(∀ i,i<k→R i=R0 i)∧K ⟨s.n,Bv ops R s.env (fun _=>true) ops.size,s.st⟩ ∧
   ∀ (i:Nat) (o:Oper),k≤i→ops[i]?=some o→∃ b,nU ops (Bv ops R s.env (fun _=>true) i) o.guard=some b∧(b=true→Ci P ⟨s.n,Bv ops R s.env (fun _=>true) i,s.st⟩ o.op (R i))∧(b=false→R i = .undef)
 | [],k,R0,hl,hk,h=>by
  simp only[aW,abA] at hk
  simp only[vpD] at h
  refine⟨R0,fun _ _=>rfl, ?_,fun i o hi ho=>?_⟩
  ·have key:∀ m,m≤k→Bv ops R0 s.env (fun i=>decide (i<k)) m=Bv ops R0 s.env (fun _=>true) m:=by
    intro m
    exact AMT
   grind
  grind
 | o::l,k,R0,hl,hk,h=>by
  have ho:ops[k]?=some o:=by simpa using(hl 0).symm
  have key:∀ (R1:Nat→AV) (m:Nat),m≤k→Bv ops R1 s.env (fun i=>decide (i<k)) m=Bv ops R1 s.env (fun _=>true) m:=by
   intro R1 m
   exact AMT
  have keyR:∀ (R1 R2:Nat→AV) (m:Nat),(∀ i,i<m→R1 i=R2 i)→Bv ops R1 s.env (fun _=>true) m=Bv ops R2 s.env (fun _=>true) m:=by
   intro R1 R2 m
   induction m with
   | zero=>intro _; rfl
   | succ m ih =>
    intro hm
    simp only[Bv,ih (fun i hi=>hm i AOQ),hm m AOQ]
  simp only[vpD,TQ,gD,uB] at h
  have step:∀ r:AV,vpD P ops K l (MS.put ⟨s.n,Bv ops R0 s.env (fun i=>decide (i<k)) k,s.st⟩ o.dst r) →
    ∃ R:Nat→AV,(∀ i,i<k→R i=R0 i)∧R k=r∧K ⟨s.n,Bv ops R s.env (fun _=>true) ops.size,s.st⟩ ∧
     ∀ (i:Nat) (o:Oper),k+1≤i→ops[i]?=some o→∃ b,nU ops (Bv ops R s.env (fun _=>true) i) o.guard=some b∧(b=true→Ci P ⟨s.n,Bv ops R s.env (fun _=>true) i,s.st⟩ o.op (R i))∧(b=false→R i = .undef):=by
   intro r hr
   have e1:MS.put ⟨s.n,Bv ops R0 s.env (fun i=>decide (i<k)) k,s.st⟩ o.dst r=⟨s.n,Bv ops (fun i=>if i=k then r else R0 i) s.env (fun i=>decide (i<k+1)) (k+1),s.st⟩:=by
    have key2:∀ m,m≤k→Bv ops (fun i=>if i=k then r else R0 i) s.env (fun i=>decide (i<k+1)) m=Bv ops R0 s.env (fun i=>decide (i<k)) m:=by
     intro m
     induction m with
     | zero=>intro _; rfl
     | succ m ih =>
      intro hm
      have h1:m<k:=AOQ
      have h2:m<k+1:=AOQ
      have h3:¬ m=k:=AOQ
      simp only[Bv,ih AOQ,h1,h2,h3,decide_true,aX]
    simp only[Bv,ho,abr,key2 k (aT _)]
    cases hd:o.dst with
    | none=>simp only[MS.put]
    | some d =>
     have:=(GM hok ho).2 d hd
     have h2:k<k+1:=AOQ
     simp[MS.put,hn,this,h2]
   rw[e1] at hr
   obtain⟨R,h1,h2,h3⟩:=a_ hok hn l (k+1) _ (fun j=>by
    have:=hl (j+1)
    grind) AOT hr
   exact⟨R,fun i hi=>AOT,AOT,h2,h3⟩
  split at h
  ·rename_i b hb
   cases b with
   | true =>
    obtain⟨r,hr1,hr2⟩:=h.1 rfl
    obtain⟨R,h1,h2,h3,h4⟩:=step r hr2
    grind
   | false =>
    obtain⟨R,h1,h2,h3,h4⟩:=step _ (h.2 rfl)
    grind
  grind
theorem Sim.congr {s s':MS} (h:Sim w0 St0 s a w) (hn:s'.n=s.n) (hst:s'.st=s.st) (he:∀ t,Bi s'.env t=Bi s.env t):Sim w0 St0 s' a w:=by
 obtain⟨St,β,h⟩:=h
 exact⟨St,β,h.congr hn hst he⟩
theorem Wv {ops:Array Oper} {env env':List (Nat×AV)} {o:Oper} (h:∀ t∈Qx ops o,Bi env' t=Bi env t):nU ops env' o.guard=nU ops env o.guard:=by
 unfold nU
 split
 ·rfl
 ·rename_i j want hg
  split
  ·rename_i d hd
   rw[h d (by simp only[Qx,hg,hd,Option.toList]; simp)]
  ·rfl
theorem Ij {listed:Array Bool} {i j:Nat} (hi:i<listed.size):(listed.setIfInBounds i true).getD j false=if i=j then true else listed.getD j false:=by
 by_cases e:i=j
 ·simp_all
 simp_all
theorem LY {ops:Array Oper} (h:(ops.toList.all fun o=>o.op.operands.toList.all Ak)=true) {i:Nat} {o:Oper} (ho:ops[i]?=some o):o.op.operands.toList.all Ak=true:=
 aJ.1 h o (by
  grind)
theorem ADl {ops:Array Oper} {n:Nat} (hok:FV n ops=true) (hops:(ops.toList.all fun o=>o.op.operands.toList.all Ak)=true) (env:List (Nat×AV)) (st:List Ob) (R:Nat→AV)
  (hR:∀ (i:Nat) (o:Oper),ops[i]?=some o→∃ b,nU ops (Bv ops R env (fun _=>true) i) o.guard=some b∧(b=true→Ci P ⟨n,Bv ops R env (fun _=>true) i,st⟩ o.op (R i))∧(b=false→R i = .undef))
  (Q:Exit→Act→World→Prop) (hQ:∀ a w,Sim w0 St0 ⟨n,Bv ops R env (fun _=>true) ops.size,st⟩ a w→Q .normal a w) :
  ∀ (fuel:Nat) (listed:Array Bool) (a:Act) (w:World),listed.size=ops.size→listed.toList.countP (fun b=>!b)≤fuel →
   (∀ (i:Nat) (o:Oper),listed.getD i false=true→ops[i]?=some o→∀ e∈o.after,Region.binds .any e=true→listed.getD e.on false=true) →
   Sim w0 St0 ⟨n,Bv ops R env (fun i=>listed.getD i false) ops.size,st⟩ a w→wpAny P .any ops Q fuel listed a w:=by
 have hdst:=Z_ hok
 have hall:∀ (listed:Array Bool) (a:Act) (w:World),(∀ i,i<ops.size→listed.getD i false=true)→Sim w0 St0 ⟨n,Bv ops R env (fun i=>listed.getD i false) ops.size,st⟩ a w→Q .normal a w:=by
  intro listed a w hl hs
  refine hQ a w (hs.congr rfl rfl fun t=>?_)
  exact ALG
 have hready:∀ (listed:Array Bool),Region.ready .any ops listed = []→listed.size=ops.size→∀ i,i<ops.size→listed.getD i false=true:=by
  intro listed hr hsz i
  exact AKf
 intro fuel
 induction fuel with
 | zero =>
  intro listed a w hsz hcnt hcl hs
  have hl:∀ i,i<ops.size→listed.getD i false=true:=by
   exact ALj
  refine⟨?_,hall listed a w hl hs⟩
  apply List.eq_nil_iff_forall_not_mem.2
  grind [mem_ready,bP]
 | succ fuel ih =>
  intro listed a w hsz hcnt hcl hs
  refine⟨fun hr=>hall listed a w (hready listed hr hsz) hs,fun i hi=>?_⟩
  rw[mem_ready] at hi
  obtain⟨hun,o,ho,hafter⟩:=hi
  have hi':i<ops.size:=(bP.1 ho).1
  have hi2:i<listed.size:=AOQ
  have hun':listed.getD i false=false:=by
   exact AN_
  have hread:∀ t∈Qx ops o,Bi (Bv ops R env (fun i=>listed.getD i false) ops.size) t=Bi (Bv ops R env (fun _=>true) i) t:=by
   intro t ht
   by_cases hj:∃ (j:Nat),(ops[j]?).bind (·.dst)=some t
   ·obtain⟨j,hj⟩:=hj
    cases hoj:ops[j]? with
    | none=>grind
    | some oj =>
     have hjd:oj.dst=some t:=by simpa [hoj] using hj
     have hjs:j<ops.size:=(bP.1 hoj).1
     rcases Nat.lt_trichotomy j i with h1 | h1 | h1
     ·have hb:=(N8 hok hoj ho hjd ht AOQ).1 h1
      grind [Dh,Fq]
     ·grind [Bc]
     ·have hb:=(N8 hok hoj ho hjd ht AOQ).2 h1
      grind [Dh,Bc]
   ·grind [Bc]
  obtain⟨b,hb1,hb2,hb3⟩:=hR i o ho
  rw[← Wv hread] at hb1
  obtain⟨St,β,hcore⟩:=hs
  have hwant:=nV hcore (o:=o) hb1
  have hnext:∀ (r:AV) (a':Act) (w':World),r=R i→Sim w0 St0 (MS.put ⟨n,Bv ops R env (fun i=>listed.getD i false) ops.size,st⟩ o.dst r) a' w'→wpAny P .any ops Q fuel (listed.setIfInBounds i true) a' w':=by
   intro r a' w' hr hsim
   subst hr
   refine ih _ a' w' AOT ?_ ?_ ?_
   ·have hset:(listed.setIfInBounds i true).toList=listed.toList.set i true:=by simp
    rw[hset,List.countP_set AOQ]
    have hv:listed.toList[i]' AOQ=false:=by simpa [hi2] using hun'
    grind
   ·grind [Ij,ak]
   ·refine hsim.congr ?_ ?_ fun t=>?_
    ·exact ALv
    ·exact ALv
    ·have hX:(fun j=>(listed.setIfInBounds i true).getD j false)=fun j=>if i=j then true else listed.getD j false:=funext fun j=>Ij hi2
     rw[hX]
     cases hd:o.dst with
     | none =>
      simp only[MS.put]
      by_cases hj:∃ (j:Nat),(ops[j]?).bind (·.dst)=some t
      ·grind [bP,Fq,Bc]
      grind [Bc]
     | some d =>
      have hdn:=(GM hok ho).2 d hd
      have hid:(ops[i]?).bind (·.dst)=some d:=by simp[ho,hd]
      simp only[MS.put,hdn,bf,Bi]
      grind [Fq,bP,ry,Bc]
  unfold wpOp
  simp only[ho,hwant]
  cases b with
  | true =>
   simp only[bf]
   left
   have hstep:=Ph (P:=P) (s:=⟨n,Bv ops R env (fun _=>true) i,st⟩) (s':=⟨n,Bv ops R env (fun i=>listed.getD i false) ops.size,st⟩) rfl o.op (fun t ht=>hread t (by
    simp only[Qx,aa1]
    grind)) (R i) (hb2 rfl)
   exact Oper.wp_mono (fun a' w' hs=>hnext (R i) a' w' rfl hs) (Wu hcore o (LY hops ho) hstep Q)
  | false =>
   simp only[aB,aX]
   refine hnext .undef _ _ (hb3 rfl).symm ⟨St,β,hcore.put o.dst ?_⟩
   simp only[AVR]
theorem Xy {ops:Array Oper} (hok:FV s.n ops=true) (hops:(ops.toList.all fun o=>o.op.operands.toList.all Ak)=true) (h:Core w0 St0 St β s a w) {K:MS→Prop} (hK:vpD P ops K ops.toList s) :
  wpAny P .any ops (fun e a' w'=>e = .normal∧∃ s',K s'∧s'.n=s.n∧Sim w0 St0 s' a' w') ops.size (Array.replicate ops.size false) a { w with drawn:=w.drawn+1 }:=by
 obtain⟨R,_,hKs,hR⟩:=a_ (K:=K) hok rfl ops.toList 0 (fun _=>.un) (fun j=>AOR) AOR (by simpa [Bv] using hK)
 have hgrow:Core w0 St0 St β s a { w with drawn:=w.drawn+1 }:=h.grow (w':={ w with drawn:=w.drawn+1 }) ⟨rfl,rfl,rfl,aT _,fun _ _=>rfl⟩ (fun _ _ h=>h) (fun _ _ h _=>h) h.stIn
 refine ADl (P:=P) (n:=s.n) hok hops s.env s.st R (fun i o ho=>hR i o (aA _) ho) _ (fun a w hs=>⟨rfl,_,hKs,rfl,hs⟩) ops.size (Array.replicate ops.size false) a _ AOR ?_ ?_ ?_
 ·grind [List.countP_le_length]
 ·intro i o hi
  have:(Array.replicate ops.size false).getD i false=false:=by
   simp[aa5]
   split<;>rfl
  grind
 ·refine⟨St,β,hgrow.congr rfl rfl fun t=>?_⟩
  rw[Bc ops.size (fun k _ _=>APj)]
section
variable {P:Program} {Q:Exit→Act→World→Prop}
def H6 (ops:Array Oper):Array Bool→List Nat→Prop
 | listed,[]=>Region.ready .any ops listed = []
 | listed,i::L=>i∈Region.ready .any ops listed∧H6 ops (listed.setIfInBounds i true) L
theorem Pi {ops:Array Oper}:∀ (L:List Nat) (fuel:Nat) (listed:Array Bool) (a:Act) (w:World),wpAny P .any ops Q fuel listed a w→H6 ops listed L→wpOps P ops Q L a w
 | [],0,listed,a,w,h,hv=>by simpa [wpOps] using h.2
 | [],fuel+1,listed,a,w,h,hv=>by simpa [wpOps] using h.1 hv
 | i::L,0,listed,a,w,h,hv=>by
  have:=hv.1
  rw[h.1] at this; cases this
 | i::L,fuel+1,listed,a,w,h,hv=>by
  rw[wpOps_cons]
  exact wpOp_mono (fun a w hh=>Pi L fuel _ a w hh hv.2) (h.2 i hv.1)
theorem b_ {ops:Array Oper} {listed:Array Bool} (hl:∀ i,i<ops.size→listed.getD i false=true) (hsz:listed.size=ops.size):Region.ready .any ops listed = []:=by
 apply List.eq_nil_iff_forall_not_mem.2
 grind [mem_ready,bP]
theorem ABl {ops:Array Oper} {n:Nat} (hok:FV n ops=true) {listed:Array Bool} (hr:Region.ready .any ops listed = []) (hsz:listed.size=ops.size):∀ i,i<ops.size→listed.getD i false=true:=by
 intro i
 exact AKf
theorem uC {ops:Array Oper}:∀ (fuel t:Nat) (listed:Array Bool),listed.size=ops.size→listed.toList.countP (fun b=>!b)≤fuel→H6 ops listed (Region.linearise.go .any ops fuel t listed [])
 | 0,t,listed,hsz,hcnt=>by
  simp only[Region.linearise.go,List.reverse_nil,H6]
  refine b_ (fun i hi=>?_) hsz
  have h0:listed.toList.countP (fun b=>!b)=0:=AOQ
  rw[List.countP_eq_zero] at h0
  have hi':i<listed.size:=AOQ
  have:=h0 listed[i] AOR
  simp_all
 | fuel+1,t,listed,hsz,hcnt=>by
  simp only[Region.linearise.go]
  change H6 ops listed (match (Region.ready .any ops listed)[t%(Region.ready .any ops listed).length]? with
   | some i=>Region.linearise.go .any ops fuel (t/(Region.ready .any ops listed).length) (listed.setIfInBounds i true) [i]
   | none=>[].reverse)
  cases hi:(Region.ready .any ops listed)[t%(Region.ready .any ops listed).length]? with
  | none =>
   have hnil:Region.ready .any ops listed = []:=by
    cases hr:Region.ready .any ops listed with
    | nil=>rfl
    | cons x xs =>
     grind [Nat.mod_lt]
   simpa [H6] using hnil
  | some i =>
   have hm:=bC hi
   simp only[]
   rw[linearise_go_acc,List.reverse_singleton,List.singleton_append]
   refine⟨hm,uC fuel _ _ AOT ?_⟩
   rw[mem_ready] at hm
   obtain⟨hun,o,ho,_⟩:=hm
   have hi':i<ops.size:=(bP.1 ho).1
   have hi2:i<listed.size:=AOQ
   have hun':listed.getD i false=false:=by
    exact AN_
   have hset:(listed.setIfInBounds i true).toList=listed.toList.set i true:=AOR
   rw[hset,List.countP_set AOQ]
   simp_all
theorem YU {id:Nat} {ops:Array Oper} {a:Act} {w:World} (hm:P.follows .mixedOrders=true)
  (h:∀ L,H6 ops (Array.replicate ops.size false) L→wpOps P ops Q L a { w with drawn:=w.drawn+1 }):(Code.region id ops true).wp P Q a w:=
 wp_region_draw fun t=>by
  simp only[Region.schedule,hm,dh,bf]
  refine h _ (uC ops.size t _ AOR ?_)
  grind [List.countP_le_length]
def Lr:List Nat→Nat→Nat
 | [],_=>0
 | x::xs,i=>match Nat.beq x i with
  | true=>0
  | false=>Lr xs i+1
def rnE (σ:List Nat) (e:Edge):Edge:=⟨Lr σ e.on,e.ground⟩
def uD (σ:List Nat):List Edge→List Edge
 | []=>[]
 | e::es=>rnE σ e::uD σ es
theorem uF {σ:List Nat} {e':Edge}:∀ {l:List Edge},e'∈uD σ l→∃ e∈l,e'=rnE σ e
 | [],h=>APh
 | e::es,h=>by
  simp only[uD,SK] at h
  rcases h with rfl | h
  ·grind
  ·obtain⟨x,hx,rfl⟩:=uF h
   grind
def rnG (σ:List Nat):Option (Nat×Bool)→Option (Nat×Bool)
 | none=>none
 | some (j,b)=>some (Lr σ j,b)
def ADm (e1 e2 i:Nat) (l:List Edge):List Edge:=match Nat.beq i e2 with
 | true=>⟨e1,.data⟩::l
 | false=>l
def rnO (σ:List Nat) (e1 e2 i:Nat) (o:Oper):Oper:=⟨o.dst,o.op,o.type,o.pos,(uD σ (ADm e1 e2 i o.after.toList)).toArray,rnG σ o.guard⟩
def AAF (σ:List Nat) (e1 e2 i:Nat):Option Oper→List Oper→List Oper
 | some o,r=>rnO σ e1 e2 i o::r
 | none,r=>r
def nX (σ:List Nat) (e1 e2:Nat) (l:List Oper):List Nat→List Oper
 | []=>[]
 | i::is=>AAF σ e1 e2 i l[i]? (nX σ e1 e2 l is)
def IM (σ:List Nat) (e1 e2:Nat) (l:List Oper):List Oper:=nX σ e1 e2 l σ
def yK (σ:List Nat) (n:Nat):Bool:=σ.length==n&&((List.range n).all fun i=>σ[Lr σ i]?==some i)&&((List.range n).all fun j=>match σ[j]? with | some i=>decide (i<n)&&Lr σ i==j | none=>false)
def TR (n:Nat) (l:List Oper) (σ:List Nat) (e1 e2:Nat):Bool:=
 yK σ l.length&&(l.all fun o=>match o.guard with | some (j,_)=>decide (j<l.length) | none=>true)&&FV n (IM σ e1 e2 l).toArray&&((IM σ e1 e2 l).all fun o=>o.op.operands.toList.all Ak)
theorem VT {σ:List Nat} {e1 e2:Nat} {l:List Oper}:∀ (is:List Nat),(∀ i∈is,i<l.length)→(nX σ e1 e2 l is).length=is.length∧∀ (k i:Nat),is[k]?=some i→∃ o,l[i]?=some o∧(nX σ e1 e2 l is)[k]?=some (rnO σ e1 e2 i o)
 | [],_=>⟨rfl,fun k i h=>AOx⟩
 | i::is,h=>by
  obtain⟨q1,q2⟩:=VT (σ:=σ) (e1:=e1) (e2:=e2) (l:=l) is (fun x hx=>h x APc)
  have hi:=h i AOR
  simp only[nX,au hi,AAF]
  grind
def Bfr (e1 e2:Nat):List Nat→Prop
 | []=>True
 | i::L=>i=e1∨(i≠e2∧Bfr e1 e2 L)
theorem ADn {e1 e2:Nat} (h:e1≠e2):∀ L:List Nat,Bfr e1 e2 L∨Bfr e2 e1 L
 | []=>.inl trivial
 | i::L=>by
  by_cases h1:i=e1
  ·exact .inl (.inl h1)
  ·by_cases h2:i=e2
   ·exact .inr (.inl h2)
   ·rcases ADn h L with h3 | h3
    ·exact .inl (.inr ⟨h2,h3⟩)
    ·exact .inr (.inr ⟨h1,h3⟩)
section perm
variable {σ:List Nat} {e1 e2:Nat} {l:List Oper}
structure PermF (σ:List Nat) (n:Nat):Prop where
 len:σ.length=n
 at_:∀ i,i<n→σ[Lr σ i]?=some i
 lt:∀ (j i:Nat),σ[j]?=some i→i<n∧Lr σ i=j
theorem ABm {n:Nat} (h:yK σ n=true):PermF σ n:=by
 simp only[yK,ay,iP] at h
 obtain⟨⟨h1,h2⟩,h3⟩:=h
 refine⟨h1,fun i hi=>?_,fun j i hj=>?_⟩
 ·grind
 grind
theorem AFZ (hp:PermF σ l.length) (hg:∀ o∈l,∀ j b,o.guard=some (j,b)→j<l.length) {i:Nat} (hi:i<l.length) {K:Act→World→Prop} {a:Act} {w:World}
  (h:wpOp P (IM σ e1 e2 l).toArray Q (Lr σ i) K a w):wpOp P l.toArray Q i K a w:=by
 have hlt:∀ x∈σ,x<l.length:=fun x hx=>by
  exact ANC
 have hG:=(VT (σ:=σ) (e1:=e1) (e2:=e2) (l:=l) σ hlt).2
 obtain⟨o,ho,ho'⟩:=hG _ _ (hp.at_ i hi)
 have hy:∀ j,j<l.length→yielded (IM σ e1 e2 l).toArray a.tmps (Lr σ j)=yielded l.toArray a.tmps j:=fun j hj=>by
  obtain⟨oj,hoj,hoj'⟩:=hG _ _ (hp.at_ j hj)
  unfold yielded
  simp only[aa4,IM,hoj',hoj,abr]
  rfl
 have hw:Region.wanted (rnO σ e1 e2 i o) (yielded (IM σ e1 e2 l).toArray a.tmps)=Region.wanted o (yielded l.toArray a.tmps):=by
  cases hgd:o.guard with
  | none=>simp only[Region.wanted,rnO,rnG,hgd]
  | some jb =>
   obtain⟨j,b⟩:=jb
   have:=hy j (hg o (bC ho) j b hgd)
   simp only[Region.wanted,rnO,rnG,hgd,this]
 unfold wpOp at h ⊢
 have ho2:(IM σ e1 e2 l).toArray[Lr σ i]?=some (rnO σ e1 e2 i o):=by simpa [IM] using ho'
 have ho3:l.toArray[i]?=some o:=by simpa using ho
 simp only[ho2,ho3,hw] at h ⊢
 exact h
theorem nY {n n':Nat} (hok:FV n l.toArray=true) (hok':FV n' (IM σ e1 e2 l).toArray=true) (hp:PermF σ l.length) (hg:∀ o∈l,∀ j b,o.guard=some (j,b)→j<l.length) (hne:e1≠e2) :
  ∀ (L:List Nat) (listed listed':Array Bool),listed.size=l.length→listed'.size=l.length→(∀ i,i<l.length→listed.getD i false=listed'.getD (Lr σ i) false)→H6 l.toArray listed L→(listed.getD e1 false=true∨Bfr e1 e2 L) →
   H6 (IM σ e1 e2 l).toArray listed' (L.map (Lr σ))∧∀ a w,wpOps P (IM σ e1 e2 l).toArray Q (L.map (Lr σ)) a w→wpOps P l.toArray Q L a w:=by
 have hlt:∀ x∈σ,x<l.length:=fun x hx=>by
  exact ANC
 obtain⟨hlen,hG⟩:=VT (σ:=σ) (e1:=e1) (e2:=e2) (l:=l) σ hlt
 have hlen':(IM σ e1 e2 l).toArray.size=l.length:=by simp[IM,hlen,hp.len]
 have hposlt:∀ i,i<l.length→Lr σ i<l.length:=fun i hi=>by
  have:=(aF.1 (hp.at_ i hi)).1
  rw[hp.len] at this; exact this
 intro L
 induction L with
 | nil =>
  intro listed listed' hs hs' hc hv _
  simp only[H6,di] at hv ⊢
  have hall:=ABl hok hv AOQ
  refine⟨b_ (fun j hj=>?_) AOQ,fun a w h=>by simpa [wpOps] using h⟩
  rw[hlen'] at hj
  have hj2:j<σ.length:=by rw[hp.len]; exact hj
  obtain⟨q1,q2⟩:=hp.lt j _ (au hj2)
  grind
 | cons i L ih =>
  intro listed listed' hs hs' hc hv hb
  obtain⟨hi,hv⟩:=hv
  rw[mem_ready] at hi
  obtain⟨hun,o,ho,haft⟩:=hi
  have hil:i<l.length:=by have:=(bP.1 ho).1; simpa using this
  have hun':listed.getD i false=false:=by
   have hi2:i<listed.size:=AOQ
   exact AN_
  have ho2:l[i]?=some o:=by simpa using ho
  obtain⟨o',ho',hog⟩:=hG _ _ (hp.at_ i hil)
  rw[ho2] at ho'
  cases ho'
  have hready:Lr σ i∈Region.ready .any (IM σ e1 e2 l).toArray listed':=by
   rw[mem_ready]
   refine⟨?_,rnO σ e1 e2 i o,by simpa [IM] using hog,fun e he hbd=>?_⟩
   ·grind
   ·simp only[rnO,List.mem_toArray] at he
    obtain⟨e0,he0,rfl⟩:=uF he
    have hin:(e0=⟨e1,.data⟩∧i=e2)∨e0∈o.after.toList:=by
     simp only[ADm] at he0
     split at he0
     ·simp_all
     ·grind
    simp only[rnE]
    rcases hin with ⟨rfl,rfl⟩ | hin
    ·have h1:listed.getD e1 false=true:=by
      rcases hb with hb | hb
      ·exact hb
      ·rcases hb with hb | ⟨hb,_⟩
       ·omega
       omega
     grind
    ·have hbd0:Region.binds .any e0=true:=by
      simp only[rnE] at hbd
      cases e0
      exact hbd
     grind
  have hi2:i<listed.size:=AOQ
  have hi2':Lr σ i<listed'.size:=by rw[hs']; exact hposlt i hil
  obtain⟨v1,v2⟩:=ih (listed.setIfInBounds i true) (listed'.setIfInBounds (Lr σ i) true) AOT AOT (fun j hj=>by
   rw[Ij hi2,Ij hi2',hc j hj]
   by_cases e:i=j
   ·subst e; simp
   ·have:Lr σ i≠Lr σ j:=fun e2=>by
     have h1:=hp.at_ i hil
     have h2:=hp.at_ j hj
     grind
    grind) hv (by
   rcases hb with hb | hb
   ·grind [Ij]
   ·rcases hb with rfl | ⟨_,hb⟩
    ·simp_all
    grind)
  refine⟨⟨hready,v1⟩,fun a w h=>?_⟩
  rw[YR,wpOps_cons] at h
  rw[wpOps_cons]
  exact wpOp_mono v2 (AFZ hp hg hil h)
end perm
theorem Qy {n:Nat} {l:List Oper} {σ:List Nat} {e1 e2:Nat} (h:TR n l σ e1 e2=true):PermF σ l.length∧(∀ o∈l,∀ j b,o.guard=some (j,b)→j<l.length)∧FV n (IM σ e1 e2 l).toArray=true∧((IM σ e1 e2 l).toArray.toList.all fun o=>o.op.operands.toList.all Ak)=true:=by
 simp only[TR,ay] at h
 grind [ABm,aJ]
theorem dA {l:List Oper} {σ:List Nat} {e1 e2:Nat} (hp:PermF σ l.length):(IM σ e1 e2 l).toArray.size=l.length:=by
 have hlt:∀ x∈σ,x<l.length:=fun x hx=>by
  exact ANC
 have:=(VT (σ:=σ) (e1:=e1) (e2:=e2) (l:=l) σ hlt).1
 simp[IM,this,hp.len]
theorem split_ok {n:Nat} {l:List Oper} {σ1 σ2:List Nat} {e1 e2:Nat} (hne:e1≠e2) (hok:FV n l.toArray=true) (h1:TR n l σ1 e1 e2=true) (h2:TR n l σ2 e2 e1=true) {a:Act} {w:World}
  (w1:∀ L,H6 (IM σ1 e1 e2 l).toArray (Array.replicate (IM σ1 e1 e2 l).toArray.size false) L→wpOps P (IM σ1 e1 e2 l).toArray Q L a w)
  (w2:∀ L,H6 (IM σ2 e2 e1 l).toArray (Array.replicate (IM σ2 e2 e1 l).toArray.size false) L→wpOps P (IM σ2 e2 e1 l).toArray Q L a w) :
  ∀ L,H6 l.toArray (Array.replicate l.toArray.size false) L→wpOps P l.toArray Q L a w:=by
 intro L hv
 have hrep:∀ (m k:Nat),(Array.replicate m false).getD k false=false:=fun m k=>by
  simp[aa5]
  split<;>rfl
 obtain⟨p1,g1,d1,_⟩:=Qy h1
 obtain⟨p2,g2,d2,_⟩:=Qy h2
 rcases ADn hne L with hb | hb
 ·exact ALW
 ·obtain⟨v1,v2⟩:=nY (P:=P) (Q:=Q) hok d2 p2 g2 (Ne.symm hne) L (Array.replicate l.toArray.size false) (Array.replicate (IM σ2 e2 e1 l).toArray.size false) AOR (by rw[dA p2]; simp) (fun i hi=>AOT) hv (.inr hb)
  grind
def dB (l:List Oper):Nat→List Nat→Bool
 | _,[]=>true
 | q,j::js=>(match l[j]? with | some o=>Bj o q | none=>false)&&dB l j js
theorem jo {x y z:Nat} (hz:y≠z):∀ L:List Nat,Bfr x y L→Bfr y z L→Bfr x z L
 | [],_,_=>trivial
 | i::L,h1,h2=>by
  rcases h1 with h1 | ⟨h1,h3⟩
  ·exact .inl h1
  ·rcases h2 with h2 | ⟨h2,h4⟩
   ·omega
   ·exact .inr ⟨h2,jo hz L h3 h4⟩
theorem dC {l:List Oper} {q j:Nat} {o:Oper} (ho:l[j]?=some o) (hb:Bj o q=true):∀ (L:List Nat) (listed:Array Bool),listed.getD q false=false→H6 l.toArray listed L→Bfr q j L
 | [],_,_,_=>trivial
 | i::L,listed,hq,hv=>by
  by_cases h1:i=q
  ·exact .inl h1
  ·refine .inr ⟨fun e=>?_,dC ho hb L _ ?_ hv.2⟩
   ·subst e
    obtain⟨_,o',ho',haft⟩:=(mem_ready ..).1 hv.1
    have e:o'=o:=by
     rw[aa4,ho] at ho'
     exact(ry ho').symm
    subst e
    simp only[Bj,Array.any_eq_true] at hb
    grind
   simp_all
theorem uG {l:List Oper}:∀ (js:List Nat) (q z:Nat),dB l q js=true→js.getLast?=some z→∀ (L:List Nat),H6 l.toArray (Array.replicate l.toArray.size false) L→Bfr q z L
 | [],_,_,_,h,_,_=>APh
 | [j],q,z,hp,hl,L,hv=>by
  simp only[List.getLast?_singleton,ak] at hl
  subst hl
  simp only[dB,aN] at hp
  split at hp
  ·rename_i o ho
   exact dC ho hp L _ (by simp[aa5]; split<;>rfl) hv
  ·cases hp
 | j::k::js,q,z,hp,hl,L,hv=>by
  rw[dB,ay] at hp
  obtain⟨hp1,hp2⟩:=hp
  have h2:=uG (k::js) j z hp2 AOT L hv
  split at hp1
  ·rename_i o ho
   have h1:=dC ho hp1 L _ (by simp[aa5]; split<;>rfl) hv
   grind [jo]
  ·cases hp1
theorem AHX {n:Nat} {l:List Oper} {σ1 js:List Nat} {e1 e2:Nat} (hne:e1≠e2) (hok:FV n l.toArray=true) (hp:dB l e1 js=true) (hl:js.getLast?=some e2) (h1:TR n l σ1 e1 e2=true) {a:Act} {w:World}
  (w1:∀ L,H6 (IM σ1 e1 e2 l).toArray (Array.replicate (IM σ1 e1 e2 l).toArray.size false) L→wpOps P (IM σ1 e1 e2 l).toArray Q L a w) :
  ∀ L,H6 l.toArray (Array.replicate l.toArray.size false) L→wpOps P l.toArray Q L a w:=by
 intro L hv
 have hrep:∀ (m k:Nat),(Array.replicate m false).getD k false=false:=fun m k=>by
  simp[aa5]
  split<;>rfl
 obtain⟨p1,g1,d1,_⟩:=Qy h1
 have hb:=uG js e1 e2 hp hl L hv
 exact ALW
end
def OwnL (st:List Ob):List Cl→List Cl→List Nat→(List Nat→Prop)→Prop
 | [],[],us,K=>K us
 | x::xs,.ow ty sz ys::rs,us,K=>match x with
  | .ref l=>match Cf st l with
   | some ob=>ob.ty=ty∧ob.sz=sz∧ob.xs=ys∧ob.wr=true∧BJ ys=true∧l∉us∧OwnL st xs rs (l::us) K
   | none=>False
  | .v (.slice none 0 0)=>ys = []∧OwnL st xs rs us K
  | _=>False
 | x::xs,y::rs,us,K=>x=y∧AB y=true∧OwnL st xs rs us K
 | _,_,_,_=>False
section owns
variable {φ:Nat→Nat→Nat→Prop}
theorem nZ (h:Core w0 St0 St β s a w) (hφ:VF w0 w St s.st β φ):∀ (xs ys:List Cl) (vs:List Value) (used:List Nat) (K:List Nat→Prop),vs.length=xs.length→(∀ (k:Nat) (c:Cl),xs[k]?=some c→∃ y,vs[k]?=some y∧RdC w St s.st β c y)→OwnL s.st xs ys used K →
  ∃ (used':List Nat) (Φ:Nat→Nat→Prop),K used'∧(∀ l∈used,l∈used')∧ys.length=xs.length∧(∀ (k:Nat) (c:Cl),ys[k]?=some c→∃ y,vs[k]?=some y∧RdO w St c y (Φ k)) ∧
   (∀ k x,Φ k x→∃ l,l∉used∧l∈used'∧Fp s.st β φ l x∧∀ ob,s.st[l]?=some ob→ob.wr=true)∧∀ k k' x,Φ k x→Φ k' x→k=k'
 | [],ys,vs,used,K,hl,hc,ho=>by
  cases ys with
  | nil=>exact⟨used,fun _ _=>False,ho,fun _ h=>h,rfl,fun k c hk=>APA,fun _ _ h=>h.elim,fun _ _ _ h=>h.elim⟩
  | cons y ys=>cases y<;>simp[OwnL] at ho
 | x::xs,[],vs,used,K,hl,hc,ho=>APy
 | x::xs,y::ys,[],used,K,hl,hc,ho=>APr
 | x::xs,y::ys,v::vs,used,K,hl,hc,ho=>by
  have hl':vs.length=xs.length:=APF
  have hc':∀ (k:Nat) (c:Cl),xs[k]?=some c→∃ y,vs[k]?=some y∧RdC w St s.st β c y:=fun k c hk=>by simpa using hc (k+1) c AOT
  obtain⟨v0,hv0,hx⟩:=hc 0 x rfl
  simp only[aV,ak] at hv0
  subst hv0
  have cons:∀ (used1:List Nat) (F:Nat→Prop),(∀ l∈used,l∈used1)→RdO w St y v F→(∀ x,F x→∃ l,l∉used∧l∈used1∧Fp s.st β φ l x∧∀ ob,s.st[l]?=some ob→ob.wr=true)→OwnL s.st xs ys used1 K →
    ∃ (used':List Nat) (Φ:Nat→Nat→Prop),K used'∧(∀ l∈used,l∈used')∧(y::ys).length=(x::xs).length∧(∀ (k:Nat) (c:Cl),(y::ys)[k]?=some c→∃ z,(v::vs)[k]?=some z∧RdO w St c z (Φ k)) ∧
     (∀ k x,Φ k x→∃ l,l∉used∧l∈used'∧Fp s.st β φ l x∧∀ ob,s.st[l]?=some ob→ob.wr=true)∧∀ k k' x,Φ k x→Φ k' x→k=k':=by
   intro used1 F hu hr hF hrest
   obtain⟨used',Φ,r1,r2,r3,r4,r5,r6⟩:=nZ h hφ xs ys vs used1 K hl' hc' hrest
   refine⟨used',fun k x=>match k with | 0=>F x | k+1=>Φ k x,r1,fun l hl=>r2 l (hu l hl),by simp[r3],fun k c hk=>?_,fun k x hx=>?_,fun k k' x hx hx'=>?_⟩
   ·cases k with
    | zero =>
     grind
    | succ k=>grind
   ·grind
   ·grind [JM]
  have plain:x=y∧AB y=true∧OwnL s.st xs ys used K→∃ (used':List Nat) (Φ:Nat→Nat→Prop),K used'∧(∀ l∈used,l∈used')∧(y::ys).length=(x::xs).length∧(∀ (k:Nat) (c:Cl),(y::ys)[k]?=some c→∃ z,(v::vs)[k]?=some z∧RdO w St c z (Φ k)) ∧
     (∀ k x,Φ k x→∃ l,l∉used∧l∈used'∧Fp s.st β φ l x∧∀ ob,s.st[l]?=some ob→ob.wr=true)∧∀ k k' x,Φ k x→Φ k' x→k=k':=by
   rintro⟨rfl,hp,hrest⟩
   exact cons used (fun _=>False) (fun _ h=>h) ((RdO.plain (LV hp)).2 (U_ hp hx)) (fun _ h=>h.elim) hrest
  cases y with
  | v z=>exact plain AOe
  | sl z=>exact plain AOe
  | ref z=>exact plain AOe
  | ow ty sz zs =>
   simp only[OwnL] at ho
   split at ho
   ·rename_i l
    split at ho
    ·rename_i ob hob
     obtain⟨rfl,rfl,rfl,hwr,hnr,hnu,hrest⟩:=ho
     obtain⟨hl0,hlive⟩:=Bo hob
     refine cons (l::used) (Fp s.st β φ l) (fun l' hl'=>by simp[hl']) ?_ (fun x hx=>⟨l,hnu,AOR,hx,fun ob' hob'=>AOT⟩) hrest
     simp only[RdC,BM,hl0] at hx
     have hx2:=hx.2 hlive
     simp only[RdO]
     cases hβ:β l with
     | none=>grind
     | some b =>
      simp only[hβ] at hx2
      obtain⟨cap,cs,e1,e2,e3,e4,e5⟩:=hx2
      obtain⟨_,_,_,_,g2,_⟩:=h.obs l ob b hl0 hlive hβ
      refine .inr ⟨b,cap,cs,φ l,e1,e2,e3,e4,e5,g2,⟨ob,hl0,hlive,.inl hβ⟩,fun k x hk=>⟨⟨ob,hl0,hlive,.inr ⟨k,hk⟩⟩,fun e=>?_⟩,fun k k' x hk hk'=>(hφ.2.2 l l k k' x hk hk').2,RdOE.mk fun k c hk=>?_⟩
      ·exact(hφ.2.1 l k x hk).2.2.2.2.2 l ob hl0 hlive (by rw[hβ,e])
      grind [Zu]
    grind
   ·obtain⟨rfl,hrest⟩:=ho
    refine cons used (fun _=>False) (fun _ h=>h) ?_ (fun _ h=>h.elim) hrest
    simp only[RdC,RdD] at hx
    simp only[RdO]
    grind
   grind
end owns
structure RdL2 (w:World) (St:Nat→Nat→Prop) (cl:List Cl) (us:List Value) (G:Nat→Nat→Prop):Prop where
 len:us.length=cl.length
 dis:∀ k k' x,G k x→G k' x→k=k'
 rd:∀ (k:Nat) (c:Cl),cl[k]?=some c→∃ y,us[k]?=some y∧RdO w St c y (G k)
def mkV (g:Bool) (us:List Value):Value:=if g=true then .agg us.toArray else us.headD Go.undef
def mkA (g:Bool) (cl:List Cl):AV:=if g=true then .agg cl else .c (cl.headD (.v (.bool false)))
def MCtr (P:Program) (f:FuncId) (g:Bool) (cl:List Cl) (args:List AV) (Q:List Cl→List AV→Prop):Prop:=
 CallsIn P f∧(g=true∨cl.length=1)∧∀ (w:World) (St:Nat→Nat→Prop) (us:List Value) (G:Nat→Nat→Prop) (vs:List Value),(∀ b o,St b o→b<w.heap.size)→(∀ k x,G k x→x<w.heap.size∧∀ o,¬ St x o)→RdL2 w St cl us G→RdAs w St args vs →
  Calls P f (mkV g us::vs).toArray w fun e w'=>∃ cl' rs rv G',Q cl' rs∧e = .returned (Wi rv)∧Below 0 w w'∧(∀ k,k<w.heap.size→(∀ j,¬ G j k)→w'.heap[k]?=w.heap[k]?)∧(∀ k,k<w.heap.size→wG w' k=wG w k) ∧
   RdAs w' St rs rv∧RdL2 w' St cl' us G'∧∀ k x,G' k x→(∃ j,G j x)∨(w.heap.size≤x∧x<w'.heap.size)
def JH (st:List Ob):List Cl→List Cl→List Ob
 | .ref l::zs,.ow ty sz xs::ys=>JH (st.set l ⟨ty,sz,xs,true,true⟩) zs ys
 | .ref _::zs,_::ys=>JH st zs ys
 | .v _::zs,_::ys=>JH st zs ys
 | .sl _::zs,_::ys=>JH st zs ys
 | .ow _ _ _::zs,_::ys=>JH st zs ys
 | [],_=>st
 | _::_,[]=>st
def YV:List Cl→List Cl→Prop
 | [],[]=>True
 | .ow ty sz _::a,d::b=>(match d with | .ow ty' sz' _=>ty'=ty∧sz'=sz | _=>False)∧YV a b
 | c::a,d::b=>d=c∧YV a b
 | _,_=>False
theorem VU:∀ (zs ys:List Cl) (st:List Ob),(JH st zs ys).length=st.length
 | [],ys,st=>by cases ys<;>rfl
 | z::zs,[],st=>by cases z<;>rfl
 | z::zs,y::ys,st=>by
  cases z with
  | ref l=>cases y<;>simp[JH,VU zs ys]
  | _=>simp[JH,VU zs ys]
theorem Yq:∀ (zs ys:List Cl) (st:List Ob),(∀ (k k' l:Nat),zs[k]?=some (.ref l)→zs[k']?=some (.ref l)→k=k')→∀ (l:Nat) (ob:Ob),(JH st zs ys)[l]?=some ob →
  (st[l]?=some ob∧∀ (k ty sz:Nat) (xs:List (List Cl)),zs[k]?=some (.ref l)→ys[k]?≠some (.ow ty sz xs))∨∃ (k ty sz:Nat) (xs:List (List Cl)),zs[k]?=some (.ref l)∧ys[k]?=some (.ow ty sz xs)∧ob=⟨ty,sz,xs,true,true⟩
 | [],ys,st,hd,l,ob,h=>by
  have:JH st [] ys=st:=by cases ys<;>rfl
  grind
 | z::zs,[],st,hd,l,ob,h=>by
  have:JH st (z::zs) []=st:=by cases z<;>rfl
  grind
 | z::zs,y::ys,st,hd,l,ob,h=>by
  have hd':∀ (k k' l:Nat),zs[k]?=some (.ref l)→zs[k']?=some (.ref l)→k=k':=fun k k' l h1 h2=>by
   have:=hd (k+1) (k'+1) l AOT AOT
   omega
  have skip:(JH st zs ys)[l]?=some ob→(∀ (ty sz:Nat) (xs:List (List Cl)),z = .ref l→y≠ .ow ty sz xs)→(st[l]?=some ob∧∀ (k ty sz:Nat) (xs:List (List Cl)),(z::zs)[k]?=some (.ref l)→(y::ys)[k]?≠some (.ow ty sz xs))∨∃ (k ty sz:Nat) (xs:List (List Cl)),(z::zs)[k]?=some (.ref l)∧(y::ys)[k]?=some (.ow ty sz xs)∧ob=⟨ty,sz,xs,true,true⟩:=by
   intro h hz
   rcases Yq zs ys st hd' l ob h with ⟨q1,q2⟩ | ⟨k,ty,sz,xs,q1,q2,q3⟩
   ·grind
   ·exact .inr ⟨k+1,ty,sz,xs,AOT,AOT,q3⟩
  cases z with
  | v x=>exact skip APM (fun _ _ _ e=>by cases e)
  | sl x=>exact skip APM (fun _ _ _ e=>by cases e)
  | ow t n x=>exact skip APM (fun _ _ _ e=>by cases e)
  | ref l0 =>
   cases y with
   | v x=>exact skip APM (fun _ _ _ _ e=>by cases e)
   | sl x=>exact skip APM (fun _ _ _ _ e=>by cases e)
   | ref x=>exact skip APM (fun _ _ _ _ e=>by cases e)
   | ow ty sz xs =>
    simp only[JH] at h
    rcases Yq zs ys _ hd' l ob h with ⟨q1,q2⟩ | ⟨k,t,n,x,q1,q2,q3⟩
    ·grind [aV,ak,Cl.ref.injEq]
    ·exact .inr ⟨k+1,t,n,x,AOT,AOT,q3⟩
theorem Yr:∀ (zs ys:List Cl) (st:List Ob) (l:Nat) (ob:Ob),(∀ (k k' l:Nat),zs[k]?=some (.ref l)→zs[k']?=some (.ref l)→k=k')→st[l]?=some ob →
  ∃ ob',(JH st zs ys)[l]?=some ob'∧(ob'=ob∨∃ (k ty sz:Nat) (xs:List (List Cl)),zs[k]?=some (.ref l)∧ys[k]?=some (.ow ty sz xs)∧ob'=⟨ty,sz,xs,true,true⟩):=by
 grind [VU,aF,au,Yq,ry]
theorem N9 {st:List Ob}:∀ (xs ys:List Cl) (us:List Nat) (K:List Nat→Prop),OwnL st xs ys us K→∀ (k l:Nat),xs[k]?=some (.ref l)→l∉us∧∃ ob,Cf st l=some ob∧ob.wr=true∧BJ ob.xs=true∧ys[k]?=some (.ow ob.ty ob.sz ob.xs)
 | [],ys,us,K,ho,k,l,hk=>APA
 | x::xs,[],us,K,ho,k,l,hk=>APy
 | x::xs,y::ys,us,K,ho,k,l,hk=>by
  have plain:x=y∧AB y=true∧OwnL st xs ys us K→l∉us∧∃ ob,Cf st l=some ob∧ob.wr=true∧BJ ob.xs=true∧(y::ys)[k]?=some (.ow ob.ty ob.sz ob.xs):=by
   rintro⟨rfl,hp,hrest⟩
   cases k with
   | zero=>simp only[aV,ak] at hk; subst hk; simp[AB] at hp
   | succ k=>simpa using N9 xs ys us K hrest k l AOT
  cases y with
  | v z=>exact plain AOe
  | sl z=>exact plain AOe
  | ref z=>exact plain AOe
  | ow ty sz zs =>
   simp only[OwnL] at ho
   split at ho
   ·rename_i l0
    split at ho
    ·rename_i ob hob
     obtain⟨rfl,rfl,rfl,hwr,hnr,hnu,hrest⟩:=ho
     cases k with
     | zero =>
      grind
     | succ k =>
      obtain⟨q1,q2⟩:=N9 xs ys _ K hrest k l AOT
      grind
    grind
   ·cases k with
    | zero=>simp at hk
    | succ k=>simpa using N9 xs ys us K ho.2 k l AOT
   grind
theorem Wx {st:List Ob}:∀ (xs ys:List Cl) (us:List Nat) (K:List Nat→Prop),OwnL st xs ys us K→∀ (k k' l:Nat),xs[k]?=some (.ref l)→xs[k']?=some (.ref l)→k=k'
 | [],ys,us,K,ho,k,k',l,hk,_=>APA
 | x::xs,[],us,K,ho,k,k',l,hk,_=>APy
 | x::xs,y::ys,us,K,ho,k,k',l,hk,hk'=>by
  have key:∀ us',OwnL st xs ys us' K→(x = .ref l→l∈us')→k=k':=by
   intro us' hrest hx
   cases k with
   | zero =>
    grind [aV,ak,N9]
   | succ k =>
    cases k' with
    | zero =>
     grind [aV,ak,N9]
    | succ k' =>
     have:=Wx xs ys us' K hrest k k' l AOT AOT
     omega
  have plain:x=y∧AB y=true∧OwnL st xs ys us K→k=k':=by
   rintro⟨rfl,hp,hrest⟩
   exact key us hrest fun e=>by subst e; simp[AB] at hp
  cases y with
  | v z=>exact plain AOe
  | sl z=>exact plain AOe
  | ref z=>exact plain AOe
  | ow ty sz zs =>
   simp only[OwnL] at ho
   grind
theorem ng:∀ {a b:List Cl},YV a b→∀ (k:Nat) (ty sz:Nat) (xs:List (List Cl)),a[k]?=some (.ow ty sz xs)→∃ xs',b[k]?=some (.ow ty sz xs')
 | [],[],h,k,ty,sz,xs,hk=>APA
 | [],d::b,h,k,ty,sz,xs,hk=>APA
 | c::a,[],h,k,ty,sz,xs,hk=>by cases c<;>simp[YV] at h
 | c::a,d::b,h,k,ty,sz,xs,hk=>by
  have tl:YV a b→∀ (k:Nat),a[k]?=some (Cl.ow ty sz xs)→∃ xs',b[k]?=some (Cl.ow ty sz xs'):=fun h k hk=>ng h k ty sz xs hk
  cases c with
  | ow t n x =>
   simp only[YV] at h
   grind
  | v x =>
   simp only[YV] at h
   grind
  | sl x =>
   simp only[YV] at h
   grind
  | ref x =>
   simp only[YV] at h
   grind
theorem ADo (h:Core w0 St0 St β s a w) {φ:Nat→Nat→Nat→Prop} (hφ:VF w0 w St s.st β φ) {zs cl cl':List Cl} {us:List Value} {G G':Nat→Nat→Prop} {w':World} {St':Nat→Nat→Prop} {K:List Nat→Prop}
  (ho:OwnL s.st zs cl [] K) (hz:∀ (k:Nat) (c:Cl),zs[k]?=some c→∃ y,us[k]?=some y∧RdC w St s.st β c y)
  (hG:∀ k x,G k x→∃ l,zs[k]?=some (.ref l)∧Fp s.st β φ l x) (hsh:YV cl cl')
  (hb:Below 0 w w') (hblk:∀ k,k<w.heap.size→(∀ j,¬ G j k)→w'.heap[k]?=w.heap[k]?) (hbs:∀ k,k<w.heap.size→wG w' k=wG w k) (hS:∀ b o,St b o→St' b o) (hSo:∀ b o,St' b o→b<w.heap.size→St b o) (hSi:∀ b o,St' b o→b<w'.heap.size)
  (hr:RdL2 w' St' cl' us G') (hG':∀ k x,G' k x→(∃ j,G j x)∨(w.heap.size≤x∧x<w'.heap.size∧∀ o,¬ St' x o)):Core w0 St0 St' β ⟨s.n,s.env,JH s.st zs cl'⟩ a w':=by
 have hd:=Wx zs cl [] K ho
 have hwr:∀ (k l:Nat) (ob:Ob),zs[k]?=some (.ref l)→s.st[l]?=some ob→ob.wr=true∧ob.live=true∧cl[k]?=some (.ow ob.ty ob.sz ob.xs):=fun k l ob hk hl=>by
  obtain⟨_,ob',h1,h2,_,h4⟩:=N9 zs cl [] K ho k l hk
  obtain⟨h5,h6⟩:=Bo h1
  rw[hl] at h5; cases h5
  exact⟨h2,h6,h4⟩
 have hGf:∀ k x,G k x→w0.may x∧x<w.heap.size∧∀ o,¬ St x o:=fun k x hx=>by
  obtain⟨l,q1,q2⟩:=hG k x hx
  exact VG h hφ q2 fun ob hob=>(hwr k l ob q1 hob).1
 have hG'f:∀ k x,G' k x→w0.may x∧x<w'.heap.size∧∀ o,¬ St' x o:=fun k x hx=>by
  rcases hG' k x hx with ⟨j,hj⟩ | ⟨q1,q2,q3⟩
  ·obtain⟨p1,p2,p3⟩:=hGf j x hj
   exact⟨p1,cO p2 hb.size,fun o ho=>p3 o (hSo x o ho p2)⟩
  ·exact⟨.inl (Nat.le_trans h.below.size q1),q2,q3⟩
 have hkeep:∀ (l:Nat) (x:Nat),Fp s.st β φ l x→x<w.heap.size→(∀ k:Nat,zs[k]?≠some (.ref l))→w'.heap[x]?=w.heap[x]?:=fun l x hx hlt hno=>hblk x hlt fun j hj=>by
  obtain⟨l2,q1,q2⟩:=hG j x hj
  have:=JM h hφ hx q2
  subst this
  exact hno j q1
 have hcell:∀ b o,St b o→w'.cell? ⟨b,o,none⟩=w.cell? ⟨b,o,none⟩:=fun b o hbo=>cell_of_block (hblk b (h.stIn b o hbo) fun j hj=>(hGf j b hj).2.2 o hbo)
 have hnew:∀ (k l ty sz:Nat) (xs:List (List Cl)) (ob:Ob),zs[k]?=some (.ref l)→cl'[k]?=some (.ow ty sz xs)→s.st[l]?=some ob→ty=ob.ty∧sz=ob.sz∧xs.length=ob.xs.length∧(β l=none→xs = []) ∧
   ∀ b,β l=some b→∃ (cs cs':Array Value) (H:Nat→Nat→Prop),w.heap[b]?=some (.cells cs ob.ty (0,0))∧w'.heap[b]?=some (.cells cs' ob.ty (0,0))∧(∀ x∈xs,x.length=ob.sz)∧(∃ cap,cs.size=cap*ob.sz∧cs'.size=cap*ob.sz)∧G' k b ∧
    (∀ m x,H m x→G' k x∧x≠b)∧(∀ m m' x,H m x→H m' x→m=m')∧∀ (m:Nat) (c:Cl),xs.flatten[m]?=some c→∃ y,cs'[m]?=some y∧RdO w' St' c y (H m):=by
  intro k l ty sz xs ob hk hk' hl
  obtain⟨_,hlv,hcl⟩:=hwr k l ob hk hl
  obtain⟨xs2,hxs2⟩:=ng hsh k _ _ _ hcl
  rw[hk'] at hxs2
  simp only[ak,Cl.ow.injEq] at hxs2
  obtain⟨rfl,rfl,rfl⟩:=hxs2
  obtain⟨y,hy,hyr⟩:=hz k _ hk
  obtain⟨y2,hy2,hro⟩:=hr.rd k _ hk'
  rw[hy] at hy2; cases hy2
  simp only[RdC,BM,hl] at hyr
  have hyr2:=hyr.2 hlv
  simp only[RdO] at hro
  cases hβ:β l with
  | none =>
   simp only[hβ] at hyr2
   obtain⟨rfl,hox⟩:=hyr2
   rcases hro with ⟨_,rfl⟩ | ⟨b,cap,cs,H,e1,_⟩
   ·exact⟨rfl,rfl,by rw[hox],fun _=>rfl,(fun b hb=>by cases hb)⟩
   ·cases e1
  | some b =>
   simp only[hβ] at hyr2
   obtain⟨cap0,cs0,e0,_,_,c4,c5⟩:=hyr2
   rcases hro with ⟨e1,_⟩ | ⟨b',cap,cs,H,e1,e2,e3,e4,e5,e6,e7,e8,e9,e10⟩
   ·rw[e0] at e1; cases e1
   ·rw[e0] at e1
    simp only[Value.slice.injEq,ak,Addr.mk.injEq,xU] at e1
    obtain⟨rfl,e11,rfl⟩:=e1
    refine⟨rfl,rfl,e11.symm,(fun h=>APh),fun b2 hb2=>?_⟩
    cases hb2
    exact⟨cs0,cs,H,c4,e4,e6,⟨cap0,c5,e5⟩,e7,e8,e9,fun m c hm=>by simpa using e10.at hm⟩
 have hold:∀ (l:Nat) (o2:Ob),s.st[l]?=some o2→∃ o3,(JH s.st zs cl')[l]?=some o3∧o3.sz=o2.sz∧o3.ty=o2.ty∧o3.xs.length=o2.xs.length∧(o3.live=true→o2.live=true):=by
  intro l o2 hl
  obtain⟨o3,q1,q2⟩:=Yr zs cl' s.st l o2 hd hl
  rcases q2 with rfl | ⟨k,ty,sz,xs,p1,p2,rfl⟩
  ·exact⟨o3,q1,rfl,rfl,rfl,id⟩
  ·obtain⟨r1,r2,r3,_⟩:=hnew k l ty sz xs o2 p1 p2 hl
   exact⟨_,q1,r2,r1,r3,fun _=>(hwr k l o2 p1 hl).2.1⟩
 have hback:∀ (l:Nat) (o3:Ob),(JH s.st zs cl')[l]?=some o3→∃ o2,s.st[l]?=some o2∧((o3=o2∧∀ k:Nat,zs[k]?≠some (.ref l))∨∃ (k ty sz:Nat) (xs:List (List Cl)),zs[k]?=some (.ref l)∧cl'[k]?=some (.ow ty sz xs)∧o3=⟨ty,sz,xs,true,true⟩):=by
  intro l o3 h3
  have hl:l<s.st.length:=by
   have:=(aF.1 h3).1
   rwa [VU] at this
  refine⟨s.st[l],au hl, ?_⟩
  rcases Yq zs cl' s.st hd l o3 h3 with ⟨q1,q2⟩ | q
  ·refine .inl ⟨by rw[au hl] at q1; exact(ry q1).symm,fun k hk=>?_⟩
   obtain⟨_,_,hcl⟩:=hwr k l _ hk (au hl)
   obtain⟨xs',hxs'⟩:=ng hsh k _ _ _ hcl
   exact q2 k _ _ _ hk hxs'
  ·exact .inr q
 have hr':∀ (l:Nat) (u:Value),BM w s.st β l u→BM w' (JH s.st zs cl') β l u:=by
  intro l u hu
  unfold BM at hu ⊢
  cases hq:s.st[l]? with
  | none=>simp[hq] at hu
  | some o2 =>
   simp only[hq] at hu
   obtain⟨o3,q1,q2⟩:=Yr zs cl' s.st l o2 hd hq
   simp only[q1]
   rcases q2 with rfl | ⟨k,ty,sz,xs,p1,p2,rfl⟩
   ·refine⟨hu.1,fun hlv=>?_⟩
    have h2:=hu.2 hlv
    obtain⟨o2',t1,t2⟩:=hback l o3 q1
    rw[hq] at t1; cases t1
    cases hβ:β l with
    | none=>simpa only[hβ] using h2
    | some b =>
     simp only[hβ] at h2 ⊢
     rcases t2 with ⟨_,hno⟩ | ⟨k,ty,sz,xs,p1,p2,e⟩
     ·rw[hkeep l b ⟨o3,hq,hlv,.inl hβ⟩ (h.obs l o3 b hq hlv hβ).2.1 hno]
      exact h2
     ·obtain⟨r1,r2,r3,r4,r5⟩:=hnew k l ty sz xs o3 p1 p2 hq
      obtain⟨cs,cs',H,c1,c2,c3,⟨cap,c4,c5⟩,_⟩:=r5 b hβ
      obtain⟨cap0,cs0,e1,e2,e3,e4,e5⟩:=h2
      rw[c1] at e4; cases e4
      exact⟨cap0,cs',e1,e2,e3,c2,by rw[c5,← c4,e5]⟩
   ·refine⟨hu.1,fun _=>?_⟩
    obtain⟨r1,r2,r3,r4,r5⟩:=hnew k l ty sz xs o2 p1 p2 hq
    subst r1 r2
    have h2:=hu.2 (hwr k l o2 p1 hq).2.1
    cases hβ:β l with
    | none=>simp only[hβ] at h2 ⊢; exact⟨h2.1,r4 hβ⟩
    | some b =>
     simp only[hβ] at h2 ⊢
     obtain⟨cs,cs',H,c1,c2,c3,⟨cap,c4,c5⟩,_⟩:=r5 b hβ
     obtain⟨cap0,cs0,e1,e2,e3,e4,e5⟩:=h2
     rw[c1] at e4; cases e4
     exact⟨cap0,cs',by rw[r3]; exact e1,by rw[r3]; exact e2,e3,c2,by rw[c5,← c4,e5]⟩
 have hp':∀ (l i off:Nat) (u:Value),AVR w St s.st β (.lp l i off) u→AVR w' St' (JH s.st zs cl') β (.lp l i off) u:=by
  intro l i off u hu
  simp only[AVR] at hu ⊢
  cases hq:s.st[l]? with
  | none=>simp[hq] at hu
  | some o2 =>
   obtain⟨o3,p1,p2,_,_,p5⟩:=hold l o2 hq
   simp only[hq] at hu
   simp only[p1,p2]
   exact fun hlv=>hu (p5 hlv)
 have hBB:∀ (c:Cl) (u:Value),RdB w St s.st β c u→RdB w' St' (JH s.st zs cl') β c u:=fun c u hu=>RdB.mono hS hcell hr' c u hu
 have hFpw:∀ (l:Nat) (ob:Ob) (b:Nat),s.st[l]?=some ob→ob.live=true→β l=some b→b<w.heap.size:=fun l ob b h1 h2 h3=>(h.obs l ob b h1 h2 h3).2.1
 exact {
  defers:=h.defers
  size:=h.size
  lim:=h.lim
  env:=fun i=>AVR.mono hS hcell hr' hp' _ _ (h.env i)
  below:=h.below.step hb (fun k h1 h2=>hblk k (cO h1 h.below.size) fun j hj=>by
   rcases(hGf j k hj).1 with h3 | h3
   ·omega
   ·exact h2 h3) fun k hk=>hbs k (cO hk h.below.size)
  st0:=fun b o hbo=>hS b o (h.st0 b o hbo)
  stOld:=fun b o hbo hlt hno=>h.stOld b o (hSo b o hbo (cO hlt h.below.size)) hlt hno
  stIn:=hSi
  obs:=fun l o3 b h3 hlv hβ=>by
   obtain⟨o2,q1,q2⟩:=hback l o3 h3
   rcases q2 with ⟨rfl,hno⟩ | ⟨k,ty,sz,xs,p1,p2,rfl⟩
   ·obtain⟨t1,t2,cs,g1,g2,g3⟩:=h.obs l o3 b q1 hlv hβ
    refine⟨t1,cO t2 hb.size,cs,by rw[hkeep l b ⟨o3,q1,hlv,.inl hβ⟩ t2 hno]; exact g1,g2,fun m c hm=>?_⟩
    obtain⟨u,hu,hc⟩:=g3 m c hm
    exact⟨u,hu,hBB c u hc⟩
   ·obtain⟨hw1,hlv1,_⟩:=hwr k l o2 p1 q1
    obtain⟨r1,r2,r3,r4,r5⟩:=hnew k l ty sz xs o2 p1 p2 q1
    subst r1 r2
    obtain⟨t1,t2,_⟩:=h.obs l o2 b q1 hlv1 hβ
    obtain⟨cs,cs',H,c1,c2,c3,_,_,_,_,c8⟩:=r5 b hβ
    refine⟨t1,cO t2 hb.size,cs',c2,c3,fun m c hm=>?_⟩
    obtain⟨y,hy,hc⟩:=c8 m c hm
    exact⟨y,hy,hc.toB⟩
  nil:=fun l o3 h3 hlv hβ=>by
   obtain⟨o2,q1,q2⟩:=hback l o3 h3
   rcases q2 with ⟨rfl,hno⟩ | ⟨k,ty,sz,xs,p1,p2,rfl⟩
   ·exact h.nil l o3 q1 hlv hβ
   ·exact(hnew k l ty sz xs o2 p1 p2 q1).2.2.2.1 hβ
  inj:=fun l l' o1 o2 b h1 h2 h3 h4 h5 h6=>by
   have key:∀ (l:Nat) (o3:Ob),(JH s.st zs cl')[l]?=some o3→o3.live=true→∃ o2,s.st[l]?=some o2∧o2.live=true:=by
    intro l o3 h3 hlv
    obtain⟨o2,q1,q2⟩:=hback l o3 h3
    rcases q2 with ⟨rfl,hno⟩ | ⟨k,ty,sz,xs,p1,p2,rfl⟩
    ·exact⟨o3,q1,hlv⟩
    ·exact⟨o2,q1,(hwr k l o2 p1 q1).2.1⟩
   exact AMt
  sep:=fun l o3 b o h3 hlv hβ hbo=>by
   obtain⟨o2,q1,q2⟩:=hback l o3 h3
   rcases q2 with ⟨rfl,hno⟩ | ⟨k,ty,sz,xs,p1,p2,rfl⟩
   ·exact h.sep l o3 b o q1 hlv hβ (hSo b o hbo (hFpw l o3 b q1 hlv hβ))
   ·obtain⟨hw1,hlv1,_⟩:=hwr k l o2 p1 q1
    have:=(h.sep l o2 b o q1 hlv1 hβ (hSo b o hbo (hFpw l o2 b q1 hlv1 hβ))).1
    rw[hw1] at this
    cases this
  own:=by
   have hH:∀ l,∃ Hl:Nat→Nat→Prop,∀ (k ty sz:Nat) (xs:List (List Cl)) (ob:Ob) (b:Nat),zs[k]?=some (.ref l)→cl'[k]?=some (.ow ty sz xs)→s.st[l]?=some ob→β l=some b →
     ∃ cs':Array Value,w'.heap[b]?=some (.cells cs' ob.ty (0,0))∧G' k b∧(∀ m x,Hl m x→G' k x∧x≠b)∧(∀ m m' x,Hl m x→Hl m' x→m=m')∧∀ (m:Nat) (c:Cl),xs.flatten[m]?=some c→∃ y,cs'[m]?=some y∧RdO w' St' c y (Hl m):=by
    intro l
    by_cases hex:∃ (k ty sz:Nat) (xs:List (List Cl)) (ob:Ob) (b:Nat),zs[k]?=some (.ref l)∧cl'[k]?=some (.ow ty sz xs)∧s.st[l]?=some ob∧β l=some b
    ·obtain⟨k,ty,sz,xs,ob,b,h1,h2,h3,h4⟩:=hex
     obtain⟨_,_,_,_,r5⟩:=hnew k l ty sz xs ob h1 h2 h3
     obtain⟨cs,cs',H,c1,c2,c3,c4,c5,c6,c7,c8⟩:=r5 b h4
     refine⟨H,fun k2 ty2 sz2 xs2 ob2 b2 g1 g2 g3 g4=>?_⟩
     have:=hd k k2 l h1 g1
     subst this
     rw[h2] at g2; cases g2
     rw[h3] at g3; cases g3
     rw[h4] at g4; cases g4
     exact⟨cs',c2,c5,c6,c7,c8⟩
    ·exact⟨fun _ _=>False,fun k ty sz xs ob b h1 h2 h3 h4=>(hex ⟨k,ty,sz,xs,ob,b,h1,h2,h3,h4⟩).elim⟩
   obtain⟨HH,hHH⟩:=Classical.axiomOfChoice hH
   have hwrit:∀ (l:Nat),(∃ (k ty sz:Nat) (xs:List (List Cl)) (ob:Ob) (b:Nat),zs[k]?=some (.ref l)∧cl'[k]?=some (.ow ty sz xs)∧s.st[l]?=some ob∧β l=some b)→∀ m x,HH l m x→∃ k b,zs[k]?=some (.ref l)∧β l=some b∧G' k b∧G' k x∧x≠b:=by
    rintro l ⟨k,ty,sz,xs,ob,b,h1,h2,h3,h4⟩ m x hx
    obtain⟨cs',q1,q2,q3,q4,q5⟩:=hHH l k ty sz xs ob b h1 h2 h3 h4
    exact⟨k,b,h1,h4,q2,(q3 m x hx).1,(q3 m x hx).2⟩
   refine⟨fun l m x=>((∃ (k ty sz:Nat) (xs:List (List Cl)) (ob:Ob) (b:Nat),zs[k]?=some (.ref l)∧cl'[k]?=some (.ow ty sz xs)∧s.st[l]?=some ob∧β l=some b)∧HH l m x)∨((∀ k:Nat,zs[k]?≠some (.ref l))∧φ l m x), ?_, ?_, ?_⟩
   ·intro l o3 b m c h3 hlv hβ hm hc
    obtain⟨o2,q1,q2⟩:=hback l o3 h3
    rcases q2 with ⟨rfl,hno⟩ | ⟨k,ty,sz,xs,p1,p2,rfl⟩
    ·obtain⟨u,hu,hro⟩:=hφ.1 l o3 b m c q1 hlv hβ hm hc
     have hlt:=hFpw l o3 b q1 hlv hβ
     refine⟨u,by rw[cell_of_block (hkeep l b ⟨o3,q1,hlv,.inl hβ⟩ hlt hno)]; exact hu,RdO.mono hS hcell c u _ _ (fun x hx=>.inr ⟨hno,hx⟩) (fun x hx=>?_) hro⟩
     exact hkeep l x ⟨o3,q1,hlv,.inr ⟨m,hx⟩⟩ (hφ.2.1 l m x hx).2.2.2.1 hno
    ·obtain⟨cs',t1,t2,t3,t4,t5⟩:=hHH l k ty sz xs o2 b p1 p2 q1 hβ
     obtain⟨y,hy,hro⟩:=t5 m c hm
     exact⟨y,by simp[World.cell?,t1,hy],RdO.mono (fun _ _ h=>h) (fun _ _ _=>rfl) c y _ _ (fun x hx=>.inl ⟨⟨k,ty,sz,xs,o2,b,p1,p2,q1,hβ⟩,hx⟩) (fun _ _=>rfl) hro⟩
   ·rintro l m x (⟨hex,hx⟩ | ⟨hno,hx⟩)
    ·obtain⟨k,b,p1,p2,p3,p4,p5⟩:=hwrit l hex m x hx
     obtain⟨k2,ty,sz,xs,ob,b2,g1,g2,g3,g4⟩:=hex
     obtain⟨t1,t2,t3⟩:=hG'f k x p4
     obtain⟨o3,s1,s2⟩:=Yr zs cl' s.st l ob hd g3
     have hlv3:o3.live=true:=by
      rcases s2 with rfl | ⟨_,_,_,_,_,_,rfl⟩
      ·exact(hwr k2 l o3 g1 g3).2.1
      ·rfl
     refine⟨⟨o3,b2,s1,hlv3,g4⟩,t1,fun h=>h,t2,t3,fun l' o4 h4 hlv hb'=>?_⟩
     obtain⟨o5,u1,u2⟩:=hback l' o4 h4
     rcases u2 with ⟨rfl,hno'⟩ | ⟨k',ty',sz',xs',v1,v2,rfl⟩
     ·rcases hG' k x p4 with ⟨j,hj⟩ | ⟨q1,_⟩
      ·obtain⟨l2,w1,w2⟩:=hG j x hj
       have:=JM h hφ ⟨o4,u1,hlv,.inl hb'⟩ w2
       subst this
       exact hno' j w1
      ·have:=hFpw l' o4 x u1 hlv hb'
       omega
     ·obtain⟨cs',z1,z2,_⟩:=hHH l' k' ty' sz' xs' o5 x v1 v2 u1 hb'
      have:=hr.dis k k' x p4 z2
      subst this
      rw[p1] at v1
      simp only[ak,Cl.ref.injEq] at v1
      subst v1
      rw[p2] at hb'
      exact p5 (ry hb').symm
    ·obtain⟨⟨o2,b,p1,p2,p3⟩,q1,_,q3,q4,q5⟩:=hφ.2.1 l m x hx
     obtain⟨o3,s1,s2⟩:=Yr zs cl' s.st l o2 hd p1
     have hlv3:o3.live=true:=by
      rcases s2 with rfl | ⟨_,_,_,_,_,_,rfl⟩
      ·exact p2
      ·rfl
     refine⟨⟨o3,b,s1,hlv3,p3⟩,q1,fun h=>h,cO q3 hb.size,fun o ho'=>q4 o (hSo x o ho' q3),fun l' o4 h4 hlv=>?_⟩
     obtain⟨o5,u1,u2⟩:=hback l' o4 h4
     rcases u2 with ⟨rfl,_⟩ | ⟨k',ty',sz',xs',v1,v2,rfl⟩
     ·exact q5 l' o4 u1 hlv
     ·exact q5 l' o5 u1 (hwr k' l' o5 v1 u1).2.1
   ·rintro l l' m m' x (⟨hex,hx⟩ | ⟨hno,hx⟩) (⟨hex',hx'⟩ | ⟨hno',hx'⟩)
    ·obtain⟨k,b,p1,p2,p3,p4,p5⟩:=hwrit l hex m x hx
     obtain⟨k',b',p1',p2',p3',p4',p5'⟩:=hwrit l' hex' m' x hx'
     have:=hr.dis k k' x p4 p4'
     subst this
     rw[p1] at p1'
     simp only[ak,Cl.ref.injEq] at p1'
     subst p1'
     obtain⟨k2,ty,sz,xs,ob,b2,g1,g2,g3,g4⟩:=hex
     obtain⟨cs',z1,z2,z3,z4,z5⟩:=hHH l k2 ty sz xs ob b2 g1 g2 g3 g4
     exact⟨rfl,z4 m m' x hx hx'⟩
    ·obtain⟨k,b,p1,p2,p3,p4,p5⟩:=hwrit l hex m x hx
     obtain⟨⟨o2,b2,t1,t2,t3⟩,_,_,q3,_⟩:=hφ.2.1 l' m' x hx'
     rcases hG' k x p4 with ⟨j,hj⟩ | ⟨q1,_⟩
     ·obtain⟨l2,w1,w2⟩:=hG j x hj
      have:=JM h hφ ⟨o2,t1,t2,.inr ⟨m',hx'⟩⟩ w2
      subst this
      exact absurd w1 (hno' j)
     ·omega
    ·obtain⟨k,b,p1,p2,p3,p4,p5⟩:=hwrit l' hex' m' x hx'
     obtain⟨⟨o2,b2,t1,t2,t3⟩,_,_,q3,_⟩:=hφ.2.1 l m x hx
     rcases hG' k x p4 with ⟨j,hj⟩ | ⟨q1,_⟩
     ·obtain⟨l2,w1,w2⟩:=hG j x hj
      have:=JM h hφ ⟨o2,t1,t2,.inr ⟨m,hx⟩⟩ w2
      subst this
      exact absurd w1 (hno j)
     ·omega
    ·exact hφ.2.2 l l' m m' x hx hx' }
theorem dD {st:List Ob}:∀ (xs ys:List Cl) (us:List Nat) (K:List Nat→Prop),OwnL st xs ys us K→ys.length=xs.length∧∀ (k:Nat) (x:Cl),xs[k]?=some x →
  (∃ l ob,x = .ref l∧Cf st l=some ob∧ob.wr=true∧BJ ob.xs=true∧ys[k]?=some (.ow ob.ty ob.sz ob.xs))∨(ys[k]?=some x∧AB x=true)∨(x = .v (.slice none 0 0)∧∃ ty sz,ys[k]?=some (.ow ty sz []))
 | [],ys,us,K,ho=>by
  cases ys with
  | nil=>grind
  | cons y ys=>cases y<;>simp[OwnL] at ho
 | x::xs,[],us,K,ho=>APy
 | x::xs,y::ys,us,K,ho=>by
  have cons:∀ us',OwnL st xs ys us' K→((∃ l ob,x = .ref l∧Cf st l=some ob∧ob.wr=true∧BJ ob.xs=true∧y = .ow ob.ty ob.sz ob.xs)∨(y=x∧AB x=true)∨(x = .v (.slice none 0 0)∧∃ ty sz,y = .ow ty sz [])) →
    (y::ys).length=(x::xs).length∧∀ (k:Nat) (x2:Cl),(x::xs)[k]?=some x2→(∃ l ob,x2 = .ref l∧Cf st l=some ob∧ob.wr=true∧BJ ob.xs=true∧(y::ys)[k]?=some (.ow ob.ty ob.sz ob.xs))∨((y::ys)[k]?=some x2∧AB x2=true)∨(x2 = .v (.slice none 0 0)∧∃ ty sz,(y::ys)[k]?=some (.ow ty sz [])):=by
   intro us' hrest hx
   obtain⟨q1,q2⟩:=dD xs ys us' K hrest
   refine⟨by simp[q1],fun k x2 hk=>?_⟩
   cases k with
   | zero =>
    grind
   | succ k=>grind
  cases y with
  | v z=>simp only[OwnL] at ho; grind
  | sl z=>simp only[OwnL] at ho; grind
  | ref z=>simp only[OwnL] at ho; grind
  | ow ty sz zs =>
   simp only[OwnL] at ho
   split at ho
   ·rename_i l
    split at ho
    ·grind
    grind
   ·grind
   grind
theorem AAG (h:Core w0 St0 St β s a w) {φ:Nat→Nat→Nat→Prop} (hφ:VF w0 w St s.st β φ) {zs cl:List Cl} {K:List Nat→Prop} {us:List Value} (ho:OwnL s.st zs cl [] K) (hlen:us.length=zs.length)
  (hz:∀ (k:Nat) (c:Cl),zs[k]?=some c→∃ y,us[k]?=some y∧RdC w St s.st β c y):RdL2 w St cl us (fun k x=>∃ l,zs[k]?=some (.ref l)∧Fp s.st β φ l x):=by
 obtain⟨q1,q2⟩:=dD zs cl [] K ho
 refine⟨AOQ,fun k k' x ⟨l,h1,h2⟩ ⟨l',h1',h2'⟩=>?_,fun k c hk=>?_⟩
 ·grind [JM,Wx]
 ·have hkz:k<zs.length:=by rw[← q1]; exact(aF.1 hk).1
  obtain⟨y,hy,hr⟩:=hz k _ (au hkz)
  refine⟨y,hy, ?_⟩
  rcases q2 k _ (au hkz) with ⟨l,ob,e1,e2,_,e4,e5⟩ | ⟨e1,e2⟩ | ⟨e1,ty,sz,e2⟩
  ·rw[hk] at e5
   cases e5
   rw[e1] at hr
   exact RdO.mono (fun _ _ h=>h) (fun _ _ _=>rfl) _ y _ _ (fun x hx=>⟨l,AOT,hx⟩) (fun _ _=>rfl) (xg h hφ e2 e4 hr)
  ·grind [RdO.plain,LV,U_]
  ·rw[hk] at e2
   cases e2
   rw[e1] at hr
   simp only[RdC,RdD] at hr
   simp only[RdO]
   grind
end Go.Vm
