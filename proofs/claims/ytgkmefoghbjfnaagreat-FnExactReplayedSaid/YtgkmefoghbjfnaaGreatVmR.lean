/- A part. -/
import Derived.Test.YtgkmefoghbjfnaaGreatVmPb
import Derived.Orders
set_option linter.unusedSimpArgs false
set_option linter.unusedVariables false
namespace Go.Vm
open Go.RowKit
variable {P:Program} {w0:Bs} {St0 St:Nat→Nat→Prop} {β:Nat→Option Nat} {s:MS} {a:Act} {w:World}
def same (st:List Ob):Option AV→Option (AV×List Ob)
 | some y=>some (y,st)
 | none=>none
def VR (st:List Ob):List AV→Option (List (List Cl)×List Ob)
 | []=>some ([],st)
 | .ip row::r=>match VR st r with
  | some (xs,st')=>some (row::xs,st')
  | none=>none
 | .lp l i off::r=>match BV st l with
  | some ob=>if E5 ob.xs=true then match ob.xs[i]? with
   | some row=>match VR (Jf st l) r with
    | some (xs,st')=>some (row.drop off::xs,st')
    | none=>none
   | none=>none
   else none
  | none=>none
 | _::_=>none
theorem Fg (h:Core w0 St0 St β s a w):∀ (xs:List Operand),xs.all Af=true→AVRs w St s.st β (xs.map (Cf s)) (xs.map a.eval)
 | [],_=>by simp[AVRs]
 | x::xs,hc=>by
  simp only[aS,aI] at hc
  simp only[U9,AVRs]
  exact⟨_,_,rfl,BJ h x hc.1,Fg h xs hc.2⟩
theorem VS:∀ (cs:List AV) (vs:List Value) (st st':List Ob) (xs:List (List Cl)) (St:Nat→Nat→Prop),Core w0 St0 St β ⟨s.n,s.env,st⟩ a w→AVRs w St st β cs vs→VR st cs=some (xs,st') →
  ∃ St',Core w0 St0 St' β ⟨s.n,s.env,st'⟩ a w∧(∀ b o,St b o→St' b o)∧vs.length=xs.length∧∀ (k:Nat) (c:List Cl),xs[k]?=some c→∃ b off,vs[k]?=some (.pointer (some ⟨b,off,none⟩))∧RdL w St' c b off
 | [],vs,st,st',xs,St,h,hv,hx=>by
  simp only[VR,ag,bH] at hx
  obtain⟨rfl,rfl⟩:=hx
  simp only[AVRs] at hv
  subst hv
  exact⟨St,h,fun _ _ h=>h,rfl,fun k c hk=>by simp at hk⟩
 | c::cs,vs,st,st',xs,St,h,hv,hx=>by
  simp only[AVRs] at hv
  obtain⟨v,vs,rfl,h1,h2⟩:=hv
  cases c with
  | ip row =>
   simp only[VR] at hx
   split at hx
   ·rename_i ys st1 hy
    simp only[ag,bH] at hx
    obtain⟨rfl,rfl⟩:=hx
    obtain⟨St',q1,q2,q3,q4⟩:=VS cs vs st st1 ys St h h2 hy
    simp only[AVR] at h1
    obtain⟨b,off,rfl,hr⟩:=h1
    refine⟨St',q1,q2,by simp[q3],fun k c hk=>?_⟩
    cases k with
    | zero=>simp only[ai,ag] at hk; subst hk; exact⟨b,off,rfl,RdL.mono q2 (fun _ _ _=>rfl) _ _ _ hr⟩
    | succ k=>simpa using q4 k c (by simpa using hk)
   ·cases hx
  | lp l i off =>
   simp only[VR] at hx
   split at hx
   ·rename_i ob hob
    split at hx
    ·rename_i hp
     split at hx
     ·rename_i row hrow
      split at hx
      ·rename_i ys st1 hy
       simp only[ag,bH] at hx
       obtain⟨rfl,rfl⟩:=hx
       obtain⟨St1,f1,f2,_,f4⟩:=h.freeze l hob hp
       obtain⟨hl,hlive⟩:=Ag hob
       simp only[AVR,hl] at h1
       obtain⟨b,hβ,rfl⟩:=h1 hlive
       have h2':AVRs w St1 (Jf st l) β cs vs:=AVRs.mono f2 (fun _ _ _=>rfl) (fun l' u hu=>(O6 l' u).2 hu) (H_ fun l' ob' hl'=>XX hl') cs vs h2
       obtain⟨St',q1,q2,q3,q4⟩:=VS cs vs (Jf st l) st1 ys St1 f1 h2' hy
       obtain⟨g1,g2⟩:=f4 b hβ
       have hr:RdL w St1 (row.drop off) b (i*ob.sz+off):=by
        have:=(g2.at ob.sz g1 i row hrow).drop off
        simpa using this
       refine⟨St',q1,fun b o hb=>q2 b o (f2 b o hb),by simp[q3],fun k c hk=>?_⟩
       cases k with
       | zero=>simp only[ai,ag] at hk; subst hk; exact⟨b,_,rfl,RdL.mono q2 (fun _ _ _=>rfl) _ _ _ hr⟩
       | succ k=>simpa using q4 k c (by simpa using hk)
      ·cases hx
     ·cases hx
    ·cases hx
   ·cases hx
  | _=>simp[VR] at hx
def OX (P:Program) (s:MS) (o:Op):Option (AV×List Ob):=match o with
 | .alloc T=>JV P s T
 | .box T x=>jd s T (Cf s x)
 | .store T p x=>Rq P s T (Cf s p) (Cf s x)
 | .makeSlice T l c=>XW P s T (Cf s l) (Cf s c)
 | .buildSlice T len ps=>Gm P s T len ps.toList
 | .build T ps=>if E8 P T then MW P s T ps.toList else none
 | .slice T x lo hi none=>Md P s T (Cf s x) lo hi
 | .load T x=>match En P s (.load T x) with
  | some y=>some (y,s.st)
  | none=>Zg P s T (Cf s x)
 | .makeFunc (.func f) first caps=>if first.toList.isEmpty=true then match VR s.st (caps.toList.map (Cf s)) with
  | some (xs,st')=>some (.clo f xs,st')
  | none=>none
  else none
 | .call c=>match c.callee with
  | .builtin .append=>match c.args.toList,c.argTypes.toList with
   | [x,y],[T,T']=>if T=T' then Yv P s T (Cf s x) (Cf s y) else Yw P s T T' (Cf s x) (Cf s y)
   | _,_=>none
  | _=>same s.st (En P s (.call c))
 | op=>same s.st (En P s op)
theorem nX {st st':List Ob} {x:Option AV} {y:AV} (h:same st x=some (y,st')):x=some y∧st'=st:=by
 cases x with
 | none=>simp[same] at h
 | some z=>simp only[same,ag,bH] at h; exact⟨by rw[h.1],h.2.symm⟩
theorem Io (h:Core w0 St0 St β s a w) {o:Oper} {y:AV} (hg:Gives P a w St s.st β o y):Does P a w w0 St0 s o y s.st:=by
 obtain⟨v,h1,h2⟩:=hg
 exact⟨_,v,w,St,β,h1,.inl rfl,h,h2⟩
theorem jw (h:Core w0 St0 St β s a w) (o:Oper) (T:TypeId) (x:Operand) (ho:o.op = .load T x) (hc:Af x=true) {y:AV} {st':List Ob} (hy:Zg P s T (Cf s x)=some (y,st')):Does P a w w0 St0 s o y st':=by
 have he:=BJ h x hc
 unfold Zg at hy
 split at hy
 ·rename_i l i off hg hev
  split at hy
  ·rename_i ob hob
   split at hy
   ·rename_i hwr
    split at hy
    ·rename_i row hrow
     split at hy
     ·rename_i ty sz xs hcell
      simp only[ag,bH] at hy
      obtain⟨rfl,rfl⟩:=hy
      obtain⟨b,u,β',hb,hu,hcore,href⟩:=h.openCell hob hwr hrow hcell
      rw[hev] at he
      obtain⟨hl,hlive⟩:=Ag hob
      simp only[AVR,hl] at he
      obtain⟨b2,hb2,hv⟩:=he hlive
      rw[hb] at hb2
      cases hb2
      refine⟨.value u,u,w,St,β', ?_,.inl rfl,hcore,by simpa only[AVR] using href⟩
      simp[execOp,ho,hv,Instr.loadAt,Instr.sureAddr,loadVar,Ny hg,hu]
     ·cases hy
    ·cases hy
   ·cases hy
  ·cases hy
 ·cases hy
theorem Yx (h:Core w0 St0 St β s a w) (o:Oper) (hc:o.op.operands.toList.all Af=true) {y:AV} {st':List Ob} (hy:OX P s o.op=some (y,st')):Does P a w w0 St0 s o y st':=by
 have hF:∀ {y:AV} {st':List Ob},same s.st (En P s o.op)=some (y,st')→Does P a w w0 St0 s o y st':=fun {y st'} hs=>by
  obtain⟨h1,rfl⟩:=nX hs
  exact Io h (VD h o hc h1)
 cases hop:o.op with
 | alloc T=>rw[hop] at hy; exact je h o T hop hy
 | load T x =>
  rw[hop] at hy hc
  simp only[OX] at hy
  split at hy
  ·rename_i y' hf
   simp only[ag,bH] at hy
   obtain⟨rfl,rfl⟩:=hy
   exact Io h (VD h o (by rw[hop]; exact hc) (by rw[hop]; exact hf))
  ·exact jw h o T x hop (by simpa [Op.operands] using hc) hy
 | box T x =>
  rw[hop] at hy hc
  exact rE h o T x hop (by simpa [Op.operands] using hc) hy
 | makeFunc fn first caps =>
  rw[hop] at hy hc
  cases fn with
  | func f =>
   simp only[OX] at hy
   split at hy
   ·rename_i hfe
    split at hy
    ·rename_i xs st1 hx
     simp only[ag,bH] at hy
     obtain⟨rfl,rfl⟩:=hy
     have hcc:caps.toList.all Af=true:=by
      simp only[Op.operands,lC,bV,aI] at hc
      exact hc.2
     obtain⟨St',q1,q2,q3,q4⟩:=VS _ _ s.st _ xs St h (Fg h caps.toList hcc) hx
     have hf0:first = #[]:=by
      apply fD
      simpa using hfe
     have e:caps.map a.eval=(caps.toList.map a.eval).toArray:=by apply fD; simp
     refine⟨.value (.func (.func f) #[] (caps.map a.eval)),.func (.func f) #[] (caps.map a.eval),w,St',β,by simp[execOp,hop,hf0,Instr.makeFunc],.inl rfl,q1, ?_⟩
     simp only[AVR]
     exact⟨caps.toList.map a.eval,by rw[e],q3,q4⟩
    ·cases hy
   ·cases hy
  | _=>simp[OX,En,same] at hy
 | store T p x =>
  rw[hop] at hy hc
  simp[Op.operands] at hc
  exact jg h o T p x hop hc.1 hc.2 hy
 | makeSlice T l c =>
  rw[hop] at hy hc
  simp[Op.operands] at hc
  exact nK h o T l c hop hc.1 hc.2 hy
 | buildSlice T len ps =>
  rw[hop] at hy hc
  exact Sv h o T len ps hop (by simpa [Op.operands,Function.comp_def] using hc) hy
 | build T ps =>
  rw[hop] at hy hc
  simp only[OX] at hy
  split at hy
  ·rename_i hfo
   exact jh h o T ps hop hfo (by simpa [Op.operands,Function.comp_def] using hc) hy
  ·cases hy
 | slice T x lo hi mx =>
  cases mx with
  | none =>
   rw[hop] at hy hc
   simp[Op.operands] at hc
   refine jr h o T x lo hi hop hc.1 ?_ ?_ hy
   ·cases lo with
    | none=>rfl
    | some q=>exact hc.2.1 q rfl
   ·cases hi with
    | none=>rfl
    | some q=>exact hc.2.2 q rfl
  | some m=>rw[hop] at hy; simp[OX,En,same] at hy
 | call c =>
  by_cases hap:c.callee = .builtin .append
  ·rw[hop] at hy hc
   simp only[OX,hap] at hy
   split at hy
   ·rename_i x y2 T T' hca hct
    split at hy
    ·rename_i hT
     subst hT
     simp only[Op.operands,Call.operands,lC,bV,aI,hca] at hc
     simp at hc
     exact nU h o T c x y2 hop hap hca hct hc.2.1 hc.2.2 hy
    ·simp only[Op.operands,Call.operands,lC,bV,aI,hca] at hc
     simp at hc
     exact nV h o T T' c x y2 hop hap hca hct hc.2.1 hc.2.2 hy
   ·cases hy
  ·rw[hop] at hy
   have:OX P s (.call c)=same s.st (En P s (.call c)):=by
    simp only[OX]
   rw[this] at hy
   exact hF (by rw[hop]; exact hy)
 | _=>exact hF (by rw[hop] at hy ⊢; exact hy)
theorem IB (o:Oper) (c:Call) (f:FuncId) (ho:o.op = .call c) (hcl:c.callee = .value (.func f)) (hin:CallsIn P f):(execOp a.eval o).run P w = .ok (.enter f (c.args.map a.eval)) w:=by
 have:=hin (c.args.map a.eval) w
 simp[execOp,ho,resolve,hcl,Act.eval,Deferred.ofValue,invoke,this]
theorem Zh (o:Oper) (c:Call) (f:FuncId) (x:Operand) (caps:Array Value) (ho:o.op = .call c) (hcl:c.callee = .value x) (hx:a.eval x = .func (.func f) #[] caps) (hin:CallsIn P f):(execOp a.eval o).run P w = .ok (.enter f (c.args.map a.eval++caps)) w:=by
 have:=hin (c.args.map a.eval++caps) w
 simp[execOp,ho,resolve,hcl,hx,Deferred.ofValue,invoke,this]
theorem LG (h:Core w0 St0 St β s a w) {rs:List Res} {e:Ending} {w':World} {us:List Value} {bs:List (Option Nat)} {St':Nat→Nat→Prop} (hb:Back w St rs e w' us bs St'):Core w0 St0 St' β s a w':=
 h.grow hb.below hb.st hb.stOld hb.stIn
theorem jy (h:Core w0 St0 St β s a w) {rs:List Res} {e:Ending} {w':World} {us:List Value} {bs:List (Option Nat)} {St':Nat→Nat→Prop} (hb:Back w St rs e w' us bs St'):Own w0 (fun x=>w.heap.size≤x) w' St' s.st β:=
 h.own.grow hb.below hb.st hb.stOld h.stIn (fun l ob b h1 h2 h3=>(h.obs l ob b h1 h2 h3).2.1) (fun x h1 h2=>by omega)
theorem ResR.blk {w w':World} {St':Nat→Nat→Prop}:∀ (rs:List Res) (us:List Value) (bs:List (Option Nat)) (Φs:List (Nat→Nat→Prop)),ResR w' St' w.heap.size rs us bs Φs→∀ (i b:Nat),bs[i]?=some (some b)→w.heap.size≤b:=by
 intro rs
 induction rs with
 | nil=>intro us bs Φs h i b hi; obtain⟨_,rfl,_⟩:=h; simp at hi
 | cons r rs ih =>
  intro us bs Φs h i b hi
  obtain⟨u,us',b0,bs',Φ,Φs',rfl,rfl,rfl,h1,h2⟩:=h
  cases i with
  | succ i=>exact ih us' bs' Φs' h2 i b (by simpa using hi)
  | zero =>
   simp only[ai,ag] at hi
   subst hi
   cases r with
   | val x=>exact absurd h1.2 (by simp)
   | own ty sz xs wr=>exact h1.1
   | agg cl=>exact absurd h1.1 (by simp)
theorem Rz (h:Core w0 St0 St β s a w) {rs:List Res} {e:Ending} {w':World} {us:List Value} {bs:List (Option Nat)} {St':Nat→Nat→Prop} (hb:Back w St rs e w' us bs St') :
  ∃ β',Core w0 St0 St' β' ⟨s.n,s.env,(FO s.st rs).2⟩ a w'∧AVRs w' St' (FO s.st rs).2 β' (FO s.st rs).1 us:=by
 obtain⟨Φs,hr,hf⟩:=hb.res
 have hfr:∀ x,w.heap.size≤x→∀ l o2,s.st[l]?=some o2→o2.live=true→β l≠some x:=fun x hx l o2 hl hlv hβ=>by
  have:=(h.obs l o2 x hl hlv hβ).2.1
  omega
 obtain⟨β',q1,q2,_⟩:=QR w.heap.size rs us bs Φs s.st β (fun x=>w.heap.size≤x) (LG h hb) h.below.size (jy h hb) hr hf
  (fun i b hi=>⟨ResR.blk rs us bs Φs hr i b hi,hfr b (ResR.blk rs us bs Φs hr i b hi)⟩) (fun i Φ k x hi hx=>⟨(hf.fresh i Φ k x hi hx).1,hfr x (hf.fresh i Φ k x hi hx).1⟩)
 exact⟨β',q1,q2⟩
def BD (P:Program) (s:MS) (o:Op) (r:AV):Prop:=match o with
 | .call c=>match c.callee with
  | .value (.func f)=>∃ args rs,(JW s.st (c.args.toList.map (Cf s))=some (args,s.st)∨(Lh s.st (c.args.toList.map (Cf s))=some args∧rs.all Mc=true))∧Ctr P f args rs∧r=retA (PD rs)
  | .value (.tmp t)=>match unpin (BK s.env t) with
   | .clo f xs=>∃ args rs,JW s.st (c.args.toList.map (Cf s))=some (args,s.st)∧Ctr P f (args++xs.map AV.ip) rs∧r=retA (PD rs)
   | _=>False
  | .builtin .append=>False
  | _=>En P s (.call c)=some r
 | .build T ps=>E8 P T=true∧MW P s T ps.toList=some (r,s.st)
 | .slice T x lo hi none=>Md P s T (Cf s x) lo hi=some (r,s.st)
 | op=>En P s op=some r
theorem PG (h:Core w0 St0 St β s a w) (o:Oper) (hc:o.op.operands.toList.all Af=true) {r:AV} (hr:BD P s o.op r) (Q:Exit→Act→World→Prop) :
  o.wp P a w (fun a' w'=>Sim w0 St0 (s.put o.dst r) a' w') Q:=by
 have hD:∀ {r:AV},Does P a w w0 St0 s o r s.st→o.wp P a w (fun a' w'=>Sim w0 St0 (s.put o.dst r) a' w') Q:=fun {r} hd=>by
  obtain⟨nx,v,w',St',β',h1,h2,h3,h4⟩:=hd
  unfold Oper.wp
  rw[h1]
  rcases h2 with rfl | ⟨rfl,rfl⟩
  ·exact⟨St',β',h3.put o.dst h4⟩
  ·exact⟨St',β',h3.put o.dst h4⟩
 have hF:∀ {r:AV},En P s o.op=some r→o.wp P a w (fun a' w'=>Sim w0 St0 (s.put o.dst r) a' w') Q:=fun {r} hs=>hD (Io h (VD h o hc hs))
 cases hop:o.op with
 | call c =>
  rw[hop] at hr
  simp only[BD] at hr
  split at hr
  ·rename_i f hcl
   obtain⟨args,rs,hf,hspec,rfl⟩:=hr
   have hca:c.args.toList.all Af=true:=by
    rw[hop] at hc
    simp only[Op.operands,Call.operands,lC,bV,aI] at hc
    exact hc.2
   rcases hf with hf | hf
   ·obtain⟨St1,q1,q2,q3⟩:=IZ _ _ _ _ St h hf
    have hargs:=q3 _ (Fg h c.args.toList hca)
    unfold Oper.wp
    rw[IB o c f hop hcl hspec.1]
    simp only[Oper.upon]
    have hcall:=hspec.2 w St1 (c.args.toList.map a.eval) q1.stIn hargs
    have ea:(c.args.toList.map a.eval).toArray=c.args.map a.eval:=by apply fD; simp
    rw[ea] at hcall
    refine hcall.mono fun e w' hb=>?_
    obtain⟨us,bs,St2,hb⟩:=hb
    obtain⟨bs3,St3,hb3⟩:=N9 hb
    have k1:=LG q1 hb3
    have e1:=hb.ret
    subst e1
    obtain⟨Φs3,hr3,_⟩:=hb3.res
    have k3:=VL rs hr3
    refine⟨St3,β,k1.put o.dst (G_ ?_)⟩
    have key:∀ (xs:List AV) (us:List Value),RdAs w' St3 xs us→AVRs w' St3 s.st β xs us:=by
     intro xs
     induction xs with
     | nil=>intro us h; simp only[AVRs]; exact h
     | cons x xs ih =>
      intro us h
      obtain⟨y,ys,h1,h2,h3⟩:=h
      simp only[AVRs]
      exact⟨y,ys,h1,h2.toAVR,ih ys h3⟩
    exact key _ _ k3
   ·obtain⟨φ,hφ⟩:=h.own
    have hargs:=Rx h hφ hf.1 (Fg h c.args.toList hca)
    unfold Oper.wp
    rw[IB o c f hop hcl hspec.1]
    simp only[Oper.upon]
    have hcall:=hspec.2 w _ (c.args.toList.map a.eval) (fun b o hb=>AllSt.lt h hφ hb) hargs
    have ea:(c.args.toList.map a.eval).toArray=c.args.map a.eval:=by apply fD; simp
    rw[ea] at hcall
    refine hcall.mono fun e w' hb=>?_
    obtain⟨us,bs,St2,hb⟩:=hb
    have hb:=hb.clo hf.2 h.stIn
    obtain⟨bs3,St3,hb3⟩:=N9 hb
    have k1:=LG h hb3
    have e1:=hb.ret
    subst e1
    obtain⟨Φs3,hr3,_⟩:=hb3.res
    have k3:=VL rs hr3
    refine⟨St3,β,k1.put o.dst (G_ ?_)⟩
    have key:∀ (xs:List AV) (us:List Value),RdAs w' St3 xs us→AVRs w' St3 s.st β xs us:=by
     intro xs
     induction xs with
     | nil=>intro us h; simp only[AVRs]; exact h
     | cons x xs ih =>
      intro us h
      obtain⟨y,ys,h1,h2,h3⟩:=h
      simp only[AVRs]
      exact⟨y,ys,h1,h2.toAVR,ih ys h3⟩
    exact key _ _ k3
  ·rename_i t hcl
   split at hr
   ·rename_i f xs hev
    obtain⟨args,rs,hf,hspec,rfl⟩:=hr
    have hca:c.args.toList.all Af=true:=by
     rw[hop] at hc
     simp only[Op.operands,Call.operands,lC,bV,aI] at hc
     exact hc.2
    obtain⟨St1,q1,q2,q3⟩:=IZ _ _ _ _ St h hf
    have hargs:=q3 _ (Fg h c.args.toList hca)
    have he:=(h.env t).unpin
    rw[hev] at he
    simp only[AVR] at he
    obtain⟨us0,hu0,hul,hur⟩:=he
    have hcap:RdAs w St1 (xs.map AV.ip) us0:=O_ hul fun k c hk=>by
     obtain⟨b,off,hy,hr⟩:=hur k c hk
     exact⟨b,off,hy,RdL.mono q2 (fun _ _ _=>rfl) _ _ _ hr⟩
    unfold Oper.wp
    rw[Zh o c f (.tmp t) us0.toArray hop hcl hu0 hspec.1]
    simp only[Oper.upon]
    have hcall:=hspec.2 w St1 (c.args.toList.map a.eval++us0) q1.stIn (Ru hargs hcap)
    have ea:(c.args.toList.map a.eval++us0).toArray=c.args.map a.eval++us0.toArray:=by apply fD; simp
    rw[ea] at hcall
    refine hcall.mono fun e w' hb=>?_
    obtain⟨us,bs,St2,hb⟩:=hb
    obtain⟨bs3,St3,hb3⟩:=N9 hb
    have k1:=LG q1 hb3
    have e1:=hb.ret
    subst e1
    obtain⟨Φs3,hr3,_⟩:=hb3.res
    have k3:=VL rs hr3
    refine⟨St3,β,k1.put o.dst (G_ ?_)⟩
    have key:∀ (xs:List AV) (us:List Value),RdAs w' St3 xs us→AVRs w' St3 s.st β xs us:=by
     intro xs
     induction xs with
     | nil=>intro us h; simp only[AVRs]; exact h
     | cons x xs ih =>
      intro us h
      obtain⟨y,ys,h1,h2,h3⟩:=h
      simp only[AVRs]
      exact⟨y,ys,h1,h2.toAVR,ih ys h3⟩
    exact key _ _ k3
   ·exact hr.elim
  ·exact hr.elim
  ·exact hF (by rw[hop]; exact hr)
 | build T ps =>
  rw[hop] at hr
  refine hD (Yx h o hc ?_)
  rw[hop]
  simp only[BD] at hr
  simp only[OX,hr.1,bC]
  exact hr.2
 | slice T x lo hi mx =>
  rw[hop] at hr
  cases mx with
  | none =>
   refine hD (Yx h o hc ?_)
   rw[hop]
   exact hr
  | some m=>simp only[BD,En] at hr; cases hr
 | _=>exact hF (by rw[hop] at hr ⊢; exact hr)
theorem Tq {s s':MS} {x:Operand} (h:∀ t,x = .tmp t→BK s'.env t=BK s.env t):Cf s' x=Cf s x:=by
 cases x with
 | tmp t=>exact congrArg unpin (h t rfl)
 | _=>rfl
theorem JX {s s':MS} (hst:s'.st=s.st) (o:Op) (h:∀ t,.tmp t∈o.operands.toList→BK s'.env t=BK s.env t) (r:AV) (hr:BD P s o r):BD P s' o r:=by
 have he:∀ x,x∈o.operands.toList→Cf s' x=Cf s x:=fun x hx=>Tq fun t ht=>h t (by rw[← ht]; exact hx)
 cases o with
 | call c =>
  have hargs:∀ x∈c.args.toList,Cf s' x=Cf s x:=fun x hx=>he x (by
   simp only[Op.operands,Call.operands,lC,U8]
   exact .inr hx)
  have hmap:c.args.toList.map (Cf s')=c.args.toList.map (Cf s):=qj hargs
  simp only[BD] at hr ⊢
  split at hr
  ·rename_i f hcl
   rw[hmap,hst]; exact hr
  ·rename_i t hcl
   have ht:BK s'.env t=BK s.env t:=h t (by simp[Op.operands,Call.operands,hcl])
   rw[ht,hmap,hst]; exact hr
  ·exact hr
  ·simp only[En] at hr ⊢
   split at hr
   ·split at hr
    ·rename_i t x hat hax
     rw[hargs x (by rw[hax]; simp),hst]; exact hr
    ·cases hr
   ·split at hr
    ·rename_i x y hax
     rw[hargs x (by rw[hax]; simp),hargs y (by rw[hax]; simp)]; exact hr
    ·cases hr
   ·split at hr
    ·rename_i x y hax
     rw[hargs x (by rw[hax]; simp),hargs y (by rw[hax]; simp)]; exact hr
    ·cases hr
   ·cases hr
 | build T ps =>
  have hps:∀ p∈ps.toList,Cf s' p.2=Cf s p.2:=fun p hp=>he p.2 (by
   simp only[Op.operands]
   simp only[cO]
   exact⟨p,hp,rfl⟩)
  have key:∀ (l:List (Nat×Operand)),(∀ p∈l,Cf s' p.2=Cf s p.2)→Ed s' l=Ed s l:=by
   intro l
   induction l with
   | nil=>intro _; rfl
   | cons p l ih=>intro hl; simp only[Ed,hl p (by simp),ih (fun q hq=>hl q (by simp[hq]))]
  simp only[BD,MW,key _ hps,hst] at hr ⊢
  exact hr
 | slice T x lo hi mx =>
  cases mx with
  | none =>
   have h1:Cf s' x=Cf s x:=he x (by simp[Op.operands])
   have h2:∀ d,FD s' lo d=FD s lo d:=fun d=>by
    cases lo with
    | none=>rfl
    | some q=>simp only[FD]; rw[he q (by simp[Op.operands])]
   have h3:∀ d,FD s' hi d=FD s hi d:=fun d=>by
    cases hi with
    | none=>rfl
    | some q=>simp only[FD]; rw[he q (by simp[Op.operands])]
   simp only[BD,Md,h1,h2,h3,hst] at hr ⊢
   exact hr
  | some m=>simp only[BD,En] at hr; cases hr
 | move x=>simp only[BD,En] at hr ⊢; rw[he x (by simp[Op.operands])]; exact hr
 | assign x=>simp only[BD,En] at hr ⊢; rw[he x (by simp[Op.operands])]; exact hr
 | pick c x y=>simp only[BD,En] at hr ⊢; rw[he c (by simp[Op.operands]),he x (by simp[Op.operands]),he y (by simp[Op.operands])]; exact hr
 | load T x=>simp only[BD,En] at hr ⊢; rw[he x (by simp[Op.operands]),hst]; exact hr
 | nilCheck x=>simp only[BD,En] at hr ⊢; rw[he x (by simp[Op.operands]),hst]; exact hr
 | binOp op T x y T2=>simp only[BD,En] at hr ⊢; rw[he x (by simp[Op.operands]),he y (by simp[Op.operands])]; exact hr
 | unOp op T x=>simp only[BD,En] at hr ⊢; rw[he x (by simp[Op.operands])]; exact hr
 | convert a b x=>simp only[BD,En] at hr ⊢; rw[he x (by simp[Op.operands]),hst]; exact hr
 | fieldAddr T x f=>simp only[BD,En] at hr ⊢; rw[he x (by simp[Op.operands]),hst]; exact hr
 | field T x f=>simp only[BD,En] at hr ⊢; rw[he x (by simp[Op.operands])]; exact hr
 | indexAddr T x y=>simp only[BD,En] at hr ⊢; rw[he x (by simp[Op.operands]),he y (by simp[Op.operands]),hst]; exact hr
 | index T x y=>simp only[BD,En] at hr ⊢; rw[he x (by simp[Op.operands]),he y (by simp[Op.operands])]; exact hr
 | extract x i=>simp only[BD,En] at hr ⊢; rw[he x (by simp[Op.operands])]; exact hr
 | _=>simp only[BD,En] at hr; cases hr
def VT (ops:Array Oper) (env:List (Nat×AV)) (g:Option (Nat×Bool)):Option Bool:=match g with
 | none=>some true
 | some (j,want)=>match (ops[j]?).bind (·.dst) with
  | some d=>match BK env d with
   | .c (.v (.bool t))=>some (t==want)
   | .undef=>some false
   | _=>none
  | none=>some false
theorem VU (h:Core w0 St0 St β s a w) {ops:Array Oper} {o:Oper} {b:Bool} (hg:VT ops s.env o.guard=some b):Region.wanted o (yielded ops a.tmps)=b:=by
 unfold VT at hg
 unfold Region.wanted
 split at hg
 ·rename_i hn
  simp only[ag] at hg
  subst hg
  simp[hn]
 ·rename_i j want hn
  simp only[hn]
  unfold yielded
  split at hg
  ·rename_i d hd
   rw[hd]
   have henv:=h.env d
   split at hg
   ·rename_i t hev
    simp only[ag] at hg
    subst hg
    rw[hev] at henv
    obtain⟨hv,_⟩:=I8 henv
    have hlt:d<a.tmps.size:=by
     rcases aX d a.tmps.size with h' | h'
     ·exact h'
     ·simp[h',undef] at hv
    have:a.tmps[d]?=some (.bool t):=by
     simp[hlt] at hv ⊢
     exact hv
    simp only[qm,this]
    cases t<;>cases want<;>rfl
   ·rename_i hev
    simp only[ag] at hg
    subst hg
    rw[hev] at henv
    simp only[AVR] at henv
    simp only[qm]
    cases hq:a.tmps[d]? with
    | none=>simp
    | some v =>
     have:v=undef:=by simpa [hq] using henv
     subst this
     simp[undef]
   ·cases hg
  ·rename_i hd
   simp only[ag] at hg
   subst hg
   simp[hd]
def CondK (b:Bool) (x y:Prop):Prop:=(b=true→x)∧(b=false→y)
theorem F7 {x y:Prop}:CondK true x y=x:=by simp[CondK]
theorem Gp {x y:Prop}:CondK false x y=y:=by simp[CondK]
theorem CondK.mk {b:Bool} {x y:Prop} (h1:b=true→x) (h2:b=false→y):CondK b x y:=⟨h1,h2⟩
def Lj (x:Option (AV×List Ob)) (K:AV→List Ob→Prop):Prop:=match x with
 | some (y,st)=>K y st
 | none=>False
def Xg (x:Option (List AV×List Ob)) (K:List AV→List Ob→Prop):Prop:=match x with
 | some (y,st)=>K y st
 | none=>False
def Ll (x:Option Bool) (K:Bool→Prop):Prop:=match x with
 | some b=>K b
 | none=>False
def Zi (x:AV) (K:Bool→Prop):Prop:=match x with
 | .c (.v (.bool b))=>K b
 | _=>False
theorem Yy {y:AV} {st:List Ob} {K:AV→List Ob→Prop}:Lj (some (y,st)) K=K y st:=rfl
theorem Yz {y:List AV} {st:List Ob} {K:List AV→List Ob→Prop}:Xg (some (y,st)) K=K y st:=rfl
theorem Y0 {b:Bool} {K:Bool→Prop}:Ll (some b) K=K b:=rfl
theorem Y1 {b:Bool} {K:Bool→Prop}:Zi (.c (.v (.bool b))) K=K b:=rfl
def DrK (P:Program) (s:MS) (o:Op) (K:AV→Prop):Prop:=∃ r,BD P s o r∧K r
def Xh (s:MS) (dst:Option Nat) (K:MS→Prop) (r:AV):Prop:=K (s.put dst r)
def gD (P:Program) (o:Oper) (K:MS→Prop) (s:MS) (b:Bool):Prop:=CondK b (DrK P s o.op (Xh s o.dst K)) (K (s.put o.dst .undef))
theorem nY {P:Program} {o:Oper} {K:MS→Prop} {s:MS}:gD P o K s true=DrK P s o.op (Xh s o.dst K):=F7
theorem j_ {P:Program} {o:Oper} {K:MS→Prop} {s:MS}:gD P o K s false=K (s.put o.dst .undef):=Gp
theorem gD.mk {P:Program} {o:Oper} {K:MS→Prop} {s:MS} {b:Bool} (h1:b=true→DrK P s o.op (Xh s o.dst K)) (h2:b=false→K (s.put o.dst .undef)):gD P o K s b:=CondK.mk h1 h2
def kC (P:Program) (ops:Array Oper) (K:MS→Prop):List Oper→MS→Prop
 | [],s=>K s
 | o::rest,s=>Ll (VT ops s.env o.guard) (gD P o (kC P ops K rest) s)
def Au (o:Oper) (i:Nat):Bool:=o.after.any fun e=>e.on==i&&Region.binds .any e
def JY (ops:Array Oper) (o:Oper):List Nat:=
 (o.op.operands.toList.filterMap fun x=>match x with | .tmp t=>some t | _=>none)++(match o.guard with | some (j,_)=>((ops[j]?).bind (·.dst)).toList | none=>[])
def OG (ops:Array Oper) (i j:Nat):Bool:=match ops[i]?,ops[j]? with
 | some oi,some oj=>match oi.dst with
  | some d=>(i==j||oj.dst != some d)&&(i==j || !(JY ops oj).contains d||(if i<j then Au oj i else Au oi j))
  | none=>true
 | _,_=>true
def DU (n:Nat) (ops:Array Oper):Bool:=
 ((List.range ops.size).all fun i=>(List.range ops.size).all fun j=>OG ops i j) &&
 ((List.range ops.size).all fun i=>match ops[i]? with | some o=>(o.after.all fun e=>!Region.binds .any e||e.on<i)&&(match o.dst with | some d=>d<n | none=>true) | none=>true)
theorem Core.congr (h:Core w0 St0 St β s a w) {s':MS} (hn:s'.n=s.n) (hst:s'.st=s.st) (he:∀ t,BK s'.env t=BK s.env t):Core w0 St0 St β s' a w:={
 defers:=h.defers
 size:=by rw[hn]; exact h.size
 env:=fun i=>by rw[he,hst]; exact h.env i
 below:=h.below,st0:=h.st0,stOld:=h.stOld,stIn:=h.stIn
 obs:=by rw[hst]; exact h.obs
 nil:=by rw[hst]; exact h.nil
 inj:=by rw[hst]; exact h.inj
 sep:=by rw[hst]; exact h.sep
 own:=by rw[hst]; exact h.own }
section draw
variable (ops:Array Oper) (R:Nat→AV)
def A8 (env:List (Nat×AV)) (X:Nat→Bool):Nat→List (Nat×AV)
 | 0=>env
 | k+1=>match (ops[k]?).bind (·.dst) with
  | some d=>if X k then(d,R k)::A8 env X k else A8 env X k
  | none=>A8 env X k
variable {ops R}
theorem CG {env:List (Nat×AV)} {X:Nat→Bool} (hd:∀ (i j d:Nat),(ops[i]?).bind (·.dst)=some d→(ops[j]?).bind (·.dst)=some d→i=j) {i d:Nat} (hi:(ops[i]?).bind (·.dst)=some d) (hX:X i=true) :
  ∀ k,i<k→BK (A8 ops R env X k) d=R i
 | 0,h=>by omega
 | k+1,h=>by
  simp only[A8]
  rcases aX i k with h' | h'
  ·have ih:=CG (env:=env) (X:=X) hd hi hX k h'
   split
   ·rename_i d' hk
    split
    ·simp only[BK]
     by_cases e:d'=d
     ·subst e
      have:=hd i k d' hi hk
      omega
     ·simp only[e,aK]; exact ih
    ·exact ih
   ·exact ih
  ·have:i=k:=by omega
   subst this
   simp only[hi,hX,bC,BK]
theorem Ae {env:List (Nat×AV)} {X:Nat→Bool} {d:Nat}:∀ k,(∀ (i:Nat),i<k→(ops[i]?).bind (·.dst)=some d→X i=false)→BK (A8 ops R env X k) d=BK env d
 | 0,_=>rfl
 | k+1,hm=>by
  have ih:=Ae (env:=env) (X:=X) k (fun i hi=>hm i (by omega))
  simp only[A8]
  split
  ·rename_i d' hk
   split
   ·rename_i hx
    simp only[BK]
    by_cases e:d'=d
    ·subst e
     have:=hm k (by omega) hk
     rw[hx] at this; cases this
    ·simp only[e,aK]; exact ih
   ·exact ih
  ·exact ih
end draw
theorem Pv {n:Nat} {ops:Array Oper} (h:DU n ops=true) {i j:Nat} (hi:i<ops.size) (hj:j<ops.size):OG ops i j=true:=by
 simp only[DU,aI] at h
 have:=aA.1 h.1 i (su.2 hi)
 exact aA.1 this j (su.2 hj)
theorem R_ {n:Nat} {ops:Array Oper} (h:DU n ops=true):∀ (i j d:Nat),(ops[i]?).bind (·.dst)=some d→(ops[j]?).bind (·.dst)=some d→i=j:=by
 intro i j d hi hj
 cases hoi:ops[i]? with
 | none=>simp[hoi] at hi
 | some oi =>
  cases hoj:ops[j]? with
  | none=>simp[hoj] at hj
  | some oj =>
   simp only[hoi,hoj,qm] at hi hj
   have:=Pv h (bi.1 hoi).1 (bi.1 hoj).1
   simp only[OG,hoi,hoj,hi,aI,jW,beq_iff_eq,bne_iff_ne] at this
   rcases this.1 with h1 | h1
   ·exact h1
   ·exact absurd hj h1
theorem Ib {n:Nat} {ops:Array Oper} (h:DU n ops=true) {i j d:Nat} {oi oj:Oper} (hoi:ops[i]?=some oi) (hoj:ops[j]?=some oj) (hd:oi.dst=some d) (hr:d∈JY ops oj) (hne:i≠j) :
  (i<j→Au oj i=true)∧(j<i→Au oi j=true):=by
 have:=Pv h (bi.1 hoi).1 (bi.1 hoj).1
 simp only[OG,hoi,hoj,hd,aI,jW,beq_iff_eq,bne_iff_ne] at this
 have h2:(JY ops oj).contains d=true:=List.contains_iff_mem.2 hr
 rcases this.2 with (h1 | h1) | h1
 ·exact absurd h1 hne
 ·simp[h2] at h1
  exact absurd hr h1
 ·refine⟨fun hlt=>?_,fun hlt=>?_⟩
  ·rw[ED hlt] at h1; exact h1
  ·rw[Eh (by omega)] at h1; exact h1
theorem Df {n:Nat} {ops:Array Oper} (h:DU n ops=true) {i:Nat} {o:Oper} (ho:ops[i]?=some o):(∀ e∈o.after,Region.binds .any e=true→e.on<i)∧∀ d,o.dst=some d→d<n:=by
 simp only[DU,aI] at h
 have:=aA.1 h.2 i (su.2 (bi.1 ho).1)
 simp only[ho,aI] at this
 refine⟨fun e he hb=>?_,fun d hd=>?_⟩
 ·have:=Array.all_eq_true'.1 this.1 e he
  simpa [hb] using this
 ·have h2:=this.2
  simp only[hd] at h2
  simpa using h2
theorem BU {o:Oper} {i:Nat} {listed:Array Bool} (h:Au o i=true) (hall:∀ e∈o.after,Region.binds .any e=true→listed.getD e.on false=true):listed.getD i false=true:=by
 unfold Au at h
 rw[Array.any_eq_true'] at h
 obtain⟨e,he,h2⟩:=h
 simp only[aI,beq_iff_eq] at h2
 rw[← h2.1]
 exact hall e he h2.2
theorem SA {n:Nat} {ops:Array Oper} {K:MS→Prop} (hok:DU n ops=true) (hn:s.n=n):∀ (l:List Oper) (k:Nat) (R0:Nat→AV),(∀ j,l[j]?=ops[k+j]?)→k+l.length=ops.size →
  kC P ops K l ⟨s.n,A8 ops R0 s.env (fun i=>decide (i<k)) k,s.st⟩ →
  ∃ R:Nat→AV,(∀ i,i<k→R i=R0 i)∧K ⟨s.n,A8 ops R s.env (fun _=>true) ops.size,s.st⟩ ∧
   ∀ (i:Nat) (o:Oper),k≤i→ops[i]?=some o→∃ b,VT ops (A8 ops R s.env (fun _=>true) i) o.guard=some b∧(b=true→BD P ⟨s.n,A8 ops R s.env (fun _=>true) i,s.st⟩ o.op (R i))∧(b=false→R i = .undef)
 | [],k,R0,hl,hk,h=>by
  simp only[Vf,lG] at hk
  simp only[kC] at h
  refine⟨R0,fun _ _=>rfl, ?_,fun i o hi ho=>?_⟩
  ·have key:∀ m,m≤k→A8 ops R0 s.env (fun i=>decide (i<k)) m=A8 ops R0 s.env (fun _=>true) m:=by
    intro m
    induction m with
    | zero=>intro _; rfl
    | succ m ih =>
     intro hm
     have hmk:m<k:=by omega
     simp only[A8,ih (by omega),hmk,decide_true]
   rw[← hk,← key k (aQ _)]; exact h
  ·have:=(bi.1 ho).1
   omega
 | o::l,k,R0,hl,hk,h=>by
  have ho:ops[k]?=some o:=by simpa using(hl 0).symm
  have key:∀ (R1:Nat→AV) (m:Nat),m≤k→A8 ops R1 s.env (fun i=>decide (i<k)) m=A8 ops R1 s.env (fun _=>true) m:=by
   intro R1 m
   induction m with
   | zero=>intro _; rfl
   | succ m ih =>
    intro hm
    have hmk:m<k:=by omega
    simp only[A8,ih (by omega),hmk,decide_true]
  have keyR:∀ (R1 R2:Nat→AV) (m:Nat),(∀ i,i<m→R1 i=R2 i)→A8 ops R1 s.env (fun _=>true) m=A8 ops R2 s.env (fun _=>true) m:=by
   intro R1 R2 m
   induction m with
   | zero=>intro _; rfl
   | succ m ih =>
    intro hm
    simp only[A8,ih (fun i hi=>hm i (by omega)),hm m (by omega)]
  simp only[kC,Ll,gD,Xh] at h
  have step:∀ r:AV,kC P ops K l (MS.put ⟨s.n,A8 ops R0 s.env (fun i=>decide (i<k)) k,s.st⟩ o.dst r) →
    ∃ R:Nat→AV,(∀ i,i<k→R i=R0 i)∧R k=r∧K ⟨s.n,A8 ops R s.env (fun _=>true) ops.size,s.st⟩ ∧
     ∀ (i:Nat) (o:Oper),k+1≤i→ops[i]?=some o→∃ b,VT ops (A8 ops R s.env (fun _=>true) i) o.guard=some b∧(b=true→BD P ⟨s.n,A8 ops R s.env (fun _=>true) i,s.st⟩ o.op (R i))∧(b=false→R i = .undef):=by
   intro r hr
   have e1:MS.put ⟨s.n,A8 ops R0 s.env (fun i=>decide (i<k)) k,s.st⟩ o.dst r=⟨s.n,A8 ops (fun i=>if i=k then r else R0 i) s.env (fun i=>decide (i<k+1)) (k+1),s.st⟩:=by
    have key2:∀ m,m≤k→A8 ops (fun i=>if i=k then r else R0 i) s.env (fun i=>decide (i<k+1)) m=A8 ops R0 s.env (fun i=>decide (i<k)) m:=by
     intro m
     induction m with
     | zero=>intro _; rfl
     | succ m ih =>
      intro hm
      have h1:m<k:=by omega
      have h2:m<k+1:=by omega
      have h3:¬ m=k:=by omega
      simp only[A8,ih (by omega),h1,h2,h3,decide_true,aK]
    simp only[A8,ho,qm,key2 k (aQ _)]
    cases hd:o.dst with
    | none=>simp only[MS.put]
    | some d =>
     have:=(Df hok ho).2 d hd
     have h2:k<k+1:=by omega
     simp[MS.put,hn,this,h2]
   rw[e1] at hr
   obtain⟨R,h1,h2,h3⟩:=SA hok hn l (k+1) _ (fun j=>by
    have:=hl (j+1)
    simpa [tH,Nat.add_comm 1 j] using this) (by simp only[bQ] at hk; omega) hr
   exact⟨R,fun i hi=>by rw[h1 i (by omega)]; simp; omega,by rw[h1 k (by omega)]; simp,h2,h3⟩
  split at h
  ·rename_i b hb
   cases b with
   | true =>
    obtain⟨r,hr1,hr2⟩:=h.1 rfl
    obtain⟨R,h1,h2,h3,h4⟩:=step r hr2
    refine⟨R,h1,h3,fun i o' hi ho'=>?_⟩
    rcases aX k i with h' | h'
    ·exact h4 i o' (by omega) ho'
    ·have:i=k:=by omega
     subst this
     rw[ho] at ho'
     simp only[ag] at ho'
     subst ho'
     rw[key R0 i (aQ _),keyR R0 R i (fun j hj=>(h1 j hj).symm)] at hb
     rw[key R0 i (aQ _),keyR R0 R i (fun j hj=>(h1 j hj).symm)] at hr1
     exact⟨true,hb,fun _=>by rw[h2]; exact hr1,by simp⟩
   | false =>
    obtain⟨R,h1,h2,h3,h4⟩:=step _ (h.2 rfl)
    refine⟨R,h1,h3,fun i o' hi ho'=>?_⟩
    rcases aX k i with h' | h'
    ·exact h4 i o' (by omega) ho'
    ·have:i=k:=by omega
     subst this
     rw[ho] at ho'
     simp only[ag] at ho'
     subst ho'
     rw[key R0 i (aQ _),keyR R0 R i (fun j hj=>(h1 j hj).symm)] at hb
     exact⟨false,hb,by simp,fun _=>h2⟩
  ·exact h.elim
end Go.Vm
