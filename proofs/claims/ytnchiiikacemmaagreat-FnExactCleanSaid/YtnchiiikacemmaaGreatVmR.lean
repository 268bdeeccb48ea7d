/- A part. -/
import Derived.Test.YtnchiiikacemmaaGreatVmPb
import Derived.Orders
set_option linter.unusedSimpArgs false
set_option linter.unusedVariables false
namespace Go.Vm
open Go.RowKit
variable {P:Program} {w0:Bs} {St0 St:Nat→Nat→Prop} {β:Nat→Option Nat} {s:MS} {a:Act} {w:World}
def same (st:List Ob):Option AV→Option (AV×List Ob)
 | some y=>some (y,st)
 | none=>none
def Ws (P:Program) (s:MS) (o:Op):Option (AV×List Ob):=match o with
 | .alloc T=>Nv P s T
 | .box T x=>ABE s T (EU s x)
 | .store T p x=>YG P s T (EU s p) (EU s x)
 | .makeSlice T l c=>oQ P s T (EU s l) (EU s c)
 | .buildSlice T len ps=>Jp P s T len ps.toList
 | .build T ps=>if EF P T then Rh P s T ps.toList else none
 | .slice T x lo hi none=>Ri P s T (EU s x) lo hi
 | .load T x=>match H7 P s (.load T x) with
  | some y=>some (y,s.st)
  | none=>xK P s T (EU s x)
 | .call c=>match c.callee with
  | .builtin .append=>match c.args.toList,c.argTypes.toList with
   | [x,y],[T,T']=>if T=T' then uM P s T (EU s x) (EU s y) else uN P s T T' (EU s x) (EU s y)
   | _,_=>none
  | _=>same s.st (H7 P s (.call c))
 | op=>same s.st (H7 P s op)
theorem AC8 {st st':List Ob} {x:Option AV} {y:AV} (h:same st x=some (y,st')):x=some y∧st'=st:=by
 cases x with
 | none=>simp[same] at h
 | some z=>simp only[same,ah,bQ] at h; exact⟨by rw[h.1],h.2.symm⟩
theorem ML (h:Core w0 St0 St β s a w) {o:Oper} {y:AV} (hg:Gives P a w St s.st β o y):Does P a w w0 St0 s o y s.st:=by
 obtain⟨v,h1,h2⟩:=hg
 exact⟨_,v,w,St,β,h1,.inl rfl,h,h2⟩
theorem ABS (h:Core w0 St0 St β s a w) (o:Oper) (T:TypeId) (x:Operand) (ho:o.op = .load T x) (hc:A7 x=true) {y:AV} {st':List Ob} (hy:xK P s T (EU s x)=some (y,st')):Does P a w w0 St0 s o y st':=by
 have he:=CG h x hc
 unfold xK at hy
 split at hy
 ·rename_i l i off hg hev
  split at hy
  ·rename_i ob hob
   split at hy
   ·rename_i hwr
    split at hy
    ·rename_i row hrow
     split at hy
     ·rename_i ty sz xs hcell
      simp only[ah,bQ] at hy
      obtain⟨rfl,rfl⟩:=hy
      obtain⟨b,u,β',hb,hu,hcore,href⟩:=h.openCell hob hwr hrow hcell
      rw[hev] at he
      obtain⟨hl,hlive⟩:=BV hob
      simp only[AVR,hl] at he
      obtain⟨b2,hb2,hv⟩:=he hlive
      rw[hb] at hb2
      cases hb2
      refine⟨.value u,u,w,St,β', ?_,.inl rfl,hcore,by simpa only[AVR] using href⟩
      simp[execOp,ho,hv,Instr.loadAt,Instr.sureAddr,loadVar,TK hg,hu]
     ·cases hy
    ·cases hy
   ·cases hy
  ·cases hy
 ·cases hy
theorem uO (h:Core w0 St0 St β s a w) (o:Oper) (hc:o.op.operands.toList.all A7=true) {y:AV} {st':List Ob} (hy:Ws P s o.op=some (y,st')):Does P a w w0 St0 s o y st':=by
 have hF:∀ {y:AV} {st':List Ob},same s.st (H7 P s o.op)=some (y,st')→Does P a w w0 St0 s o y st':=fun {y st'} hs=>by
  obtain⟨h1,rfl⟩:=AC8 hs
  exact ML h (jI h o hc h1)
 cases hop:o.op with
 | alloc T=>rw[hop] at hy; exact ABF h o T hop hy
 | load T x =>
  rw[hop] at hy hc
  simp only[Ws] at hy
  split at hy
  ·rename_i y' hf
   simp only[ah,bQ] at hy
   obtain⟨rfl,rfl⟩:=hy
   exact ML h (jI h o (by rw[hop]; exact hc) (by rw[hop]; exact hf))
  ·exact ABS h o T x hop (by simpa [Op.operands] using hc) hy
 | box T x =>
  rw[hop] at hy hc
  exact AEz h o T x hop (by simpa [Op.operands] using hc) hy
 | store T p x =>
  rw[hop] at hy hc
  simp[Op.operands] at hc
  exact ABH h o T p x hop hc.1 hc.2 hy
 | makeSlice T l c =>
  rw[hop] at hy hc
  simp[Op.operands] at hc
  exact ACz h o T l c hop hc.1 hc.2 hy
 | buildSlice T len ps =>
  rw[hop] at hy hc
  exact Zv h o T len ps hop (by simpa [Op.operands,Function.comp_def] using hc) hy
 | build T ps =>
  rw[hop] at hy hc
  simp only[Ws] at hy
  split at hy
  ·rename_i hfo
   exact ABJ h o T ps hop hfo (by simpa [Op.operands,Function.comp_def] using hc) hy
  ·cases hy
 | slice T x lo hi mx =>
  cases mx with
  | none =>
   rw[hop] at hy hc
   simp[Op.operands] at hc
   refine ABQ h o T x lo hi hop hc.1 ?_ ?_ hy
   ·cases lo with
    | none=>rfl
    | some q=>exact hc.2.1 q rfl
   ·cases hi with
    | none=>rfl
    | some q=>exact hc.2.2 q rfl
  | some m=>rw[hop] at hy; simp[Ws,H7,same] at hy
 | call c =>
  by_cases hap:c.callee = .builtin .append
  ·rw[hop] at hy hc
   simp only[Ws,hap] at hy
   split at hy
   ·rename_i x y2 T T' hca hct
    split at hy
    ·rename_i hT
     subst hT
     simp only[Op.operands,Call.operands,aa6,aaY,ax,hca] at hc
     simp at hc
     exact AC6 h o T c x y2 hop hap hca hct hc.2.1 hc.2.2 hy
    ·simp only[Op.operands,Call.operands,aa6,aaY,ax,hca] at hc
     simp at hc
     exact AC7 h o T T' c x y2 hop hap hca hct hc.2.1 hc.2.2 hy
   ·cases hy
  ·rw[hop] at hy
   have:Ws P s (.call c)=same s.st (H7 P s (.call c)):=by
    simp only[Ws]
   rw[this] at hy
   exact hF (by rw[hop]; exact hy)
 | _=>exact hF (by rw[hop] at hy ⊢; exact hy)
theorem NH (o:Oper) (c:Call) (f:FuncId) (ho:o.op = .call c) (hcl:c.callee = .value (.func f)) (hin:CallsIn P f):(execOp a.eval o).run P w = .ok (.enter f (c.args.map a.eval)) w:=by
 have:=hin (c.args.map a.eval) w
 simp[execOp,ho,resolve,hcl,Act.eval,Deferred.ofValue,invoke,this]
theorem Ny (h:Core w0 St0 St β s a w):∀ (xs:List Operand),xs.all A7=true→AVRs w St s.st β (xs.map (EU s)) (xs.map a.eval)
 | [],_=>by simp[AVRs]
 | x::xs,hc=>by
  simp only[bK,ax] at hc
  simp only[V3,AVRs]
  exact⟨_,_,rfl,CG h x hc.1,Ny h xs hc.2⟩
theorem U4 (h:Core w0 St0 St β s a w) {rs:List Res} {e:Ending} {w':World} {us:List Value} {bs:List (Option Nat)} {St':Nat→Nat→Prop} (hb:Back w St rs e w' us bs St'):Core w0 St0 St' β s a w':=
 h.grow hb.below hb.st hb.stOld hb.stIn
theorem ABT (h:Core w0 St0 St β s a w) {rs:List Res} {e:Ending} {w':World} {us:List Value} {bs:List (Option Nat)} {St':Nat→Nat→Prop} (hb:Back w St rs e w' us bs St'):Own w0 (fun x=>w.heap.size≤x) w' St' s.st β:=
 h.own.grow hb.below hb.st hb.stOld h.stIn (fun l ob b h1 h2 h3=>(h.obs l ob b h1 h2 h3).2.1) (fun x h1 h2=>by omega)
theorem ResR.blk {w w':World} {St':Nat→Nat→Prop}:∀ (rs:List Res) (us:List Value) (bs:List (Option Nat)) (Φs:List (Nat→Nat→Prop)),ResR w' St' w.heap.size rs us bs Φs→∀ (i b:Nat),bs[i]?=some (some b)→w.heap.size≤b:=by
 intro rs
 induction rs with
 | nil=>intro us bs Φs h i b hi; obtain⟨_,rfl,_⟩:=h; simp at hi
 | cons r rs ih =>
  intro us bs Φs h i b hi
  obtain⟨u,us',b0,bs',Φ,Φs',rfl,rfl,rfl,h1,h2⟩:=h
  cases i with
  | succ i=>exact ih us' bs' Φs' h2 i b (by simpa using hi)
  | zero =>
   simp only[aB,ah] at hi
   subst hi
   cases r with
   | val x=>exact absurd h1.2 (by simp)
   | own ty sz xs wr=>exact h1.1
   | agg cl=>exact absurd h1.1 (by simp)
theorem ou (h:Core w0 St0 St β s a w) {rs:List Res} {e:Ending} {w':World} {us:List Value} {bs:List (Option Nat)} {St':Nat→Nat→Prop} (hb:Back w St rs e w' us bs St') :
  ∃ β',Core w0 St0 St' β' ⟨s.n,s.env,(Il s.st rs).2⟩ a w'∧AVRs w' St' (Il s.st rs).2 β' (Il s.st rs).1 us:=by
 obtain⟨Φs,hr,hf⟩:=hb.res
 have hfr:∀ x,w.heap.size≤x→∀ l o2,s.st[l]?=some o2→o2.live=true→β l≠some x:=fun x hx l o2 hl hlv hβ=>by
  have:=(h.obs l o2 x hl hlv hβ).2.1
  omega
 obtain⟨β',q1,q2,_⟩:=XQ w.heap.size rs us bs Φs s.st β (fun x=>w.heap.size≤x) (U4 h hb) h.below.size (ABT h hb) hr hf
  (fun i b hi=>⟨ResR.blk rs us bs Φs hr i b hi,hfr b (ResR.blk rs us bs Φs hr i b hi)⟩) (fun i Φ k x hi hx=>⟨(hf.fresh i Φ k x hi hx).1,hfr x (hf.fresh i Φ k x hi hx).1⟩)
 exact⟨β',q1,q2⟩
def Bj (P:Program) (s:MS) (o:Op) (r:AV):Prop:=match o with
 | .call c=>match c.callee with
  | .value (.func f)=>∃ args rs,(TP s.st (c.args.toList.map (EU s))=some (args,s.st)∨(Qr s.st (c.args.toList.map (EU s))=some args∧rs.all Qk=true))∧Ctr P f args rs∧r=retA (Wp rs)
  | .builtin .append=>False
  | _=>H7 P s (.call c)=some r
 | .build T ps=>EF P T=true∧Rh P s T ps.toList=some (r,s.st)
 | .slice T x lo hi none=>Ri P s T (EU s x) lo hi=some (r,s.st)
 | op=>H7 P s op=some r
theorem U5 (h:Core w0 St0 St β s a w) (o:Oper) (hc:o.op.operands.toList.all A7=true) {r:AV} (hr:Bj P s o.op r) (Q:Exit→Act→World→Prop) :
  o.wp P a w (fun a' w'=>Sim w0 St0 (s.put o.dst r) a' w') Q:=by
 have hD:∀ {r:AV},Does P a w w0 St0 s o r s.st→o.wp P a w (fun a' w'=>Sim w0 St0 (s.put o.dst r) a' w') Q:=fun {r} hd=>by
  obtain⟨nx,v,w',St',β',h1,h2,h3,h4⟩:=hd
  unfold Oper.wp
  rw[h1]
  rcases h2 with rfl | ⟨rfl,rfl⟩
  ·exact⟨St',β',h3.put o.dst h4⟩
  ·exact⟨St',β',h3.put o.dst h4⟩
 have hF:∀ {r:AV},H7 P s o.op=some r→o.wp P a w (fun a' w'=>Sim w0 St0 (s.put o.dst r) a' w') Q:=fun {r} hs=>hD (ML h (jI h o hc hs))
 cases hop:o.op with
 | call c =>
  rw[hop] at hr
  simp only[Bj] at hr
  split at hr
  ·rename_i f hcl
   obtain⟨args,rs,hf,hspec,rfl⟩:=hr
   have hca:c.args.toList.all A7=true:=by
    rw[hop] at hc
    simp only[Op.operands,Call.operands,aa6,aaY,ax] at hc
    exact hc.2
   rcases hf with hf | hf
   ·obtain⟨St1,q1,q2,q3⟩:=TQ _ _ _ _ St h hf
    have hargs:=q3 _ (Ny h c.args.toList hca)
    unfold Oper.wp
    rw[NH o c f hop hcl hspec.1]
    simp only[Oper.upon]
    have hcall:=hspec.2 w St1 (c.args.toList.map a.eval) q1.stIn hargs
    have ea:(c.args.toList.map a.eval).toArray=c.args.map a.eval:=by apply abK; simp
    rw[ea] at hcall
    refine hcall.mono fun e w' hb=>?_
    obtain⟨us,bs,St2,hb⟩:=hb
    obtain⟨bs3,St3,hb3⟩:=YI hb
    have k1:=U4 q1 hb3
    have e1:=hb.ret
    subst e1
    obtain⟨Φs3,hr3,_⟩:=hb3.res
    have k3:=xG rs hr3
    refine⟨St3,β,k1.put o.dst (QM ?_)⟩
    have key:∀ (xs:List AV) (us:List Value),RdAs w' St3 xs us→AVRs w' St3 s.st β xs us:=by
     intro xs
     induction xs with
     | nil=>intro us h; simp only[AVRs]; exact h
     | cons x xs ih =>
      intro us h
      obtain⟨y,ys,h1,h2,h3⟩:=h
      simp only[AVRs]
      exact⟨y,ys,h1,h2.toAVR,ih ys h3⟩
    exact key _ _ k3
   ·obtain⟨φ,hφ⟩:=h.own
    have hargs:=YK h hφ hf.1 (Ny h c.args.toList hca)
    unfold Oper.wp
    rw[NH o c f hop hcl hspec.1]
    simp only[Oper.upon]
    have hcall:=hspec.2 w _ (c.args.toList.map a.eval) (fun b o hb=>AllSt.lt h hφ hb) hargs
    have ea:(c.args.toList.map a.eval).toArray=c.args.map a.eval:=by apply abK; simp
    rw[ea] at hcall
    refine hcall.mono fun e w' hb=>?_
    obtain⟨us,bs,St2,hb⟩:=hb
    have hb:=hb.clo hf.2 h.stIn
    obtain⟨bs3,St3,hb3⟩:=YI hb
    have k1:=U4 h hb3
    have e1:=hb.ret
    subst e1
    obtain⟨Φs3,hr3,_⟩:=hb3.res
    have k3:=xG rs hr3
    refine⟨St3,β,k1.put o.dst (QM ?_)⟩
    have key:∀ (xs:List AV) (us:List Value),RdAs w' St3 xs us→AVRs w' St3 s.st β xs us:=by
     intro xs
     induction xs with
     | nil=>intro us h; simp only[AVRs]; exact h
     | cons x xs ih =>
      intro us h
      obtain⟨y,ys,h1,h2,h3⟩:=h
      simp only[AVRs]
      exact⟨y,ys,h1,h2.toAVR,ih ys h3⟩
    exact key _ _ k3
  ·exact hr.elim
  ·exact hF (by rw[hop]; exact hr)
 | build T ps =>
  rw[hop] at hr
  refine hD (uO h o hc ?_)
  rw[hop]
  simp only[Bj] at hr
  simp only[Ws,hr.1,aW]
  exact hr.2
 | slice T x lo hi mx =>
  rw[hop] at hr
  cases mx with
  | none =>
   refine hD (uO h o hc ?_)
   rw[hop]
   exact hr
  | some m=>simp only[Bj,H7] at hr; cases hr
 | _=>exact hF (by rw[hop] at hr ⊢; exact hr)
theorem eH {s s':MS} {x:Operand} (h:∀ t,x = .tmp t→Cm s'.env t=Cm s.env t):EU s' x=EU s x:=by
 cases x with
 | tmp t=>exact congrArg unpin (h t rfl)
 | _=>rfl
theorem Nz {s s':MS} (hst:s'.st=s.st) (o:Op) (h:∀ t,.tmp t∈o.operands.toList→Cm s'.env t=Cm s.env t) (r:AV) (hr:Bj P s o r):Bj P s' o r:=by
 have he:∀ x,x∈o.operands.toList→EU s' x=EU s x:=fun x hx=>eH fun t ht=>h t (by rw[← ht]; exact hx)
 cases o with
 | call c =>
  have hargs:∀ x∈c.args.toList,EU s' x=EU s x:=fun x hx=>he x (by
   simp only[Op.operands,Call.operands,aa6,wu]
   exact .inr hx)
  have hmap:c.args.toList.map (EU s')=c.args.toList.map (EU s):=aaM hargs
  simp only[Bj] at hr ⊢
  split at hr
  ·rename_i f hcl
   rw[hmap,hst]; exact hr
  ·exact hr
  ·simp only[H7] at hr ⊢
   split at hr
   ·split at hr
    ·rename_i t x hat hax
     rw[hargs x (by rw[hax]; simp),hst]; exact hr
    ·cases hr
   ·split at hr
    ·rename_i x y hax
     rw[hargs x (by rw[hax]; simp),hargs y (by rw[hax]; simp)]; exact hr
    ·cases hr
   ·split at hr
    ·rename_i x y hax
     rw[hargs x (by rw[hax]; simp),hargs y (by rw[hax]; simp)]; exact hr
    ·cases hr
   ·cases hr
 | build T ps =>
  have hps:∀ p∈ps.toList,EU s' p.2=EU s p.2:=fun p hp=>he p.2 (by
   simp only[Op.operands]
   simp only[RX]
   exact⟨p,hp,rfl⟩)
  have key:∀ (l:List (Nat×Operand)),(∀ p∈l,EU s' p.2=EU s p.2)→He s' l=He s l:=by
   intro l
   induction l with
   | nil=>intro _; rfl
   | cons p l ih=>intro hl; simp only[He,hl p (by simp),ih (fun q hq=>hl q (by simp[hq]))]
  simp only[Bj,Rh,key _ hps,hst] at hr ⊢
  exact hr
 | slice T x lo hi mx =>
  cases mx with
  | none =>
   have h1:EU s' x=EU s x:=he x (by simp[Op.operands])
   have h2:∀ d,IW s' lo d=IW s lo d:=fun d=>by
    cases lo with
    | none=>rfl
    | some q=>simp only[IW]; rw[he q (by simp[Op.operands])]
   have h3:∀ d,IW s' hi d=IW s hi d:=fun d=>by
    cases hi with
    | none=>rfl
    | some q=>simp only[IW]; rw[he q (by simp[Op.operands])]
   simp only[Bj,Ri,h1,h2,h3,hst] at hr ⊢
   exact hr
  | some m=>simp only[Bj,H7] at hr; cases hr
 | move x=>simp only[Bj,H7] at hr ⊢; rw[he x (by simp[Op.operands])]; exact hr
 | assign x=>simp only[Bj,H7] at hr ⊢; rw[he x (by simp[Op.operands])]; exact hr
 | pick c x y=>simp only[Bj,H7] at hr ⊢; rw[he c (by simp[Op.operands]),he x (by simp[Op.operands]),he y (by simp[Op.operands])]; exact hr
 | load T x=>simp only[Bj,H7] at hr ⊢; rw[he x (by simp[Op.operands]),hst]; exact hr
 | nilCheck x=>simp only[Bj,H7] at hr ⊢; rw[he x (by simp[Op.operands]),hst]; exact hr
 | binOp op T x y T2=>simp only[Bj,H7] at hr ⊢; rw[he x (by simp[Op.operands]),he y (by simp[Op.operands])]; exact hr
 | unOp op T x=>simp only[Bj,H7] at hr ⊢; rw[he x (by simp[Op.operands])]; exact hr
 | convert a b x=>simp only[Bj,H7] at hr ⊢; rw[he x (by simp[Op.operands]),hst]; exact hr
 | fieldAddr T x f=>simp only[Bj,H7] at hr ⊢; rw[he x (by simp[Op.operands]),hst]; exact hr
 | field T x f=>simp only[Bj,H7] at hr ⊢; rw[he x (by simp[Op.operands])]; exact hr
 | indexAddr T x y=>simp only[Bj,H7] at hr ⊢; rw[he x (by simp[Op.operands]),he y (by simp[Op.operands]),hst]; exact hr
 | index T x y=>simp only[Bj,H7] at hr ⊢; rw[he x (by simp[Op.operands]),he y (by simp[Op.operands])]; exact hr
 | extract x i=>simp only[Bj,H7] at hr ⊢; rw[he x (by simp[Op.operands])]; exact hr
 | _=>simp only[Bj,H7] at hr; cases hr
def jY (ops:Array Oper) (env:List (Nat×AV)) (g:Option (Nat×Bool)):Option Bool:=match g with
 | none=>some true
 | some (j,want)=>match (ops[j]?).bind (·.dst) with
  | some d=>match Cm env d with
   | .c (.v (.bool t))=>some (t==want)
   | .undef=>some false
   | _=>none
  | none=>some false
theorem jZ (h:Core w0 St0 St β s a w) {ops:Array Oper} {o:Oper} {b:Bool} (hg:jY ops s.env o.guard=some b):Region.wanted o (yielded ops a.tmps)=b:=by
 unfold jY at hg
 unfold Region.wanted
 split at hg
 ·rename_i hn
  simp only[ah] at hg
  subst hg
  simp[hn]
 ·rename_i j want hn
  simp only[hn]
  unfold yielded
  split at hg
  ·rename_i d hd
   rw[hd]
   have henv:=h.env d
   split at hg
   ·rename_i t hev
    simp only[ah] at hg
    subst hg
    rw[hev] at henv
    obtain⟨hv,_⟩:=NF henv
    have hlt:d<a.tmps.size:=by
     rcases bf d a.tmps.size with h' | h'
     ·exact h'
     ·simp[h',undef] at hv
    have:a.tmps[d]?=some (.bool t):=by
     simp[hlt] at hv ⊢
     exact hv
    simp only[abl,this]
    cases t<;>cases want<;>rfl
   ·rename_i hev
    simp only[ah] at hg
    subst hg
    rw[hev] at henv
    simp only[AVR] at henv
    simp only[abl]
    cases hq:a.tmps[d]? with
    | none=>simp
    | some v =>
     have:v=undef:=by simpa [hq] using henv
     subst this
     simp[undef]
   ·cases hg
  ·rename_i hd
   simp only[ah] at hg
   subst hg
   simp[hd]
def CondK (b:Bool) (x y:Prop):Prop:=(b=true→x)∧(b=false→y)
theorem JU {x y:Prop}:CondK true x y=x:=by simp[CondK]
theorem Jq {x y:Prop}:CondK false x y=y:=by simp[CondK]
theorem CondK.mk {b:Bool} {x y:Prop} (h1:b=true→x) (h2:b=false→y):CondK b x y:=⟨h1,h2⟩
def Qs (x:Option (AV×List Ob)) (K:AV→List Ob→Prop):Prop:=match x with
 | some (y,st)=>K y st
 | none=>False
def oz (x:Option (List AV×List Ob)) (K:List AV→List Ob→Prop):Prop:=match x with
 | some (y,st)=>K y st
 | none=>False
def Qu (x:Option Bool) (K:Bool→Prop):Prop:=match x with
 | some b=>K b
 | none=>False
def xM (x:AV) (K:Bool→Prop):Prop:=match x with
 | .c (.v (.bool b))=>K b
 | _=>False
theorem uP {y:AV} {st:List Ob} {K:AV→List Ob→Prop}:Qs (some (y,st)) K=K y st:=rfl
theorem uQ {y:List AV} {st:List Ob} {K:List AV→List Ob→Prop}:oz (some (y,st)) K=K y st:=rfl
theorem uS {b:Bool} {K:Bool→Prop}:Qu (some b) K=K b:=rfl
theorem uT {b:Bool} {K:Bool→Prop}:xM (.c (.v (.bool b))) K=K b:=rfl
def DrK (P:Program) (s:MS) (o:Op) (K:AV→Prop):Prop:=∃ r,Bj P s o r∧K r
def xN (s:MS) (dst:Option Nat) (K:MS→Prop) (r:AV):Prop:=K (s.put dst r)
def gD (P:Program) (o:Oper) (K:MS→Prop) (s:MS) (b:Bool):Prop:=CondK b (DrK P s o.op (xN s o.dst K)) (K (s.put o.dst .undef))
theorem AC9 {P:Program} {o:Oper} {K:MS→Prop} {s:MS}:gD P o K s true=DrK P s o.op (xN s o.dst K):=JU
theorem ABU {P:Program} {o:Oper} {K:MS→Prop} {s:MS}:gD P o K s false=K (s.put o.dst .undef):=Jq
theorem gD.mk {P:Program} {o:Oper} {K:MS→Prop} {s:MS} {b:Bool} (h1:b=true→DrK P s o.op (xN s o.dst K)) (h2:b=false→K (s.put o.dst .undef)):gD P o K s b:=CondK.mk h1 h2
def vpD (P:Program) (ops:Array Oper) (K:MS→Prop):List Oper→MS→Prop
 | [],s=>K s
 | o::rest,s=>Qu (jY ops s.env o.guard) (gD P o (vpD P ops K rest) s)
def BM (o:Oper) (i:Nat):Bool:=o.after.any fun e=>e.on==i&&Region.binds .any e
def N7 (ops:Array Oper) (o:Oper):List Nat:=
 (o.op.operands.toList.filterMap fun x=>match x with | .tmp t=>some t | _=>none)++(match o.guard with | some (j,_)=>((ops[j]?).bind (·.dst)).toList | none=>[])
def Tc (ops:Array Oper) (i j:Nat):Bool:=match ops[i]?,ops[j]? with
 | some oi,some oj=>match oi.dst with
  | some d=>(i==j||oj.dst != some d)&&(i==j || !(N7 ops oj).contains d||(if i<j then BM oj i else BM oi j))
  | none=>true
 | _,_=>true
def Ew (n:Nat) (ops:Array Oper):Bool:=
 ((List.range ops.size).all fun i=>(List.range ops.size).all fun j=>Tc ops i j) &&
 ((List.range ops.size).all fun i=>match ops[i]? with | some o=>(o.after.all fun e=>!Region.binds .any e||e.on<i)&&(match o.dst with | some d=>d<n | none=>true) | none=>true)
theorem Core.congr (h:Core w0 St0 St β s a w) {s':MS} (hn:s'.n=s.n) (hst:s'.st=s.st) (he:∀ t,Cm s'.env t=Cm s.env t):Core w0 St0 St β s' a w:={
 defers:=h.defers
 size:=by rw[hn]; exact h.size
 env:=fun i=>by rw[he,hst]; exact h.env i
 below:=h.below,st0:=h.st0,stOld:=h.stOld,stIn:=h.stIn
 obs:=by rw[hst]; exact h.obs
 nil:=by rw[hst]; exact h.nil
 inj:=by rw[hst]; exact h.inj
 sep:=by rw[hst]; exact h.sep
 own:=by rw[hst]; exact h.own }
section draw
variable (ops:Array Oper) (R:Nat→AV)
def BQ (env:List (Nat×AV)) (X:Nat→Bool):Nat→List (Nat×AV)
 | 0=>env
 | k+1=>match (ops[k]?).bind (·.dst) with
  | some d=>if X k then(d,R k)::BQ env X k else BQ env X k
  | none=>BQ env X k
variable {ops R}
theorem Dp {env:List (Nat×AV)} {X:Nat→Bool} (hd:∀ (i j d:Nat),(ops[i]?).bind (·.dst)=some d→(ops[j]?).bind (·.dst)=some d→i=j) {i d:Nat} (hi:(ops[i]?).bind (·.dst)=some d) (hX:X i=true) :
  ∀ k,i<k→Cm (BQ ops R env X k) d=R i
 | 0,h=>by omega
 | k+1,h=>by
  simp only[BQ]
  rcases bf i k with h' | h'
  ·have ih:=Dp (env:=env) (X:=X) hd hi hX k h'
   split
   ·rename_i d' hk
    split
    ·simp only[Cm]
     by_cases e:d'=d
     ·subst e
      have:=hd i k d' hi hk
      omega
     ·simp only[e,aI]; exact ih
    ·exact ih
   ·exact ih
  ·have:i=k:=by omega
   subst this
   simp only[hi,hX,aW,Cm]
theorem Aj {env:List (Nat×AV)} {X:Nat→Bool} {d:Nat}:∀ k,(∀ (i:Nat),i<k→(ops[i]?).bind (·.dst)=some d→X i=false)→Cm (BQ ops R env X k) d=Cm env d
 | 0,_=>rfl
 | k+1,hm=>by
  have ih:=Aj (env:=env) (X:=X) k (fun i hi=>hm i (by omega))
  simp only[BQ]
  split
  ·rename_i d' hk
   split
   ·rename_i hx
    simp only[Cm]
    by_cases e:d'=d
    ·subst e
     have:=hm k (by omega) hk
     rw[hx] at this; cases this
    ·simp only[e,aI]; exact ih
   ·exact ih
  ·exact ih
end draw
theorem V8 {n:Nat} {ops:Array Oper} (h:Ew n ops=true) {i j:Nat} (hi:i<ops.size) (hj:j<ops.size):Tc ops i j=true:=by
 simp only[Ew,ax] at h
 have:=aG.1 h.1 i (aa2.2 hi)
 exact aG.1 this j (aa2.2 hj)
theorem YM {n:Nat} {ops:Array Oper} (h:Ew n ops=true):∀ (i j d:Nat),(ops[i]?).bind (·.dst)=some d→(ops[j]?).bind (·.dst)=some d→i=j:=by
 intro i j d hi hj
 cases hoi:ops[i]? with
 | none=>simp[hoi] at hi
 | some oi =>
  cases hoj:ops[j]? with
  | none=>simp[hoj] at hj
  | some oj =>
   simp only[hoi,hoj,abl] at hi hj
   have:=V8 h (bC.1 hoi).1 (bC.1 hoj).1
   simp only[Tc,hoi,hoj,hi,ax,zH,Zi,bne_iff_ne] at this
   rcases this.1 with h1 | h1
   ·exact h1
   ·exact absurd hj h1
theorem L6 {n:Nat} {ops:Array Oper} (h:Ew n ops=true) {i j d:Nat} {oi oj:Oper} (hoi:ops[i]?=some oi) (hoj:ops[j]?=some oj) (hd:oi.dst=some d) (hr:d∈N7 ops oj) (hne:i≠j) :
  (i<j→BM oj i=true)∧(j<i→BM oi j=true):=by
 have:=V8 h (bC.1 hoi).1 (bC.1 hoj).1
 simp only[Tc,hoi,hoj,hd,ax,zH,Zi,bne_iff_ne] at this
 have h2:(N7 ops oj).contains d=true:=List.contains_iff_mem.2 hr
 rcases this.2 with (h1 | h1) | h1
 ·exact absurd h1 hne
 ·simp at h1
  exact absurd hr h1
 ·refine⟨fun hlt=>?_,fun hlt=>?_⟩
  ·rw[aX hlt] at h1; exact h1
  ·rw[aV (by omega)] at h1; exact h1
theorem FC {n:Nat} {ops:Array Oper} (h:Ew n ops=true) {i:Nat} {o:Oper} (ho:ops[i]?=some o):(∀ e∈o.after,Region.binds .any e=true→e.on<i)∧∀ d,o.dst=some d→d<n:=by
 simp only[Ew,ax] at h
 have:=aG.1 h.2 i (aa2.2 (bC.1 ho).1)
 simp only[ho,ax] at this
 refine⟨fun e he hb=>?_,fun d hd=>?_⟩
 ·have:=Array.all_eq_true'.1 this.1 e he
  simpa [hb] using this
 ·have h2:=this.2
  simp only[hd] at h2
  simpa using h2
theorem Cc {o:Oper} {i:Nat} {listed:Array Bool} (h:BM o i=true) (hall:∀ e∈o.after,Region.binds .any e=true→listed.getD e.on false=true):listed.getD i false=true:=by
 unfold BM at h
 rw[Array.any_eq_true'] at h
 obtain⟨e,he,h2⟩:=h
 simp only[ax,Zi] at h2
 rw[← h2.1]
 exact hall e he h2.2
theorem YN {n:Nat} {ops:Array Oper} {K:MS→Prop} (hok:Ew n ops=true) (hn:s.n=n):∀ (l:List Oper) (k:Nat) (R0:Nat→AV),(∀ j,l[j]?=ops[k+j]?)→k+l.length=ops.size →
  vpD P ops K l ⟨s.n,BQ ops R0 s.env (fun i=>decide (i<k)) k,s.st⟩ →
  ∃ R:Nat→AV,(∀ i,i<k→R i=R0 i)∧K ⟨s.n,BQ ops R s.env (fun _=>true) ops.size,s.st⟩ ∧
   ∀ (i:Nat) (o:Oper),k≤i→ops[i]?=some o→∃ b,jY ops (BQ ops R s.env (fun _=>true) i) o.guard=some b∧(b=true→Bj P ⟨s.n,BQ ops R s.env (fun _=>true) i,s.st⟩ o.op (R i))∧(b=false→R i = .undef)
 | [],k,R0,hl,hk,h=>by
  simp only[oI,abE] at hk
  simp only[vpD] at h
  refine⟨R0,fun _ _=>rfl, ?_,fun i o hi ho=>?_⟩
  ·have key:∀ m,m≤k→BQ ops R0 s.env (fun i=>decide (i<k)) m=BQ ops R0 s.env (fun _=>true) m:=by
    intro m
    induction m with
    | zero=>intro _; rfl
    | succ m ih =>
     intro hm
     have hmk:m<k:=by omega
     simp only[BQ,ih (by omega),hmk,decide_true]
   rw[← hk,← key k (aK _)]; exact h
  ·have:=(bC.1 ho).1
   omega
 | o::l,k,R0,hl,hk,h=>by
  have ho:ops[k]?=some o:=by simpa using(hl 0).symm
  have key:∀ (R1:Nat→AV) (m:Nat),m≤k→BQ ops R1 s.env (fun i=>decide (i<k)) m=BQ ops R1 s.env (fun _=>true) m:=by
   intro R1 m
   induction m with
   | zero=>intro _; rfl
   | succ m ih =>
    intro hm
    have hmk:m<k:=by omega
    simp only[BQ,ih (by omega),hmk,decide_true]
  have keyR:∀ (R1 R2:Nat→AV) (m:Nat),(∀ i,i<m→R1 i=R2 i)→BQ ops R1 s.env (fun _=>true) m=BQ ops R2 s.env (fun _=>true) m:=by
   intro R1 R2 m
   induction m with
   | zero=>intro _; rfl
   | succ m ih =>
    intro hm
    simp only[BQ,ih (fun i hi=>hm i (by omega)),hm m (by omega)]
  simp only[vpD,Qu,gD] at h
  have step:∀ r:AV,vpD P ops K l (MS.put ⟨s.n,BQ ops R0 s.env (fun i=>decide (i<k)) k,s.st⟩ o.dst r) →
    ∃ R:Nat→AV,(∀ i,i<k→R i=R0 i)∧R k=r∧K ⟨s.n,BQ ops R s.env (fun _=>true) ops.size,s.st⟩ ∧
     ∀ (i:Nat) (o:Oper),k+1≤i→ops[i]?=some o→∃ b,jY ops (BQ ops R s.env (fun _=>true) i) o.guard=some b∧(b=true→Bj P ⟨s.n,BQ ops R s.env (fun _=>true) i,s.st⟩ o.op (R i))∧(b=false→R i = .undef):=by
   intro r hr
   have e1:MS.put ⟨s.n,BQ ops R0 s.env (fun i=>decide (i<k)) k,s.st⟩ o.dst r=⟨s.n,BQ ops (fun i=>if i=k then r else R0 i) s.env (fun i=>decide (i<k+1)) (k+1),s.st⟩:=by
    have key2:∀ m,m≤k→BQ ops (fun i=>if i=k then r else R0 i) s.env (fun i=>decide (i<k+1)) m=BQ ops R0 s.env (fun i=>decide (i<k)) m:=by
     intro m
     induction m with
     | zero=>intro _; rfl
     | succ m ih =>
      intro hm
      have h1:m<k:=by omega
      have h2:m<k+1:=by omega
      have h3:¬ m=k:=by omega
      simp only[BQ,ih (by omega),h1,h2,h3,decide_true,aI]
    simp only[BQ,ho,abl,key2 k (aK _)]
    cases hd:o.dst with
    | none=>simp only[MS.put]
    | some d =>
     have:=(FC hok ho).2 d hd
     have h2:k<k+1:=by omega
     simp[MS.put,hn,this,h2]
   rw[e1] at hr
   obtain⟨R,h1,h2,h3⟩:=YN hok hn l (k+1) _ (fun j=>by
    have:=hl (j+1)
    simpa [abv,Nat.add_comm 1 j] using this) (by simp only[bY] at hk; omega) hr
   exact⟨R,fun i hi=>by rw[h1 i (by omega)]; simp; omega,by rw[h1 k (by omega)]; simp,h2,h3⟩
  split at h
  ·rename_i b hb
   cases b with
   | true =>
    obtain⟨r,hr1,hr2⟩:=h.1 rfl
    obtain⟨R,h1,h2,h3,h4⟩:=step r hr2
    refine⟨R,h1,h3,fun i o' hi ho'=>?_⟩
    rcases bf k i with h' | h'
    ·exact h4 i o' (by omega) ho'
    ·have:i=k:=by omega
     subst this
     rw[ho] at ho'
     simp only[ah] at ho'
     subst ho'
     rw[key R0 i (aK _),keyR R0 R i (fun j hj=>(h1 j hj).symm)] at hb
     rw[key R0 i (aK _),keyR R0 R i (fun j hj=>(h1 j hj).symm)] at hr1
     exact⟨true,hb,fun _=>by rw[h2]; exact hr1,by simp⟩
   | false =>
    obtain⟨R,h1,h2,h3,h4⟩:=step _ (h.2 rfl)
    refine⟨R,h1,h3,fun i o' hi ho'=>?_⟩
    rcases bf k i with h' | h'
    ·exact h4 i o' (by omega) ho'
    ·have:i=k:=by omega
     subst this
     rw[ho] at ho'
     simp only[ah] at ho'
     subst ho'
     rw[key R0 i (aK _),keyR R0 R i (fun j hj=>(h1 j hj).symm)] at hb
     exact⟨false,hb,by simp,fun _=>h2⟩
  ·exact h.elim
end Go.Vm
