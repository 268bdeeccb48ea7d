/- The value machine, part Q: one operation, in text order and in an order that is drawn. -/
import Derived.Test.YthoeeoddgkjkkaaGreatVmY
import Derived.Test.YthoeeoddgkjkkaaGreatVmPb
import Derived.Orders
namespace Go.Vm
set_option linter.unusedSimpArgs false
set_option linter.unusedVariables false
open Go.RowKit
variable {P:Program} {w0:Bs} {St0 St:Nat→Nat→Prop} {β:Nat→Option Nat} {s:MS} {a:Act} {w:World}
def same (st:List Ob):Option AV→Option (AV×List Ob)
 | some y=>some (y,st)
 | none=>none
def Rw (P:Program) (s:MS) (o:Op):Option (AV×List Ob):=match o with
 | .alloc T=>KC P s T
 | .box T x=>ku s T (Dp s x)
 | .store T p x=>TU P s T (Dp s p) (Dp s x)
 | .makeSlice T l c=>ZC P s T (Dp s l) (Dp s c)
 | .buildSlice T len ps=>H6 P s T len ps.toList
 | .build T ps=>if Ak P T then OJ P s T ps.toList else none
 | .slice T x lo hi none=>OL P s T (Dp s x) lo hi
 | .load T x=>match FY P s (.load T x) with
  | some y=>some (y,s.st)
  | none=>gK P s T (Dp s x)
 | .call c=>match c.callee with
  | .builtin .append=>match c.args.toList,c.argTypes.toList with
   | [x,y],[T,T']=>if T=T' then bu P s T (Dp s x) (Dp s y) else bz P s T T' (Dp s x) (Dp s y)
   | _,_=>none
  | _=>same s.st (FY P s (.call c))
 | op=>same s.st (FY P s op)
theorem oz {st st':List Ob} {x:Option AV} {y:AV} (h:same st x=some (y,st')):x=some y∧st'=st:=by
 cases x with
 | none=>simp[same] at h
 | some z=>simp only[same,Option.some.injEq,Prod.mk.injEq] at h; exact⟨by rw[h.1],h.2.symm⟩
theorem Jf (h:Core w0 St0 St β s a w) {o:Oper} {y:AV} (hg:Gives P a w St s.st β o y):Does P a w w0 St0 s o y s.st:=by
 obtain⟨v,h1,h2⟩:=hg
 exact⟨_,v,w,St,β,h1,.inl rfl,h,h2⟩
theorem lQ (h:Core w0 St0 St β s a w) (o:Oper) (T:TypeId) (x:Operand) (ho:o.op = .load T x) (hc:Ap x=true) {y:AV} {st':List Ob} (hy:gK P s T (Dp s x)=some (y,st')):Does P a w w0 St0 s o y st':=by
 have he:=BR h x hc
 unfold gK at hy
 split at hy
 ·rename_i l i off hg hev
  split at hy
  ·rename_i ob hob
   split at hy
   ·rename_i hwr
    split at hy
    ·rename_i row hrow
     split at hy
     ·rename_i ty sz xs hcell
      simp only[Option.some.injEq,Prod.mk.injEq] at hy
      obtain⟨rfl,rfl⟩:=hy
      obtain⟨b,u,β',hb,hu,hcore,href⟩:=h.openCell hob hwr hrow hcell
      rw[hev] at he
      obtain⟨hl,hlive⟩:=BG hob
      simp only[AVR,hl] at he
      obtain⟨b2,hb2,hv⟩:=he hlive
      rw[hb] at hb2
      cases hb2
      refine⟨.value u,u,w,St,β', ?_,.inl rfl,hcore,by simpa only[AVR] using href⟩
      simp[execOp,ho,hv,Instr.loadAt,Instr.sureAddr,loadVar,O0 hg,hu]
     ·cases hy
    ·cases hy
   ·cases hy
  ·cases hy
 ·cases hy
theorem b_ (h:Core w0 St0 St β s a w) (o:Oper) (hc:o.op.operands.toList.all Ap=true) {y:AV} {st':List Ob} (hy:Rw P s o.op=some (y,st')):Does P a w w0 St0 s o y st':=by
 have hF:∀ {y:AV} {st':List Ob},same s.st (FY P s o.op)=some (y,st')→Does P a w w0 St0 s o y st':=fun {y st'} hs=>by
  obtain⟨h1,rfl⟩:=oz hs
  exact Jf h (XB h o hc h1)
 cases hop:o.op with
 | alloc T=>rw[hop] at hy; exact kw h o T hop hy
 | load T x =>
  rw[hop] at hy hc
  simp only[Rw] at hy
  split at hy
  ·rename_i y' hf
   simp only[Option.some.injEq,Prod.mk.injEq] at hy
   obtain⟨rfl,rfl⟩:=hy
   exact Jf h (XB h o (by rw[hop]; exact hc) (by rw[hop]; exact hf))
  ·exact lQ h o T x hop (by simpa [Op.operands] using hc) hy
 | box T x =>
  rw[hop] at hy hc
  exact vw h o T x hop (by simpa [Op.operands] using hc) hy
 | store T p x =>
  rw[hop] at hy hc
  simp[Op.operands] at hc
  exact lC h o T p x hop hc.1 hc.2 hy
 | makeSlice T l c =>
  rw[hop] at hy hc
  simp[Op.operands] at hc
  exact oU h o T l c hop hc.1 hc.2 hy
 | buildSlice T len ps =>
  rw[hop] at hy hc
  exact U4 h o T len ps hop (by simpa [Op.operands,Function.comp_def] using hc) hy
 | build T ps =>
  rw[hop] at hy hc
  simp only[Rw] at hy
  split at hy
  ·rename_i hfo
   exact lD h o T ps hop hfo (by simpa [Op.operands,Function.comp_def] using hc) hy
  ·cases hy
 | slice T x lo hi mx =>
  cases mx with
  | none =>
   rw[hop] at hy hc
   simp[Op.operands] at hc
   refine lM h o T x lo hi hop hc.1 ?_ ?_ hy
   ·cases lo with
    | none=>rfl
    | some q=>exact hc.2.1 q rfl
   ·cases hi with
    | none=>rfl
    | some q=>exact hc.2.2 q rfl
  | some m=>rw[hop] at hy; simp[Rw,FY,same] at hy
 | call c =>
  by_cases hap:c.callee = .builtin .append
  ·rw[hop] at hy hc
   simp only[Rw,hap] at hy
   split at hy
   ·rename_i x y2 T T' hca hct
    split at hy
    ·rename_i hT
     subst hT
     simp only[Op.operands,Call.operands,Array.toList_append,List.all_append,Bool.and_eq_true,hca] at hc
     simp at hc
     exact oq h o T c x y2 hop hap hca hct hc.2.1 hc.2.2 hy
    ·simp only[Op.operands,Call.operands,Array.toList_append,List.all_append,Bool.and_eq_true,hca] at hc
     simp at hc
     exact ou h o T T' c x y2 hop hap hca hct hc.2.1 hc.2.2 hy
   ·cases hy
  ·rw[hop] at hy
   have:Rw P s (.call c)=same s.st (FY P s (.call c)):=by
    simp only[Rw]
   rw[this] at hy
   exact hF (by rw[hop]; exact hy)
 | _=>exact hF (by rw[hop] at hy ⊢; exact hy)
theorem Jr (o:Oper) (c:Call) (f:FuncId) (ho:o.op = .call c) (hcl:c.callee = .value (.func f)) (hin:CallsIn P f):(execOp a.eval o).run P w = .ok (.enter f (c.args.map a.eval)) w:=by
 have:=hin (c.args.map a.eval) w
 simp[execOp,ho,resolve,hcl,Act.eval,Deferred.ofValue,invoke,this]
theorem KF (h:Core w0 St0 St β s a w):∀ (xs:List Operand),xs.all Ap=true→AVRs w St s.st β (xs.map (Dp s)) (xs.map a.eval)
 | [],_=>by simp[AVRs]
 | x::xs,hc=>by
  simp only[List.all_cons,Bool.and_eq_true] at hc
  simp only[List.map_cons,AVRs]
  exact⟨_,_,rfl,BR h x hc.1,KF h xs hc.2⟩
theorem QN (h:Core w0 St0 St β s a w) {rs:List Res} {e:Ending} {w':World} {us:List Value} {bs:List (Option Nat)} {St':Nat→Nat→Prop} (hb:Back w St rs e w' us bs St'):Core w0 St0 St' β s a w':=
 h.grow hb.below hb.st hb.stOld hb.stIn
theorem lS (h:Core w0 St0 St β s a w) {rs:List Res} {e:Ending} {w':World} {us:List Value} {bs:List (Option Nat)} {St':Nat→Nat→Prop} (hb:Back w St rs e w' us bs St'):Own w0 (fun x=>w.heap.size≤x) w' St' s.st β:=
 h.own.grow hb.below hb.st hb.stOld h.stIn (fun l ob b h1 h2 h3=>(h.obs l ob b h1 h2 h3).2.1) (fun x h1 h2=>by omega)
theorem ResR.blk {w w':World} {St':Nat→Nat→Prop}:∀ (rs:List Res) (us:List Value) (bs:List (Option Nat)) (Φs:List (Nat→Nat→Prop)),ResR w' St' w.heap.size rs us bs Φs→∀ (i b:Nat),bs[i]?=some (some b)→w.heap.size≤b:=by
 intro rs
 induction rs with
 | nil=>intro us bs Φs h i b hi; obtain⟨_,rfl,_⟩:=h; simp at hi
 | cons r rs ih =>
  intro us bs Φs h i b hi
  obtain⟨u,us',b0,bs',Φ,Φs',rfl,rfl,rfl,h1,h2⟩:=h
  cases i with
  | succ i=>exact ih us' bs' Φs' h2 i b (by simpa using hi)
  | zero =>
   simp only[List.getElem?_cons_zero,Option.some.injEq] at hi
   subst hi
   cases r with
   | val x=>exact absurd h1.2 (by simp)
   | own ty sz xs wr=>exact h1.1
   | agg cl=>exact absurd h1.1 (by simp)
theorem ZK (h:Core w0 St0 St β s a w) {rs:List Res} {e:Ending} {w':World} {us:List Value} {bs:List (Option Nat)} {St':Nat→Nat→Prop} (hb:Back w St rs e w' us bs St') :
  ∃ β',Core w0 St0 St' β' ⟨s.n,s.env,(Gn s.st rs).2⟩ a w'∧AVRs w' St' (Gn s.st rs).2 β' (Gn s.st rs).1 us:=by
 obtain⟨Φs,hr,hf⟩:=hb.res
 have hfr:∀ x,w.heap.size≤x→∀ l o2,s.st[l]?=some o2→o2.live=true→β l≠some x:=fun x hx l o2 hl hlv hβ=>by
  have:=(h.obs l o2 x hl hlv hβ).2.1
  omega
 obtain⟨β',q1,q2,_⟩:=SV w.heap.size rs us bs Φs s.st β (fun x=>w.heap.size≤x) (QN h hb) h.below.size (lS h hb) hr hf
  (fun i b hi=>⟨ResR.blk rs us bs Φs hr i b hi,hfr b (ResR.blk rs us bs Φs hr i b hi)⟩) (fun i Φ k x hi hx=>⟨(hf.fresh i Φ k x hi hx).1,hfr x (hf.fresh i Φ k x hi hx).1⟩)
 exact⟨β',q1,q2⟩
def BM (P:Program) (s:MS) (o:Op) (r:AV):Prop:=match o with
 | .call c=>match c.callee with
  | .value (.func f)=>∃ args rs,(O5 s.st (c.args.toList.map (Dp s))=some (args,s.st)∨(NY s.st (c.args.toList.map (Dp s))=some args∧rs.all K_=true))∧Ctr P f args rs∧r=retA (NP rs)
  | .builtin .append=>False
  | _=>FY P s (.call c)=some r
 | .build T ps=>Ak P T=true∧OJ P s T ps.toList=some (r,s.st)
 | .slice T x lo hi none=>OL P s T (Dp s x) lo hi=some (r,s.st)
 | op=>FY P s op=some r
theorem QO (h:Core w0 St0 St β s a w) (o:Oper) (hc:o.op.operands.toList.all Ap=true) {r:AV} (hr:BM P s o.op r) (Q:Exit→Act→World→Prop) :
  o.wp P a w (fun a' w'=>Sim w0 St0 (s.put o.dst r) a' w') Q:=by
 have hD:∀ {r:AV},Does P a w w0 St0 s o r s.st→o.wp P a w (fun a' w'=>Sim w0 St0 (s.put o.dst r) a' w') Q:=fun {r} hd=>by
  obtain⟨nx,v,w',St',β',h1,h2,h3,h4⟩:=hd
  unfold Oper.wp
  rw[h1]
  rcases h2 with rfl | ⟨rfl,rfl⟩
  ·exact⟨St',β',h3.put o.dst h4⟩
  ·exact⟨St',β',h3.put o.dst h4⟩
 have hF:∀ {r:AV},FY P s o.op=some r→o.wp P a w (fun a' w'=>Sim w0 St0 (s.put o.dst r) a' w') Q:=fun {r} hs=>hD (Jf h (XB h o hc hs))
 cases hop:o.op with
 | call c =>
  rw[hop] at hr
  simp only[BM] at hr
  split at hr
  ·rename_i f hcl
   obtain⟨args,rs,hf,hspec,rfl⟩:=hr
   have hca:c.args.toList.all Ap=true:=by
    rw[hop] at hc
    simp only[Op.operands,Call.operands,Array.toList_append,List.all_append,Bool.and_eq_true] at hc
    exact hc.2
   rcases hf with hf | hf
   ·obtain⟨St1,q1,q2,q3⟩:=O6 _ _ _ _ St h hf
    have hargs:=q3 _ (KF h c.args.toList hca)
    unfold Oper.wp
    rw[Jr o c f hop hcl hspec.1]
    simp only[Oper.upon]
    have hcall:=hspec.2 w St1 (c.args.toList.map a.eval) q1.stIn hargs
    have ea:(c.args.toList.map a.eval).toArray=c.args.map a.eval:=by apply Array.ext'; simp
    rw[ea] at hcall
    refine hcall.mono fun e w' hb=>?_
    obtain⟨us,bs,St2,hb⟩:=hb
    obtain⟨bs3,St3,hb3⟩:=TW hb
    have k1:=QN q1 hb3
    have e1:=hb.ret
    subst e1
    obtain⟨Φs3,hr3,_⟩:=hb3.res
    have k3:=fG rs hr3
    refine⟨St3,β,k1.put o.dst (MX ?_)⟩
    have key:∀ (xs:List AV) (us:List Value),RdAs w' St3 xs us→AVRs w' St3 s.st β xs us:=by
     intro xs
     induction xs with
     | nil=>intro us h; simp only[AVRs]; exact h
     | cons x xs ih =>
      intro us h
      obtain⟨y,ys,h1,h2,h3⟩:=h
      simp only[AVRs]
      exact⟨y,ys,h1,h2.toAVR,ih ys h3⟩
    exact key _ _ k3
   ·obtain⟨φ,hφ⟩:=h.own
    have hargs:=TZ h hφ hf.1 (KF h c.args.toList hca)
    unfold Oper.wp
    rw[Jr o c f hop hcl hspec.1]
    simp only[Oper.upon]
    have hcall:=hspec.2 w _ (c.args.toList.map a.eval) (fun b o hb=>AllSt.lt h hφ hb) hargs
    have ea:(c.args.toList.map a.eval).toArray=c.args.map a.eval:=by apply Array.ext'; simp
    rw[ea] at hcall
    refine hcall.mono fun e w' hb=>?_
    obtain⟨us,bs,St2,hb⟩:=hb
    have hb:=hb.clo hf.2 h.stIn
    obtain⟨bs3,St3,hb3⟩:=TW hb
    have k1:=QN h hb3
    have e1:=hb.ret
    subst e1
    obtain⟨Φs3,hr3,_⟩:=hb3.res
    have k3:=fG rs hr3
    refine⟨St3,β,k1.put o.dst (MX ?_)⟩
    have key:∀ (xs:List AV) (us:List Value),RdAs w' St3 xs us→AVRs w' St3 s.st β xs us:=by
     intro xs
     induction xs with
     | nil=>intro us h; simp only[AVRs]; exact h
     | cons x xs ih =>
      intro us h
      obtain⟨y,ys,h1,h2,h3⟩:=h
      simp only[AVRs]
      exact⟨y,ys,h1,h2.toAVR,ih ys h3⟩
    exact key _ _ k3
  ·exact hr.elim
  ·exact hF (by rw[hop]; exact hr)
 | build T ps =>
  rw[hop] at hr
  refine hD (b_ h o hc ?_)
  rw[hop]
  simp only[BM] at hr
  simp only[Rw,hr.1,if_true]
  exact hr.2
 | slice T x lo hi mx =>
  rw[hop] at hr
  cases mx with
  | none =>
   refine hD (b_ h o hc ?_)
   rw[hop]
   exact hr
  | some m=>simp only[BM,FY] at hr; cases hr
 | _=>exact hF (by rw[hop] at hr ⊢; exact hr)
theorem Vf {s s':MS} {x:Operand} (h:∀ t,x = .tmp t→CB s'.env t=CB s.env t):Dp s' x=Dp s x:=by
 cases x with
 | tmp t=>exact congrArg unpin (h t rfl)
 | _=>rfl
theorem KG {s s':MS} (hst:s'.st=s.st) (o:Op) (h:∀ t,.tmp t∈o.operands.toList→CB s'.env t=CB s.env t) (r:AV) (hr:BM P s o r):BM P s' o r:=by
 have he:∀ x,x∈o.operands.toList→Dp s' x=Dp s x:=fun x hx=>Vf fun t ht=>h t (by rw[← ht]; exact hx)
 cases o with
 | call c =>
  have hargs:∀ x∈c.args.toList,Dp s' x=Dp s x:=fun x hx=>he x (by
   simp only[Op.operands,Call.operands,Array.toList_append,List.mem_append]
   exact .inr hx)
  have hmap:c.args.toList.map (Dp s')=c.args.toList.map (Dp s):=List.map_congr_left hargs
  simp only[BM] at hr ⊢
  split at hr
  ·rename_i f hcl
   rw[hmap,hst]; exact hr
  ·exact hr
  ·simp only[FY] at hr ⊢
   split at hr
   ·split at hr
    ·rename_i t x hat hax
     rw[hargs x (by rw[hax]; simp),hst]; exact hr
    ·cases hr
   ·split at hr
    ·rename_i x y hax
     rw[hargs x (by rw[hax]; simp),hargs y (by rw[hax]; simp)]; exact hr
    ·cases hr
   ·split at hr
    ·rename_i x y hax
     rw[hargs x (by rw[hax]; simp),hargs y (by rw[hax]; simp)]; exact hr
    ·cases hr
   ·cases hr
 | build T ps =>
  have hps:∀ p∈ps.toList,Dp s' p.2=Dp s p.2:=fun p hp=>he p.2 (by
   simp only[Op.operands]
   simp only[List.mem_map]
   exact⟨p,hp,rfl⟩)
  have key:∀ (l:List (Nat×Operand)),(∀ p∈l,Dp s' p.2=Dp s p.2)→FZ s' l=FZ s l:=by
   intro l
   induction l with
   | nil=>intro _; rfl
   | cons p l ih=>intro hl; simp only[FZ,hl p (by simp),ih (fun q hq=>hl q (by simp[hq]))]
  simp only[BM,OJ,key _ hps,hst] at hr ⊢
  exact hr
 | slice T x lo hi mx =>
  cases mx with
  | none =>
   have h1:Dp s' x=Dp s x:=he x (by simp[Op.operands])
   have h2:∀ d,GV s' lo d=GV s lo d:=fun d=>by
    cases lo with
    | none=>rfl
    | some q=>simp only[GV]; rw[he q (by simp[Op.operands])]
   have h3:∀ d,GV s' hi d=GV s hi d:=fun d=>by
    cases hi with
    | none=>rfl
    | some q=>simp only[GV]; rw[he q (by simp[Op.operands])]
   simp only[BM,OL,h1,h2,h3,hst] at hr ⊢
   exact hr
  | some m=>simp only[BM,FY] at hr; cases hr
 | move x=>simp only[BM,FY] at hr ⊢; rw[he x (by simp[Op.operands])]; exact hr
 | assign x=>simp only[BM,FY] at hr ⊢; rw[he x (by simp[Op.operands])]; exact hr
 | pick c x y=>simp only[BM,FY] at hr ⊢; rw[he c (by simp[Op.operands]),he x (by simp[Op.operands]),he y (by simp[Op.operands])]; exact hr
 | load T x=>simp only[BM,FY] at hr ⊢; rw[he x (by simp[Op.operands]),hst]; exact hr
 | nilCheck x=>simp only[BM,FY] at hr ⊢; rw[he x (by simp[Op.operands]),hst]; exact hr
 | binOp op T x y T2=>simp only[BM,FY] at hr ⊢; rw[he x (by simp[Op.operands]),he y (by simp[Op.operands])]; exact hr
 | unOp op T x=>simp only[BM,FY] at hr ⊢; rw[he x (by simp[Op.operands])]; exact hr
 | convert a b x=>simp only[BM,FY] at hr ⊢; rw[he x (by simp[Op.operands]),hst]; exact hr
 | fieldAddr T x f=>simp only[BM,FY] at hr ⊢; rw[he x (by simp[Op.operands]),hst]; exact hr
 | field T x f=>simp only[BM,FY] at hr ⊢; rw[he x (by simp[Op.operands])]; exact hr
 | indexAddr T x y=>simp only[BM,FY] at hr ⊢; rw[he x (by simp[Op.operands]),he y (by simp[Op.operands]),hst]; exact hr
 | index T x y=>simp only[BM,FY] at hr ⊢; rw[he x (by simp[Op.operands]),he y (by simp[Op.operands])]; exact hr
 | extract x i=>simp only[BM,FY] at hr ⊢; rw[he x (by simp[Op.operands])]; exact hr
 | _=>simp only[BM,FY] at hr; cases hr
end Go.Vm
/- The value machine,part R: a region that draws its order,by the order of the text. -/
namespace Go.Vm
set_option linter.unusedSimpArgs false
set_option linter.unusedVariables false
open Go.RowKit
variable {P:Program} {w0:Bs} {St0 St:Nat→Nat→Prop} {β:Nat→Option Nat} {s:MS} {a:Act} {w:World}
def XO (ops:Array Oper) (env:List (Nat×AV)) (g:Option (Nat×Bool)):Option Bool:=match g with
 | none=>some true
 | some (j,want)=>match (ops[j]?).bind (·.dst) with
  | some d=>match CB env d with
   | .c (.v (.bool t))=>some (t==want)
   | .undef=>some false
   | _=>none
  | none=>some false
theorem XP (h:Core w0 St0 St β s a w) {ops:Array Oper} {o:Oper} {b:Bool} (hg:XO ops s.env o.guard=some b):Region.wanted o (yielded ops a.tmps)=b:=by
 unfold XO at hg
 unfold Region.wanted
 split at hg
 ·rename_i hn
  simp only[Option.some.injEq] at hg
  subst hg
  simp[hn]
 ·rename_i j want hn
  simp only[hn]
  unfold yielded
  split at hg
  ·rename_i d hd
   rw[hd]
   have henv:=h.env d
   split at hg
   ·rename_i t hev
    simp only[Option.some.injEq] at hg
    subst hg
    rw[hev] at henv
    obtain⟨hv,_⟩:=Jp henv
    have hlt:d<a.tmps.size:=by
     rcases Nat.lt_or_ge d a.tmps.size with h' | h'
     ·exact h'
     ·simp[h',undef] at hv
    have:a.tmps[d]?=some (.bool t):=by
     simp[hlt] at hv ⊢
     exact hv
    simp only[Option.bind_some,this]
    cases t<;>cases want<;>rfl
   ·rename_i hev
    simp only[Option.some.injEq] at hg
    subst hg
    rw[hev] at henv
    simp only[AVR] at henv
    simp only[Option.bind_some]
    cases hq:a.tmps[d]? with
    | none=>simp
    | some v =>
     have:v=undef:=by simpa [hq] using henv
     subst this
     simp[undef]
   ·cases hg
  ·rename_i hd
   simp only[Option.some.injEq] at hg
   subst hg
   simp[hd]
def CondK (b:Bool) (x y:Prop):Prop:=(b=true→x)∧(b=false→y)
theorem G_ {x y:Prop}:CondK true x y=x:=by simp[CondK]
theorem Gi {x y:Prop}:CondK false x y=y:=by simp[CondK]
theorem CondK.mk {b:Bool} {x y:Prop} (h1:b=true→x) (h2:b=false→y):CondK b x y:=⟨h1,h2⟩
def NZ (x:Option (AV×List Ob)) (K:AV→List Ob→Prop):Prop:=match x with
 | some (y,st)=>K y st
 | none=>False
def ZL (x:Option (List AV×List Ob)) (K:List AV→List Ob→Prop):Prop:=match x with
 | some (y,st)=>K y st
 | none=>False
def Na (x:Option Bool) (K:Bool→Prop):Prop:=match x with
 | some b=>K b
 | none=>False
def fO (x:AV) (K:Bool→Prop):Prop:=match x with
 | .c (.v (.bool b))=>K b
 | _=>False
theorem cO {y:AV} {st:List Ob} {K:AV→List Ob→Prop}:NZ (some (y,st)) K=K y st:=rfl
theorem cZ {y:List AV} {st:List Ob} {K:List AV→List Ob→Prop}:ZL (some (y,st)) K=K y st:=rfl
theorem cu {b:Bool} {K:Bool→Prop}:Na (some b) K=K b:=rfl
theorem dA {b:Bool} {K:Bool→Prop}:fO (.c (.v (.bool b))) K=K b:=rfl
def DrK (P:Program) (s:MS) (o:Op) (K:AV→Prop):Prop:=∃ r,BM P s o r∧K r
def ZM (s:MS) (dst:Option Nat) (K:MS→Prop) (r:AV):Prop:=K (s.put dst r)
def gD (P:Program) (o:Oper) (K:MS→Prop) (s:MS) (b:Bool):Prop:=CondK b (DrK P s o.op (ZM s o.dst K)) (K (s.put o.dst .undef))
theorem o6 {P:Program} {o:Oper} {K:MS→Prop} {s:MS}:gD P o K s true=DrK P s o.op (ZM s o.dst K):=G_
theorem lT {P:Program} {o:Oper} {K:MS→Prop} {s:MS}:gD P o K s false=K (s.put o.dst .undef):=Gi
theorem gD.mk {P:Program} {o:Oper} {K:MS→Prop} {s:MS} {b:Bool} (h1:b=true→DrK P s o.op (ZM s o.dst K)) (h2:b=false→K (s.put o.dst .undef)):gD P o K s b:=CondK.mk h1 h2
def lU (P:Program) (ops:Array Oper) (K:MS→Prop):List Oper→MS→Prop
 | [],s=>K s
 | o::rest,s=>Na (XO ops s.env o.guard) (gD P o (lU P ops K rest) s)
def BA (o:Oper) (i:Nat):Bool:=o.after.any fun e=>e.on==i&&Region.binds .any e
def KH (ops:Array Oper) (o:Oper):List Nat:=
 (o.op.operands.toList.filterMap fun x=>match x with | .tmp t=>some t | _=>none)++(match o.guard with | some (j,_)=>((ops[j]?).bind (·.dst)).toList | none=>[])
def PI (ops:Array Oper) (i j:Nat):Bool:=match ops[i]?,ops[j]? with
 | some oi,some oj=>match oi.dst with
  | some d=>(i==j||oj.dst != some d)&&(i==j || !(KH ops oj).contains d||(if i<j then BA oj i else BA oi j))
  | none=>true
 | _,_=>true
def EC (n:Nat) (ops:Array Oper):Bool:=
 ((List.range ops.size).all fun i=>(List.range ops.size).all fun j=>PI ops i j) &&
 ((List.range ops.size).all fun i=>match ops[i]? with | some o=>(o.after.all fun e=>!Region.binds .any e||e.on<i)&&(match o.dst with | some d=>d<n | none=>true) | none=>true)
theorem Core.congr (h:Core w0 St0 St β s a w) {s':MS} (hn:s'.n=s.n) (hst:s'.st=s.st) (he:∀ t,CB s'.env t=CB s.env t):Core w0 St0 St β s' a w:={
 defers:=h.defers
 size:=by rw[hn]; exact h.size
 env:=fun i=>by rw[he,hst]; exact h.env i
 below:=h.below,st0:=h.st0,stOld:=h.stOld,stIn:=h.stIn
 obs:=by rw[hst]; exact h.obs
 nil:=by rw[hst]; exact h.nil
 inj:=by rw[hst]; exact h.inj
 sep:=by rw[hst]; exact h.sep
 own:=by rw[hst]; exact h.own }
section draw
variable (ops:Array Oper) (R:Nat→AV)
def BF (env:List (Nat×AV)) (X:Nat→Bool):Nat→List (Nat×AV)
 | 0=>env
 | k+1=>match (ops[k]?).bind (·.dst) with
  | some d=>if X k then(d,R k)::BF env X k else BF env X k
  | none=>BF env X k
variable {ops R}
theorem DF {env:List (Nat×AV)} {X:Nat→Bool} (hd:∀ (i j d:Nat),(ops[i]?).bind (·.dst)=some d→(ops[j]?).bind (·.dst)=some d→i=j) {i d:Nat} (hi:(ops[i]?).bind (·.dst)=some d) (hX:X i=true) :
  ∀ k,i<k→CB (BF ops R env X k) d=R i
 | 0,h=>by omega
 | k+1,h=>by
  simp only[BF]
  rcases Nat.lt_or_ge i k with h' | h'
  ·have ih:=DF (env:=env) (X:=X) hd hi hX k h'
   split
   ·rename_i d' hk
    split
    ·simp only[CB]
     by_cases e:d'=d
     ·subst e
      have:=hd i k d' hi hk
      omega
     ·simp only[e,if_false]; exact ih
    ·exact ih
   ·exact ih
  ·have:i=k:=by omega
   subst this
   simp only[hi,hX,if_true,CB]
theorem Ag {env:List (Nat×AV)} {X:Nat→Bool} {d:Nat}:∀ k,(∀ (i:Nat),i<k→(ops[i]?).bind (·.dst)=some d→X i=false)→CB (BF ops R env X k) d=CB env d
 | 0,_=>rfl
 | k+1,hm=>by
  have ih:=Ag (env:=env) (X:=X) k (fun i hi=>hm i (by omega))
  simp only[BF]
  split
  ·rename_i d' hk
   split
   ·rename_i hx
    simp only[CB]
    by_cases e:d'=d
    ·subst e
     have:=hm k (by omega) hk
     rw[hx] at this; cases this
    ·simp only[e,if_false]; exact ih
   ·exact ih
  ·exact ih
end draw
theorem RI {n:Nat} {ops:Array Oper} (h:EC n ops=true) {i j:Nat} (hi:i<ops.size) (hj:j<ops.size):PI ops i j=true:=by
 simp only[EC,Bool.and_eq_true] at h
 have:=List.all_eq_true.1 h.1 i (List.mem_range.2 hi)
 exact List.all_eq_true.1 this j (List.mem_range.2 hj)
theorem Td {n:Nat} {ops:Array Oper} (h:EC n ops=true):∀ (i j d:Nat),(ops[i]?).bind (·.dst)=some d→(ops[j]?).bind (·.dst)=some d→i=j:=by
 intro i j d hi hj
 cases hoi:ops[i]? with
 | none=>simp[hoi] at hi
 | some oi =>
  cases hoj:ops[j]? with
  | none=>simp[hoj] at hj
  | some oj =>
   simp only[hoi,hoj,Option.bind_some] at hi hj
   have:=RI h (Array.getElem?_eq_some_iff.1 hoi).1 (Array.getElem?_eq_some_iff.1 hoj).1
   simp only[PI,hoi,hoj,hi,Bool.and_eq_true,Bool.or_eq_true,beq_iff_eq,bne_iff_ne] at this
   rcases this.1 with h1 | h1
   ·exact h1
   ·exact absurd hj h1
theorem JV {n:Nat} {ops:Array Oper} (h:EC n ops=true) {i j d:Nat} {oi oj:Oper} (hoi:ops[i]?=some oi) (hoj:ops[j]?=some oj) (hd:oi.dst=some d) (hr:d∈KH ops oj) (hne:i≠j) :
  (i<j→BA oj i=true)∧(j<i→BA oi j=true):=by
 have:=RI h (Array.getElem?_eq_some_iff.1 hoi).1 (Array.getElem?_eq_some_iff.1 hoj).1
 simp only[PI,hoi,hoj,hd,Bool.and_eq_true,Bool.or_eq_true,beq_iff_eq,bne_iff_ne] at this
 have h2:(KH ops oj).contains d=true:=List.contains_iff_mem.2 hr
 rcases this.2 with (h1 | h1) | h1
 ·exact absurd h1 hne
 ·simp[h2] at h1
  exact absurd hr h1
 ·refine⟨fun hlt=>?_,fun hlt=>?_⟩
  ·rw[if_pos hlt] at h1; exact h1
  ·rw[if_neg (by omega)] at h1; exact h1
theorem EJ {n:Nat} {ops:Array Oper} (h:EC n ops=true) {i:Nat} {o:Oper} (ho:ops[i]?=some o):(∀ e∈o.after,Region.binds .any e=true→e.on<i)∧∀ d,o.dst=some d→d<n:=by
 simp only[EC,Bool.and_eq_true] at h
 have:=List.all_eq_true.1 h.2 i (List.mem_range.2 (Array.getElem?_eq_some_iff.1 ho).1)
 simp only[ho,Bool.and_eq_true] at this
 refine⟨fun e he hb=>?_,fun d hd=>?_⟩
 ·have:=Array.all_eq_true'.1 this.1 e he
  simpa [hb] using this
 ·have h2:=this.2
  simp only[hd] at h2
  simpa using h2
theorem Bo {o:Oper} {i:Nat} {listed:Array Bool} (h:BA o i=true) (hall:∀ e∈o.after,Region.binds .any e=true→listed.getD e.on false=true):listed.getD i false=true:=by
 unfold BA at h
 rw[Array.any_eq_true'] at h
 obtain⟨e,he,h2⟩:=h
 simp only[Bool.and_eq_true,beq_iff_eq] at h2
 rw[← h2.1]
 exact hall e he h2.2
theorem Tf {n:Nat} {ops:Array Oper} {K:MS→Prop} (hok:EC n ops=true) (hn:s.n=n):∀ (l:List Oper) (k:Nat) (R0:Nat→AV),(∀ j,l[j]?=ops[k+j]?)→k+l.length=ops.size →
  lU P ops K l ⟨s.n,BF ops R0 s.env (fun i=>decide (i<k)) k,s.st⟩ →
  ∃ R:Nat→AV,(∀ i,i<k→R i=R0 i)∧K ⟨s.n,BF ops R s.env (fun _=>true) ops.size,s.st⟩ ∧
   ∀ (i:Nat) (o:Oper),k≤i→ops[i]?=some o→∃ b,XO ops (BF ops R s.env (fun _=>true) i) o.guard=some b∧(b=true→BM P ⟨s.n,BF ops R s.env (fun _=>true) i,s.st⟩ o.op (R i))∧(b=false→R i = .undef)
 | [],k,R0,hl,hk,h=>by
  simp only[List.length_nil,Nat.add_zero] at hk
  simp only[lU] at h
  refine⟨R0,fun _ _=>rfl, ?_,fun i o hi ho=>?_⟩
  ·have key:∀ m,m≤k→BF ops R0 s.env (fun i=>decide (i<k)) m=BF ops R0 s.env (fun _=>true) m:=by
    intro m
    induction m with
    | zero=>intro _; rfl
    | succ m ih =>
     intro hm
     have hmk:m<k:=by omega
     simp only[BF,ih (by omega),hmk,decide_true]
   rw[← hk,← key k (Nat.le_refl _)]; exact h
  ·have:=(Array.getElem?_eq_some_iff.1 ho).1
   omega
 | o::l,k,R0,hl,hk,h=>by
  have ho:ops[k]?=some o:=by simpa using(hl 0).symm
  have key:∀ (R1:Nat→AV) (m:Nat),m≤k→BF ops R1 s.env (fun i=>decide (i<k)) m=BF ops R1 s.env (fun _=>true) m:=by
   intro R1 m
   induction m with
   | zero=>intro _; rfl
   | succ m ih =>
    intro hm
    have hmk:m<k:=by omega
    simp only[BF,ih (by omega),hmk,decide_true]
  have keyR:∀ (R1 R2:Nat→AV) (m:Nat),(∀ i,i<m→R1 i=R2 i)→BF ops R1 s.env (fun _=>true) m=BF ops R2 s.env (fun _=>true) m:=by
   intro R1 R2 m
   induction m with
   | zero=>intro _; rfl
   | succ m ih =>
    intro hm
    simp only[BF,ih (fun i hi=>hm i (by omega)),hm m (by omega)]
  simp only[lU,Na,gD,ZM] at h
  have step:∀ r:AV,lU P ops K l (MS.put ⟨s.n,BF ops R0 s.env (fun i=>decide (i<k)) k,s.st⟩ o.dst r) →
    ∃ R:Nat→AV,(∀ i,i<k→R i=R0 i)∧R k=r∧K ⟨s.n,BF ops R s.env (fun _=>true) ops.size,s.st⟩ ∧
     ∀ (i:Nat) (o:Oper),k+1≤i→ops[i]?=some o→∃ b,XO ops (BF ops R s.env (fun _=>true) i) o.guard=some b∧(b=true→BM P ⟨s.n,BF ops R s.env (fun _=>true) i,s.st⟩ o.op (R i))∧(b=false→R i = .undef):=by
   intro r hr
   have e1:MS.put ⟨s.n,BF ops R0 s.env (fun i=>decide (i<k)) k,s.st⟩ o.dst r=⟨s.n,BF ops (fun i=>if i=k then r else R0 i) s.env (fun i=>decide (i<k+1)) (k+1),s.st⟩:=by
    have key2:∀ m,m≤k→BF ops (fun i=>if i=k then r else R0 i) s.env (fun i=>decide (i<k+1)) m=BF ops R0 s.env (fun i=>decide (i<k)) m:=by
     intro m
     induction m with
     | zero=>intro _; rfl
     | succ m ih =>
      intro hm
      have h1:m<k:=by omega
      have h2:m<k+1:=by omega
      have h3:¬ m=k:=by omega
      simp only[BF,ih (by omega),h1,h2,h3,decide_true,if_false]
    simp only[BF,ho,Option.bind_some,key2 k (Nat.le_refl _)]
    cases hd:o.dst with
    | none=>simp only[MS.put]
    | some d =>
     have:=(EJ hok ho).2 d hd
     have h2:k<k+1:=by omega
     simp[MS.put,hn,this,h2]
   rw[e1] at hr
   obtain⟨R,h1,h2,h3⟩:=Tf hok hn l (k+1) _ (fun j=>by
    have:=hl (j+1)
    simpa [Nat.add_assoc,Nat.add_comm 1 j] using this) (by simp only[List.length_cons] at hk; omega) hr
   exact⟨R,fun i hi=>by rw[h1 i (by omega)]; simp; omega,by rw[h1 k (by omega)]; simp,h2,h3⟩
  split at h
  ·rename_i b hb
   cases b with
   | true =>
    obtain⟨r,hr1,hr2⟩:=h.1 rfl
    obtain⟨R,h1,h2,h3,h4⟩:=step r hr2
    refine⟨R,h1,h3,fun i o' hi ho'=>?_⟩
    rcases Nat.lt_or_ge k i with h' | h'
    ·exact h4 i o' (by omega) ho'
    ·have:i=k:=by omega
     subst this
     rw[ho] at ho'
     simp only[Option.some.injEq] at ho'
     subst ho'
     rw[key R0 i (Nat.le_refl _),keyR R0 R i (fun j hj=>(h1 j hj).symm)] at hb
     rw[key R0 i (Nat.le_refl _),keyR R0 R i (fun j hj=>(h1 j hj).symm)] at hr1
     exact⟨true,hb,fun _=>by rw[h2]; exact hr1,by simp⟩
   | false =>
    obtain⟨R,h1,h2,h3,h4⟩:=step _ (h.2 rfl)
    refine⟨R,h1,h3,fun i o' hi ho'=>?_⟩
    rcases Nat.lt_or_ge k i with h' | h'
    ·exact h4 i o' (by omega) ho'
    ·have:i=k:=by omega
     subst this
     rw[ho] at ho'
     simp only[Option.some.injEq] at ho'
     subst ho'
     rw[key R0 i (Nat.le_refl _),keyR R0 R i (fun j hj=>(h1 j hj).symm)] at hb
     exact⟨false,hb,by simp,fun _=>h2⟩
  ·exact h.elim
end Go.Vm
/- The value machine,part MS: every order that is drawn comes to what the order of the text comes to. -/
namespace Go.Vm
set_option linter.unusedSimpArgs false
set_option linter.unusedVariables false
open Go.RowKit
variable {P:Program} {w0:Bs} {St0 St:Nat→Nat→Prop} {β:Nat→Option Nat} {s:MS} {a:Act} {w:World}
theorem Sim.congr {s s':MS} (h:Sim w0 St0 s a w) (hn:s'.n=s.n) (hst:s'.st=s.st) (he:∀ t,CB s'.env t=CB s.env t):Sim w0 St0 s' a w:=by
 obtain⟨St,β,h⟩:=h
 exact⟨St,β,h.congr hn hst he⟩
theorem QP {ops:Array Oper} {env env':List (Nat×AV)} {o:Oper} (h:∀ t∈KH ops o,CB env' t=CB env t):XO ops env' o.guard=XO ops env o.guard:=by
 unfold XO
 split
 ·rfl
 ·rename_i j want hg
  split
  ·rename_i d hd
   rw[h d (by simp only[KH,hg,hd,Option.toList]; simp)]
  ·rfl
theorem FB {listed:Array Bool} {i j:Nat} (hi:i<listed.size):(listed.setIfInBounds i true).getD j false=if i=j then true else listed.getD j false:=by
 by_cases e:i=j
 ·subst e; simp[hi]
 ·simp only[e,if_false]; exact getD_set_ne false e
theorem H8 {ops:Array Oper} (h:(ops.toList.all fun o=>o.op.operands.toList.all Ap)=true) {i:Nat} {o:Oper} (ho:ops[i]?=some o):o.op.operands.toList.all Ap=true:=
 List.all_eq_true.1 h o (by
  have:=List.mem_of_getElem? (l:=ops.toList) (i:=i) (by simpa using ho)
  exact this)
theorem lV {ops:Array Oper} {n:Nat} (hok:EC n ops=true) (hops:(ops.toList.all fun o=>o.op.operands.toList.all Ap)=true) (env:List (Nat×AV)) (st:List Ob) (R:Nat→AV)
  (hR:∀ (i:Nat) (o:Oper),ops[i]?=some o→∃ b,XO ops (BF ops R env (fun _=>true) i) o.guard=some b∧(b=true→BM P ⟨n,BF ops R env (fun _=>true) i,st⟩ o.op (R i))∧(b=false→R i = .undef))
  (Q:Exit→Act→World→Prop) (hQ:∀ a w,Sim w0 St0 ⟨n,BF ops R env (fun _=>true) ops.size,st⟩ a w→Q .normal a w) :
  ∀ (fuel:Nat) (listed:Array Bool) (a:Act) (w:World),listed.size=ops.size→listed.toList.countP (fun b=>!b)≤fuel →
   (∀ (i:Nat) (o:Oper),listed.getD i false=true→ops[i]?=some o→∀ e∈o.after,Region.binds .any e=true→listed.getD e.on false=true) →
   Sim w0 St0 ⟨n,BF ops R env (fun i=>listed.getD i false) ops.size,st⟩ a w→wpAny P .any ops Q fuel listed a w:=by
 have hdst:=Td hok
 have hall:∀ (listed:Array Bool) (a:Act) (w:World),(∀ i,i<ops.size→listed.getD i false=true)→Sim w0 St0 ⟨n,BF ops R env (fun i=>listed.getD i false) ops.size,st⟩ a w→Q .normal a w:=by
  intro listed a w hl hs
  refine hQ a w (hs.congr rfl rfl fun t=>?_)
  have key:∀ m,m≤ops.size→BF ops R env (fun _=>true) m=BF ops R env (fun i=>listed.getD i false) m:=by
   intro m
   induction m with
   | zero=>intro _; rfl
   | succ m ih=>intro hm; simp only[BF,ih (by omega),hl m (by omega)]
  rw[key ops.size (Nat.le_refl _)]
 have hready:∀ (listed:Array Bool),Region.ready .any ops listed = []→listed.size=ops.size→∀ i,i<ops.size→listed.getD i false=true:=by
  intro listed hr hsz i
  induction i using Nat.strongRecOn with
  | _ i ih =>
   intro hi
   cases hc:listed.getD i false with
   | true=>rfl
   | false =>
    exfalso
    have:i∈Region.ready .any ops listed:=by
     rw[mem_ready]
     refine⟨?_,ops[i],by simp[hi],fun e he hb=>?_⟩
     ·have hi':i<listed.size:=by omega
      simp[hi'] at hc ⊢
      exact hc
     ·have:=(EJ hok (i:=i) (o:=ops[i]) (by simp[hi])).1 e he hb
      exact ih e.on this (by omega)
    rw[hr] at this
    cases this
 intro fuel
 induction fuel with
 | zero =>
  intro listed a w hsz hcnt hcl hs
  have hl:∀ i,i<ops.size→listed.getD i false=true:=by
   intro i hi
   have h0:listed.toList.countP (fun b=>!b)=0:=by omega
   rw[List.countP_eq_zero] at h0
   have hi':i<listed.size:=by omega
   have:=h0 listed[i] (by simp)
   simp[hi'] at this ⊢
   exact this
  refine⟨?_,hall listed a w hl hs⟩
  apply List.eq_nil_iff_forall_not_mem.2
  intro i hi
  rw[mem_ready] at hi
  obtain⟨h1,o,ho,_⟩:=hi
  have hi':i<ops.size:=(Array.getElem?_eq_some_iff.1 ho).1
  have h2:=hl i hi'
  have hi2:i<listed.size:=by omega
  simp[hi2] at h1 h2
  rw[h1] at h2; cases h2
 | succ fuel ih =>
  intro listed a w hsz hcnt hcl hs
  refine⟨fun hr=>hall listed a w (hready listed hr hsz) hs,fun i hi=>?_⟩
  rw[mem_ready] at hi
  obtain⟨hun,o,ho,hafter⟩:=hi
  have hi':i<ops.size:=(Array.getElem?_eq_some_iff.1 ho).1
  have hi2:i<listed.size:=by omega
  have hun':listed.getD i false=false:=by
   simp[hi2] at hun ⊢
   exact hun
  have hread:∀ t∈KH ops o,CB (BF ops R env (fun i=>listed.getD i false) ops.size) t=CB (BF ops R env (fun _=>true) i) t:=by
   intro t ht
   by_cases hj:∃ (j:Nat),(ops[j]?).bind (·.dst)=some t
   ·obtain⟨j,hj⟩:=hj
    cases hoj:ops[j]? with
    | none=>simp[hoj] at hj
    | some oj =>
     have hjd:oj.dst=some t:=by simpa [hoj] using hj
     have hjs:j<ops.size:=(Array.getElem?_eq_some_iff.1 hoj).1
     rcases Nat.lt_trichotomy j i with h1 | h1 | h1
     ·have hb:=(JV hok hoj ho hjd ht (by omega)).1 h1
      have hl:=Bo hb hafter
      rw[DF (X:=fun i=>listed.getD i false) hdst hj hl ops.size hjs,DF (X:=fun _=>true) hdst hj rfl i h1]
     ·subst h1
      rw[Ag (X:=fun i=>listed.getD i false) ops.size (fun k _ hk=>by have:=hdst k j t hk hj; subst this; exact hun'),
       Ag (X:=fun _=>true) j (fun k hk hkd=>by have:=hdst k j t hkd hj; omega)]
     ·have hb:=(JV hok hoj ho hjd ht (by omega)).2 h1
      have hl:listed.getD j false=false:=by
       cases hc:listed.getD j false with
       | false=>rfl
       | true =>
        have:=Bo hb (hcl j oj hc hoj)
        rw[this] at hun'; cases hun'
      rw[Ag (X:=fun i=>listed.getD i false) ops.size (fun k _ hk=>by have:=hdst k j t hk hj; subst this; exact hl),
       Ag (X:=fun _=>true) i (fun k hk hkd=>by have:=hdst k j t hkd hj; omega)]
   ·rw[Ag (X:=fun i=>listed.getD i false) ops.size (fun k _ hk=>(hj ⟨k,hk⟩).elim),Ag (X:=fun _=>true) i (fun k _ hk=>(hj ⟨k,hk⟩).elim)]
  obtain⟨b,hb1,hb2,hb3⟩:=hR i o ho
  rw[← QP hread] at hb1
  obtain⟨St,β,hcore⟩:=hs
  have hwant:=XP hcore (o:=o) hb1
  have hnext:∀ (r:AV) (a':Act) (w':World),r=R i→Sim w0 St0 (MS.put ⟨n,BF ops R env (fun i=>listed.getD i false) ops.size,st⟩ o.dst r) a' w'→wpAny P .any ops Q fuel (listed.setIfInBounds i true) a' w':=by
   intro r a' w' hr hsim
   subst hr
   refine ih _ a' w' (by simpa using hsz) ?_ ?_ ?_
   ·have hset:(listed.setIfInBounds i true).toList=listed.toList.set i true:=by simp
    rw[hset,List.countP_set (by simpa using hi2)]
    have hv:listed.toList[i]'(by simpa using hi2)=false:=by simpa [hi2] using hun'
    rw[hv]
    have hpos:0<listed.toList.countP (fun b=>!b):=List.countP_pos_iff.2 ⟨listed.toList[i]'(by simpa using hi2),List.getElem_mem _,by rw[hv]; rfl⟩
    simp only[Bool.not_false,if_true,Bool.not_true,Bool.false_eq_true,if_false]
    omega
   ·intro j oj hj hoj e he hbd
    rw[FB hi2] at hj ⊢
    by_cases e1:i=j
    ·subst e1
     rw[ho] at hoj
     simp only[Option.some.injEq] at hoj
     subst hoj
     have:=hafter e he hbd
     rw[this]; simp
    ·simp only[e1,if_false] at hj
     have:=hcl j oj hj hoj e he hbd
     rw[this]; simp
   ·refine hsim.congr ?_ ?_ fun t=>?_
    ·cases o.dst<;>simp[MS.put]; split<;>rfl
    ·cases o.dst<;>simp[MS.put]; split<;>rfl
    ·have hX:(fun j=>(listed.setIfInBounds i true).getD j false)=fun j=>if i=j then true else listed.getD j false:=funext fun j=>FB hi2
     rw[hX]
     cases hd:o.dst with
     | none =>
      simp only[MS.put]
      by_cases hj:∃ (j:Nat),(ops[j]?).bind (·.dst)=some t
      ·obtain⟨j,hj⟩:=hj
       have hjs:j<ops.size:=by
        cases hoj:ops[j]? with
        | none=>simp[hoj] at hj
        | some oj=>exact(Array.getElem?_eq_some_iff.1 hoj).1
       have hne:i≠j:=fun e=>by subst e; simp[ho,hd] at hj
       cases hl:listed.getD j false with
       | true=>rw[DF (X:=fun j=>if i=j then true else listed.getD j false) hdst hj (by simp only[hne,if_false]; exact hl) ops.size hjs,DF (X:=fun j=>listed.getD j false) hdst hj hl ops.size hjs]
       | false=>rw[Ag (X:=fun j=>if i=j then true else listed.getD j false) ops.size (fun k _ hk=>by have:=hdst k j t hk hj; subst this; simp only[hne,if_false]; exact hl),Ag (X:=fun j=>listed.getD j false) ops.size (fun k _ hk=>by have:=hdst k j t hk hj; subst this; exact hl)]
      ·rw[Ag (X:=fun j=>if i=j then true else listed.getD j false) ops.size (fun k _ hk=>(hj ⟨k,hk⟩).elim),Ag (X:=fun j=>listed.getD j false) ops.size (fun k _ hk=>(hj ⟨k,hk⟩).elim)]
     | some d =>
      have hdn:=(EJ hok ho).2 d hd
      have hid:(ops[i]?).bind (·.dst)=some d:=by simp[ho,hd]
      simp only[MS.put,hdn,if_true,CB]
      by_cases e1:d=t
      ·subst e1
       simp only[if_true]
       rw[DF (X:=fun j=>if i=j then true else listed.getD j false) hdst hid (by simp) ops.size hi']
      ·simp only[e1,if_false]
       by_cases hj:∃ (j:Nat),(ops[j]?).bind (·.dst)=some t
       ·obtain⟨j,hj⟩:=hj
        have hjs:j<ops.size:=by
         cases hoj:ops[j]? with
         | none=>simp[hoj] at hj
         | some oj=>exact(Array.getElem?_eq_some_iff.1 hoj).1
        have hne:i≠j:=fun e=>by subst e; rw[hid] at hj; exact e1 (Option.some.inj hj)
        cases hl:listed.getD j false with
        | true=>rw[DF (X:=fun j=>if i=j then true else listed.getD j false) hdst hj (by simp only[hne,if_false]; exact hl) ops.size hjs,DF (X:=fun j=>listed.getD j false) hdst hj hl ops.size hjs]
        | false=>rw[Ag (X:=fun j=>if i=j then true else listed.getD j false) ops.size (fun k _ hk=>by have:=hdst k j t hk hj; subst this; simp only[hne,if_false]; exact hl),Ag (X:=fun j=>listed.getD j false) ops.size (fun k _ hk=>by have:=hdst k j t hk hj; subst this; exact hl)]
       ·rw[Ag (X:=fun j=>if i=j then true else listed.getD j false) ops.size (fun k _ hk=>(hj ⟨k,hk⟩).elim),Ag (X:=fun j=>listed.getD j false) ops.size (fun k _ hk=>(hj ⟨k,hk⟩).elim)]
  unfold wpOp
  simp only[ho,hwant]
  cases b with
  | true =>
   simp only[if_true]
   left
   have hstep:=KG (P:=P) (s:=⟨n,BF ops R env (fun _=>true) i,st⟩) (s':=⟨n,BF ops R env (fun i=>listed.getD i false) ops.size,st⟩) rfl o.op (fun t ht=>hread t (by
    simp only[KH,List.mem_append]
    left
    rw[List.mem_filterMap]
    exact⟨.tmp t,ht,rfl⟩)) (R i) (hb2 rfl)
   exact Oper.wp_mono (fun a' w' hs=>hnext (R i) a' w' rfl hs) (QO hcore o (H8 hops ho) hstep Q)
  | false =>
   simp only[Bool.false_eq_true,if_false]
   refine hnext .undef _ _ (hb3 rfl).symm ⟨St,β,hcore.put o.dst ?_⟩
   simp only[AVR]
theorem ZN {ops:Array Oper} (hok:EC s.n ops=true) (hops:(ops.toList.all fun o=>o.op.operands.toList.all Ap)=true) (h:Core w0 St0 St β s a w) {K:MS→Prop} (hK:lU P ops K ops.toList s) :
  wpAny P .any ops (fun e a' w'=>e = .normal∧∃ s',K s'∧s'.n=s.n∧Sim w0 St0 s' a' w') ops.size (Array.replicate ops.size false) a { w with drawn:=w.drawn+1 }:=by
 obtain⟨R,_,hKs,hR⟩:=Tf (K:=K) hok rfl ops.toList 0 (fun _=>.un) (fun j=>by simp) (by simp) (by simpa [BF] using hK)
 have hgrow:Core w0 St0 St β s a { w with drawn:=w.drawn+1 }:=h.grow (w':={ w with drawn:=w.drawn+1 }) ⟨rfl,rfl,rfl,Nat.le_refl _,fun _ _=>rfl⟩ (fun _ _ h=>h) (fun _ _ h _=>h) h.stIn
 refine lV (P:=P) (n:=s.n) hok hops s.env s.st R (fun i o ho=>hR i o (Nat.zero_le _) ho) _ (fun a w hs=>⟨rfl,_,hKs,rfl,hs⟩) ops.size (Array.replicate ops.size false) a _ (by simp) ?_ ?_ ?_
 ·have:(Array.replicate ops.size false).toList.countP (fun b=>!b)≤(Array.replicate ops.size false).toList.length:=List.countP_le_length
  simpa using this
 ·intro i o hi
  have:(Array.replicate ops.size false).getD i false=false:=by
   simp[Array.getElem?_replicate]
   split<;>rfl
  rw[this] at hi; cases hi
 ·refine⟨St,β,hgrow.congr rfl rfl fun t=>?_⟩
  rw[Ag ops.size (fun k _ _=>by simp[Array.getElem?_replicate]; split<;>rfl)]
end Go.Vm
