/- A part. -/
import Derived.Test.YtgkmefoghbjfnaaGreatVmUb
set_option linter.unusedSimpArgs false
set_option linter.unusedVariables false
namespace Go.Vm
open Go.RowKit
def oK (P:Program) (y:Code) (Q:Ex→MS→Prop):Ex→MS→Prop:=vS (vp P y) Q
def cndC (P:Program) (x y:Code) (s:MS) (Q:Ex→MS→Prop) (b:Bool):Prop:=cndM (vp P x) (vp P y) s Q b
def vX (P:Program) (x:Code) (Q:Ex→MS→Prop) (s:MS) (K:MS→Prop):Prop:=vT (vp P x) Q s K
section
variable {P:Program} {s:MS} {Q:Ex→MS→Prop} {x y:Code} {K:MS→Prop}
@[go_sem] theorem xP {σ:List Nat} {e1 e2:Nat} {l:List Oper}:EP σ e1 e2 l=VV σ e1 e2 l σ:=rfl
@[go_sem] theorem vY {σ:List Nat} {e1 e2:Nat} {l:List Oper}:VV σ e1 e2 l [] = []:=rfl
@[go_sem] theorem tK {σ:List Nat} {e1 e2 i:Nat} {l:List Oper} {is:List Nat}:VV σ e1 e2 l (i::is)=Zj σ e1 e2 i l[i]? (VV σ e1 e2 l is):=rfl
@[go_sem] theorem rP {σ:List Nat} {e1 e2 i:Nat} {d:Option Nat} {o:Op} {ty:TypeId} {ps:String} {af:Array Edge} {g:Option (Nat×Bool)} {r:List Oper} :
  Zj σ e1 e2 i (some ⟨d,o,ty,ps,af,g⟩) r=⟨d,o,ty,ps,(Xm σ (kE e1 e2 i af.toList)).toArray,tJ σ g⟩::r:=rfl
@[go_sem] theorem vZ {σ:List Nat}:Xm σ [] = []:=rfl
@[go_sem] theorem tN {σ:List Nat} {i:Nat} {g:Ground} {es:List Edge}:Xm σ (⟨i,g⟩::es)=⟨Gs σ i,g⟩::Xm σ es:=rfl
@[go_sem] theorem ve {σ:List Nat}:tJ σ none=none:=rfl
@[go_sem] theorem vg {σ:List Nat} {j:Nat} {b:Bool}:tJ σ (some (j,b))=some (Gs σ j,b):=rfl
@[go_sem] theorem vk {i:Nat}:Gs [] i=0:=rfl
@[go_sem] theorem tV {x i:Nat} {xs:List Nat}:Gs (x::xs) i=if x=i then 0 else Gs xs i+1:=by
 simp only[Gs]
 cases h:Nat.beq x i with
 | true=>rw[ED (Nat.eq_of_beq_eq_true h)]
 | false=>rw[Eh (Nat.ne_of_beq_eq_false h)]
@[go_sem] theorem xQ {e1 e2 i:Nat} {l:List Edge}:kE e1 e2 i l=if i=e2 then⟨e1,.data⟩::l else l:=by
 simp only[kE]
 cases h:Nat.beq i e2 with
 | true=>rw[ED (Nat.eq_of_beq_eq_true h)]
 | false=>rw[Eh (Nat.ne_of_beq_eq_false h)]
@[go_sem] theorem xR:vp P .skip s Q=Q .normal s:=rfl
@[go_sem] theorem yL {id:Nat} {ops:Array Oper}:vp P (.region id ops false) s Q=yG P ops (Q .normal) s:=rfl
@[go_sem] theorem xU {id:Nat} {ops:Array Oper}:vp P (.region id ops true) s Q=DrawK P ops s (Q .normal):=rfl
@[go_sem] theorem yM:vp P (.seq x y) s Q=vp P x s (oK P y Q):=rfl
@[go_sem] theorem xW {c:Operand}:vp P (.cond c x y) s Q=Zi (Cf s c) (cndC P x y s Q):=rfl
@[go_sem] theorem vw {id:Nat}:vp P (.block id x) s Q=vp P x s (gB id Q):=rfl
@[go_sem] theorem xX:vp P (.loop x) s Q=LoopK s (vX P x Q):=rfl
@[go_sem] theorem xY {id:Nat}:vp P (.exit id) s Q=Q (.exit id) s:=rfl
@[go_sem] theorem vz:vp P (.scope x) s Q=vp P x s Q:=rfl
@[go_sem] theorem yN:vp P .ret s Q=Q .ret s:=rfl
@[go_sem] theorem o_:oK P y Q .normal s=vp P y s Q:=rfl
@[go_sem] theorem tX {i:Nat}:oK P y Q (.exit i) s=Q (.exit i) s:=rfl
@[go_sem] theorem v_:oK P y Q .ret s=Q .ret s:=rfl
@[go_sem] theorem tY:cndC P x y s Q true=vp P x s Q:=gG
@[go_sem] theorem rQ:cndC P x y s Q false=vp P y s Q:=Y4
theorem cndC.mk {b:Bool} (h1:b=true→vp P x s Q) (h2:b=false→vp P y s Q):cndC P x y s Q b:=cndM.mk h1 h2
@[go_sem] theorem pF {id:Nat}:gB id Q .normal s=Q .normal s:=rfl
@[go_sem] theorem tZ {id i:Nat}:gB id Q (.exit i) s=if i=id then Q .normal s else Q (.exit i) s:=rfl
@[go_sem] theorem wB {id:Nat}:gB id Q .ret s=Q .ret s:=rfl
@[go_sem] theorem xZ:vX P x Q s K=vp P x s (kQ K Q):=rfl
@[go_sem] theorem pG:kQ K Q .normal s=K s:=rfl
@[go_sem] theorem tq {i:Nat}:kQ K Q (.exit i) s=Q (.exit i) s:=rfl
@[go_sem] theorem wC:kQ K Q .ret s=Q .ret s:=rfl
@[go_sem] theorem xe {ops:Array Oper}:o8 P ops K [] s=K s:=rfl
@[go_sem] theorem wE {ops:Array Oper} {o:Oper} {rest:List Oper}:o8 P ops K (o::rest) s=Ll (VT ops s.env o.guard) (gO P o (o8 P ops K rest) s):=rfl
@[go_sem] theorem xg {ops:Array Oper}:kC P ops K [] s=K s:=rfl
@[go_sem] theorem wF {ops:Array Oper} {o:Oper} {rest:List Oper}:kC P ops K (o::rest) s=Ll (VT ops s.env o.guard) (gD P o (kC P ops K rest) s):=rfl
@[go_sem] theorem xh {d:Option Nat} {v:AV} {st':List Ob}:kG s d K v st'=K (MS.put ⟨s.n,s.env,st'⟩ d v):=rfl
@[go_sem] theorem wG {d:Option Nat} {v:AV}:Xh s d K v=K (s.put d v):=rfl
@[go_sem] theorem xk {d:Option Nat} {st1:List Ob} {rs:List Res}:kH s d K st1 rs=K (MS.put ⟨s.n,s.env,(FO st1 rs).2⟩ d (retA (FO st1 rs).1)):=rfl
@[go_sem] theorem tu {f:FuncId} {d:Option Nat} {args:List AV} {st1:List Ob}:Y3 P f s d K args st1=CallK P f args (kH s d K st1):=rfl
@[go_sem] theorem pI {vars:List ResultVar} {rs:List Res}:oJ P vars rs .normal s=Post P vars rs s:=rfl
theorem EndH.mk {vars:List ResultVar} {rs:List Res} {t:MS} (h:Head s t) (hp:Post P vars rs t):EndH P vars rs .ret s:=⟨t,h,hp⟩
@[go_sem] theorem wH {vars:List ResultVar} {rs:List Res}:oJ P vars rs .ret s=Post P vars rs s:=rfl
theorem CallK.mk {f:FuncId} {args:List AV} {K:List Res→Prop} {B:Prop} (rs:List Res) (h:Ctr P f args rs) (hk:Sz rs→K rs):KI (CallK P f args K) B:=.inl ⟨rs,h,hk⟩
theorem BorK.mk {f:FuncId} {x:Option (List AV)} {K:List Res→Prop} {A B:Prop} {args:List AV} (rs:List Res) (hx:x=some args) (hc:rs.all Mc=true) (h:Ctr P f args rs) (hk:Sz rs→K rs):KI A (KI (BorK P f s x K) B):=.inr (.inl ⟨args,rs,hx,hc,h,hk⟩)
theorem MutK.mk {f:FuncId} {A B C:Prop} {args rest:List AV} {d:Option Nat} {zs cl:List Cl} {M:List Cl→List AV→Prop} (g:Bool) (h:MCtr P f g cl rest M) (hx:args=mkA g zs::rest) (ho:Ac s.st zs cl [] (fun _=>True)) (h1:rest.all fK=true)
  (hg:g=true∨zs.length=1) (hk:∀ cl' rs,M cl' rs→(rs.all fJ=true∧P_ cl cl')∧K (MS.put ⟨s.n,s.env,Ep s.st zs cl'⟩ d (retA rs))):KI A (KI B (KI (MutK P f s args d K) C)):=.inr (.inr (.inl ⟨rest,g,zs,cl,M,hx,hg,ho,h1,h,hk⟩))
theorem PtrK.mk {f:FuncId} {A B C D:Prop} {args rest rest' rs:List AV} {d:Option Nat} {l:Nat} {ob:Ob} {zs cl cl':List Cl} {st1 st2:List Ob} (h:PCtr P f ob.ty cl rest' cl' rs) (hx:args = .lp l 0 0::rest) (hob:BV s.st l=some ob) (hwr:ob.wr=true) (hxs:ob.xs = [zs])
  (hf:gm s.st zs=some (cl,st1)) (hfs:JW st1 rest=some (rest',st2)) (hob2:BV st2 l=some ob) (hk:K (MS.put ⟨s.n,s.env,st2.set l ⟨ob.ty,ob.sz,[cl'],true,true⟩⟩ d (retA rs))):KI A (KI B (KI C (KI (PtrK P f s args d K) D))):=
 .inr (.inr (.inr (.inl ⟨l,rest,rest',ob,zs,cl,cl',st1,st2,rs,hx,hob,hwr,hxs,hf,hfs,hob2,h,hk⟩)))
theorem PtrM.mk {f:FuncId} {A B C D:Prop} {as:MS→List AV} {d:Option Nat} (t:MS) {l:Nat} {rest rest' rs:List AV} {ob:Ob} {cl cl':List Cl} {st2:List Ob} (hh:Head s t) (h:QCtr P f ob.ty cl rest' cl' rs) (hx:as t = .lp l 0 0::rest) (hob:BV t.st l=some ob) (hwr:ob.wr=true) (hxs:ob.xs = [cl]) (hcl:cl.all Xj=true)
  (hfs:JW t.st rest=some (rest',st2)) (hob2:BV st2 l=some ob) (t':MS) (hh':Head (MS.put ⟨t.n,t.env,st2.set l ⟨ob.ty,ob.sz,[cl'],true,true⟩⟩ d (retA rs)) t') (hk:K t'):KI A (KI B (KI C (KI D (PtrM P f s as d K)))):=
 .inr (.inr (.inr (.inr ⟨t,l,rest,rest',ob,cl,cl',st2,rs,hh,hx,hob,hwr,hxs,hcl,hfs,hob2,h,t',hh',hk⟩)))
@[go_sem] theorem xm {x:Option (Nat×Nat)} {ops:Array Oper} {i:Nat} {H:List (Nat×List Ob)} {pd:List PE}:gp P x ops K [] i H pd s=K s:=rfl
@[go_sem] theorem wI {x:Option (Nat×Nat)} {ops:Array Oper} {o:Oper} {rest:List Oper} {i:Nat} {H:List (Nat×List Ob)} {pd:List PE}:gp P x ops K (o::rest) i H pd s=Ll (VT ops s.env o.guard) (gE P x o s H pd i (gp P x ops K rest (i+1))):=rfl
section
variable {x:Option (Nat×Nat)} {o:Oper} {H:List (Nat×List Ob)} {pd:List PE} {i:Nat} {V:List (Nat×List Ob)→List PE→MS→Prop}
@[go_sem] theorem xn:gE P x o s H pd i V true=kN P x o s H pd i V (Py o.op):=F7
@[go_sem] theorem rU:kN P x o s H pd i V false=DrK P s o.op (yH P o s H pd i V):=Gp
@[go_sem] theorem t_:kN P x o s H pd i V true=CondK (PM x i o H) (kM P s o.op (oG P o s H pd i V)) False:=F7
@[go_sem] theorem xq {y:AV} {st':List Ob}:oG P o s H pd i V y st'=(PL P s.n o st' pd∧V ((i+1,st')::H) (Me o pd) (MS.put ⟨s.n,s.env,st'⟩ o.dst y)):=rfl
@[go_sem] theorem yO {r:AV}:yH P o s H pd i V r=(PK P s.n s.env o r H H∧V H (⟨i,o.op,s.env,r⟩::pd) (s.put o.dst r)):=rfl
end
@[go_sem] theorem xu {KK:AV→List Ob→Prop} {st1:List Ob} {rs:List Res}:oD KK st1 rs=KK (retA (FO st1 rs).1) (FO st1 rs).2:=rfl
@[go_sem] theorem uA {f:FuncId} {KK:AV→List Ob→Prop} {args:List AV} {st1:List Ob}:kL P f KK args st1=CallE P f args (oD KK st1):=rfl
theorem CallE.mk {f:FuncId} {args:List AV} {KK:List Res→Prop} {B:Prop} (rs:List Res) (h:Ctr P f args rs) (hk:KK rs):KI (CallE P f args KK) B:=.inl ⟨rs,h,hk⟩
theorem BorE.mk {f:FuncId} {x:Option (List AV)} {KK:List Res→Prop} {A:Prop} {args:List AV} (rs:List Res) (hx:x=some args) (hc:rs.all Mc=true) (h:Ctr P f args rs) (hk:KK rs):KI A (BorE P f x KK):=.inr ⟨args,rs,hx,hc,h,hk⟩
theorem DrK.call {o:Op} {c:Call} {f:FuncId} {K:AV→Prop} (ho:o = .call c) (hc:c.callee = .value (.func f)) {args:List AV} {rs:List Res} (hf:JW s.st (c.args.toList.map (Cf s))=some (args,s.st)) (h:Ctr P f args rs) (hk:K (retA (PD rs))):DrK P s o K:=by
 subst ho
 refine⟨_, ?_,hk⟩
 simp only[BD,hc]
 exact⟨args,rs,.inl hf,h,rfl⟩
end
theorem DrK.op {P:Program} {s:MS} {o:Op} {K:AV→Prop} {r:AV} (h:BD P s o r) (hk:K r):DrK P s o K:=⟨r,h,hk⟩
attribute [go_sem] E_ VT nY j_ ni kJ KJ OX same En Cf O5 BK MS.put jd Rq JV XW Gm Md MW Yv Yt jv Yw vO List.any_cons List.any_nil Tf Ed N7 cellsA BV Il o6 Le oz XR gm rF JW Px Jf AY FD
@[go_sem] theorem rV {n:Nat}:Region.binds .any ⟨n,.data⟩=true:=rfl
@[go_sem] theorem pJ {n:Nat}:Region.binds .any ⟨n,.chain⟩=true:=rfl
@[go_sem] theorem pK {n:Nat}:Region.binds .any ⟨n,.guard⟩=true:=rfl
@[go_sem] theorem pM {n:Nat}:Region.binds .any ⟨n,.phase⟩=true:=rfl
@[go_sem] theorem wJ {b:Bool}:CondK b True True=True:=by cases b<;>simp[CondK]
@[go_sem] theorem pO {i:Nat} {o:Oper} {H:List (Nat×List Ob)}:PM none i o H=chainB o H:=rfl
@[go_sem] theorem pR {i j p:Nat} {o:Oper} {H:List (Nat×List Ob)}:PM (some (j,p)) i o H=if i=j then VX p H else chainB o H:=rfl
attribute [go_sem] Au PI PK PL Me chainB VX Py kM BD List.any_toArray List.any_cons List.any_nil tC XQ F7 Gp ag gY
attribute [go_sem] ny Yy Yz Y0 Y1
attribute [go_sem] VR FO PD retA KO Post KP I_ Ac Dv FM Zg Ff unpin VN fM nP Lh Ep FM O7 DJ FC mr qw qx xN
attribute [go_sem] qm sZ bP fA bQ Vf ai mV List.getElem?_nil ou List.drop_succ_cons bf bG U9 lF List.set_cons_zero List.set_cons_succ List.modify_cons List.toList_toArray bU List.drop_nil List.take_nil
attribute [go_sem] Yl lG aQ gY lH ZX eq_self bC aK decide_true decide_false aN ne_eq not_false_eq_true not_true_eq_false Int.toNat_natCast
attribute [go_sem] bJ bD aU aC aH bF TZ XQ Bool.or_true tC
@[go_sem] theorem xw {x:Value}:Fh (.c (.v x))=true:=rfl
@[go_sem] theorem wK {xs:List (List Cl)}:Fh (.c (.sl xs))=true:=rfl
@[go_sem] theorem uB {l:Nat}:Fh (.c (.ref l))=true:=rfl
@[go_sem] theorem uC:Fh (.agg [])=true:=rfl
@[go_sem] theorem wL {x:Value} {r:List Cl}:Fh (.agg (.v x::r))=Fh (.agg r):=rfl
@[go_sem] theorem uD {xs:List (List Cl)} {r:List Cl}:Fh (.agg (.sl xs::r))=Fh (.agg r):=rfl
@[go_sem] theorem rW {l:Nat} {r:List Cl}:Fh (.agg (.ref l::r))=Fh (.agg r):=rfl
@[go_sem] theorem pU {n:Nat}:HY n []=true:=rfl
@[go_sem] theorem oM {n:Nat} {r:List Cl} {ys:List (List Cl)}:HY n (r::ys)=(rowOk n r&&HY n ys):=rfl
@[go_sem] theorem wM {n:Nat} {r:List Cl}:rowOk n r=(r.length==n&&r.all fun c=>!Dj c):=rfl
@[go_sem] theorem yP {x:Value}:Dj (.v x)=false:=rfl
@[go_sem] theorem xx {x:List (List Cl)}:Dj (.sl x)=false:=rfl
@[go_sem] theorem wO {l:Nat}:Dj (.ref l)=false:=rfl
@[go_sem] theorem wP {ty sz:Nat} {xs:List (List Cl)}:Fh (.c (.ow ty sz xs))=false:=rfl
@[go_sem] theorem yQ {cl:List Cl}:mkA true cl = .agg cl:=rfl
@[go_sem] theorem yR {c:Cl} {r:List Cl}:mkA false (c::r) = .c c:=rfl
@[go_sem] theorem pV {P:Program} {vars:List ResultVar} {b:Nat} {ty:TypeId} {cl':List Cl} {rs:List AV} {s:MS}:rO P vars b ty cl' rs .normal s=Zq P vars b ty cl' rs s:=rfl
@[go_sem] theorem wQ {P:Program} {vars:List ResultVar} {b:Nat} {ty:TypeId} {cl':List Cl} {rs:List AV} {s:MS}:rO P vars b ty cl' rs .ret s=Zq P vars b ty cl' rs s:=rfl
@[go_sem] theorem pW {P:Program} {vars:List ResultVar} {g:Bool} {us:List Value} {M:List Cl→List AV→Prop} {s:MS}:rM P vars g us M .normal s=Zp P vars g us M s:=rfl
@[go_sem] theorem wR {P:Program} {vars:List ResultVar} {g:Bool} {us:List Value} {M:List Cl→List AV→Prop} {s:MS}:rM P vars g us M .ret s=Zp P vars g us M s:=rfl
@[go_sem] theorem yS:(true==true)=true:=rfl
@[go_sem] theorem yT:(true==false)=false:=rfl
@[go_sem] theorem yU:(false==true)=false:=rfl
@[go_sem] theorem yV:(false==false)=true:=rfl
theorem kY (b:Bool):(b==true)=b:=by cases b<;>rfl
theorem gQ (b:Bool):(b==false) = !b:=by cases b<;>rfl
attribute [go_sem] kY gQ
@[go_sem] theorem wS (k:IntKind) (n:Nat):VB (.c (.v (.int k (n:Int))))=some n:=by simp[VB]
@[go_sem] theorem uF (k:IntKind):VB (.c (.v (.int k 0)))=some 0:=by simp[VB]
theorem wrap_i64 {n:Int} (h : -9223372036854775808≤n) (h2:n≤9223372036854775807):IntKind.i64.wrap n=n:=
 LC (by simp[Lit.wf,IntKind.min,IntKind.max,IntKind.signed,IntKind.bits]; omega)
theorem AA {α β:Type} (f:α→β) {l:List α} {k:Nat} (h:k<l.length):(l.map f)[k]?=some (f l[k]):=by simp[h]
theorem Y7 {c:Cl} (h:AO c=true):er c=c:=by cases c<;>simp_all [AO,er]
theorem KQ:∀ {cs:List Cl},BI cs=true→Gn cs=cs
 | [],_=>rfl
 | c::cs,h=>by
  simp only[BI,aS,aI] at h
  rw[Gn,Y7 h.1,KQ (cs:=cs) h.2]
theorem Eg:∀ {xs:List (List Cl)},E5 xs=true→Jg xs=xs
 | [],_=>rfl
 | x::xs,h=>by
  simp only[E5,aS,aI] at h
  rw[Jg,KQ h.1,Eg (xs:=xs) h.2]
theorem CO {xs:List (List Cl)} (h:E5 xs=true):IK xs=true:=
 aA.2 fun x hx=>aA.2 fun c hc=>by
  have:=aA.1 (aA.1 h x hx) c hc
  cases c<;>simp_all [AO,IJ]
theorem Ie {α:Type} {f:α→List Cl} {l:List α} (h:∀ x,(f x).all IJ=true):IK (l.map f)=true:=by
 unfold IK
 rw[List.all_map]
 exact aA.2 fun x _=>h x
theorem Ctr.val {P:Program} {f:FuncId} {args:List AV} {ty sz:Nat} {xs:List (List Cl)} {wr:Bool} (h:Ctr P f args [.own ty sz xs wr]) (hp:E5 xs=true):Ctr P f args [.val (.c (.sl xs))]:=by
 have:=h.frz
 simp only[U9,lF,S9,Eg hp] at this
 exact this
theorem Ctr.valO {P:Program} {f:FuncId} {args:List AV} {ty sz:Nat} {xs ys:List (List Cl)} {wr:Bool} (h:Ctr P f args [.own ty sz xs wr]) (he:Jg xs=ys):Ctr P f args [.val (.c (.sl ys))]:=by
 subst he
 exact h.frz
theorem Ctr.aggVal {P:Program} {f:FuncId} {args:List AV} {cl ys:List Cl} (h:Ctr P f args [.agg cl]) (he:Gn cl=ys):Ctr P f args [.val (.agg ys)]:=by
 subst he
 exact h.frz
theorem JB {α:Type} {f g:α→List Cl} (h:∀ x,Gn (f x)=g x) (l:List α):Jg (l.map f)=l.map g:=by
 rw[VK]
 exact qj fun x _=>h x
theorem Xw {xs:List (List Cl)} {sz:Nat} (hl:∀ x∈xs,x.length=sz):∀ {k:Nat} {c:Cl},xs.flatten[k]?=some c→∃ (i j:Nat) (x:List Cl),xs[i]?=some x∧x[j]?=some c∧k=i*sz+j∧j<sz:=by
 induction xs with
 | nil=>intro k c h; simp at h
 | cons x xs ih =>
  intro k c h
  have hx:x.length=sz:=hl x (by simp)
  simp only[bM] at h
  rcases aX k x.length with h' | h'
  ·rw[ah h'] at h
   exact⟨0,k,x,by simp,h,by omega,by omega⟩
  ·rw[ak h'] at h
   obtain⟨i,j,y,q1,q2,q3,q4⟩:=ih (fun y hy=>hl y (by simp[hy])) h
   exact⟨i+1,j,y,by simpa using q1,q2,by rw[Pj]; omega,q4⟩
theorem rX {i i' j j' sz:Nat} (hj:j<sz) (hj':j'<sz) (h:i*sz+j=i'*sz+j'):i=i'∧j=j':=by
 have h1:(i*sz+j)/sz=i:=by rw[Nat.mul_comm,Nat.mul_add_div (by omega),Nat.div_eq_of_lt hj]; rfl
 have h2:(i'*sz+j')/sz=i':=by rw[Nat.mul_comm,Nat.mul_add_div (by omega),Nat.div_eq_of_lt hj']; rfl
 have:i=i':=by rw[← h1,h,h2]
 subst this
 exact⟨rfl,by omega⟩
section avgen
variable {w:World} {St:Nat→Nat→Prop} {st st':List Ob} {β β':Nat→Option Nat}
mutual
theorem Vb (N:Nat) (hC:∀ (c:Cl) (u:Value),Dk N c=true→RdC w St st β c u→RdC w St st' β' c u) (hL:∀ (l i off:Nat) (u:Value),l<N→AVR w St st β (.lp l i off) u→AVR w St st' β' (.lp l i off) u) :
  ∀ (x:AV) (u:Value),Ef N x=true→AVR w St st β x u→AVR w St st' β' x u
 | .c x,u,hc,h=>by simp only[AVR] at h ⊢; exact hC x u (by simpa [Ef] using hc) h
 | .agg xs,u,hc,h=>by
  simp only[AVR] at h ⊢
  simp only[Ef] at hc
  obtain⟨us,h1,h2,h3⟩:=h
  refine⟨us,h1,h2,fun k c hk=>?_⟩
  obtain⟨y,hy,hr⟩:=h3 k c hk
  exact⟨y,hy,hC c y (aA.1 hc c (aT hk)) hr⟩
 | .lp l i off,u,hc,h=>hL l i off u (by simpa [Ef] using hc) h
 | .ip xs,u,_,h=>by simp only[AVR] at h ⊢; exact h
 | .tup xs,u,hc,h=>by
  simp only[AVR] at h ⊢
  obtain⟨us,h1,h2⟩:=h
  exact⟨us,h1,Xx N hC hL xs us (by simpa [Ef] using hc) h2⟩
 | .undef,u,_,h=>by simp only[AVR] at h ⊢; exact h
 | .un,u,_,h=>by simp only[AVR]
 | .pin x u0,u,hc,h=>by
  simp only[AVR] at h ⊢
  exact⟨h.1,Vb N hC hL x u (by simpa [Ef] using hc) h.2⟩
 | .clo f xs,u,_,h=>by simp only[AVR] at h ⊢; exact h
theorem Xx (N:Nat) (hC:∀ (c:Cl) (u:Value),Dk N c=true→RdC w St st β c u→RdC w St st' β' c u) (hL:∀ (l i off:Nat) (u:Value),l<N→AVR w St st β (.lp l i off) u→AVR w St st' β' (.lp l i off) u) :
  ∀ (xs:List AV) (us:List Value),LH N xs=true→AVRs w St st β xs us→AVRs w St st' β' xs us
 | [],us,_,h=>by simp only[AVRs] at h ⊢; exact h
 | x::xs,us,hc,h=>by
  simp only[AVRs] at h ⊢
  simp only[LH,aI] at hc
  obtain⟨y,ys,h1,h2,h3⟩:=h
  exact⟨y,ys,h1,Vb N hC hL x y hc.1 h2,Xx N hC hL xs ys hc.2 h3⟩
end
end avgen
section absorb
variable {w0:Bs} {St0 St:Nat→Nat→Prop} {β:Nat→Option Nat} {s:MS} {a:Act} {w:World}
def Am (N l0 i:Nat) (R:List (List Cl)) (row':List Cl) (ob:Ob) (st:List Ob):List Ob:=(st.take N).set l0 ⟨ob.ty,ob.sz,R.set i row',ob.wr,ob.live⟩
theorem Core.absTrim (h:Core w0 St0 St β s a w) {N l0 i:Nat} {keys:List Nat} {ob:Ob} {R:List (List Cl)} {row row':List Cl} (hl0:l0<N) (hob:BV s.st l0=some ob) (hxs:ob.xs=R.set i row) (hi:i<R.length) (hwr:ob.wr=true)
  (ho:Ac s.st row row' [l0] fun used=>∀ l∈used,l=l0∨N≤l) (henv:(keys.all fun k=>Ef N (BK s.env k))=true) (hst:(Am N l0 i R row' ob s.st).all (BQ N)=true) :
  Core w0 St0 St β ⟨s.n,keys.map fun k=>(k,BK s.env k),Am N l0 i R row' ob s.st⟩ a w:=by
 obtain⟨hl,hlive⟩:=Ag hob
 obtain⟨φ,hφ⟩:=h.own
 have hlN:l0<(s.st.take N).length:=by
  have:=(az.1 hl).1
  rw[ZV]; omega
 have hget:∀ (l:Nat) (o2:Ob),(Am N l0 i R row' ob s.st)[l]?=some o2→l<N∧((l=l0∧o2=⟨ob.ty,ob.sz,R.set i row',ob.wr,ob.live⟩)∨(l≠l0∧s.st[l]?=some o2)):=by
  intro l o2 h2
  unfold Am at h2
  rw[bK] at h2
  by_cases e:l0=l
  ·subst e
   simp only[hlN,bC,ag] at h2
   exact⟨hl0,.inl ⟨rfl,h2.symm⟩⟩
  ·simp only[e,aK] at h2
   rw[aV] at h2
   split at h2
   ·rename_i hlt; exact⟨hlt,.inr ⟨fun e2=>e e2.symm,h2⟩⟩
   ·cases h2
 have hmk:∀ (l:Nat) (o2:Ob),l<N→s.st[l]?=some o2→∃ o3,(Am N l0 i R row' ob s.st)[l]?=some o3∧o3.live=o2.live∧o3.sz=o2.sz∧o3.ty=o2.ty∧o3.xs.length=o2.xs.length∧(o2.xs = []→o3.xs = []):=by
  intro l o2 hlt h2
  unfold Am
  rw[bK]
  by_cases e:l0=l
  ·subst e
   rw[hl] at h2
   cases h2
   refine⟨⟨ob.ty,ob.sz,R.set i row',ob.wr,ob.live⟩,by simp only[hlN,bC],rfl,rfl,rfl,by simp[hxs],fun he=>?_⟩
   rw[hxs] at he
   have:R.length=0:=by simpa using congrArg List.length he
   omega
  ·exact⟨o2,by simp only[e,aK]; rw[aV,ED hlt]; exact h2,rfl,rfl,rfl,rfl,fun h=>h⟩
 have hr:∀ (l:Nat) (u:Value),l<N→Aq w s.st β l u→Aq w (Am N l0 i R row' ob s.st) β l u:=by
  intro l u hlt hu
  unfold Aq at hu ⊢
  cases hq:s.st[l]? with
  | none=>simp[hq] at hu
  | some o2 =>
   obtain⟨o3,p1,p2,p3,p4,p5,p6⟩:=hmk l o2 hlt hq
   simp only[hq] at hu
   simp only[p1]
   refine⟨hu.1,fun hlv=>?_⟩
   have h2:=hu.2 (by rw[← p2]; exact hlv)
   cases hβ:β l with
   | none=>simp only[hβ] at h2 ⊢; exact⟨h2.1,p6 h2.2⟩
   | some b=>simp only[hβ] at h2 ⊢; simpa only[p3,p4,p5] using h2
 have hC:∀ (c:Cl) (u:Value),Dk N c=true→RdC w St s.st β c u→RdC w St (Am N l0 i R row' ob s.st) β c u:=by
  intro c u hc hu
  cases c with
  | ref l=>exact hr l u (by simpa [Dk] using hc) hu
  | v x=>exact hu
  | sl x=>exact hu
  | ow ty sz x=>simp[RdC,RdD] at hu
 have hBB:∀ (c:Cl) (u:Value),Dk N c=true→RdB w St s.st β c u→RdB w St (Am N l0 i R row' ob s.st) β c u:=by
  intro c u hc hu
  cases c with
  | ow ty sz x=>exact hu
  | v x=>exact hC (.v x) u hc hu
  | sl x=>exact hC (.sl x) u hc hu
  | ref l=>exact hC (.ref l) u hc hu
 have hA:=Vb (w:=w) (St:=St) (st:=s.st) (st':=Am N l0 i R row' ob s.st) (β:=β) (β':=β) N hC (fun l i off u hlt hu=>by
  simp only[AVR] at hu ⊢
  cases hq:s.st[l]? with
  | none=>simp[hq] at hu
  | some o2 =>
   obtain⟨o3,p1,p2,p3,_⟩:=hmk l o2 hlt hq
   simp only[hq] at hu
   simp only[p1,p2,p3]
   exact hu)
 have hnr:∀ (l:Nat) (o2:Ob),(Am N l0 i R row' ob s.st)[l]?=some o2→∀ (k:Nat) (c:Cl),o2.xs.flatten[k]?=some c→Dk N c=true:=by
  intro l o2 h2 k c hk
  have hno:=aA.1 hst o2 (aT h2)
  obtain⟨x,hx,hcx⟩:=ql.1 (aT hk)
  simp only[BQ,jW] at hno
  rcases hno with hno | hno
  ·have:=aA.1 (aA.1 hno x hx) c hcx
   cases c<;>simp_all [AO,Dk]
  ·exact aA.1 (aA.1 hno x hx) c hcx
 have hrow:(R.set i row)[i]?=some row:=by rw[bK]; simp[hi]
 have hrow':(R.set i row')[i]?=some row':=by rw[bK]; simp[hi]
 have hβcases:∀ b,β l0=some b→∃ (cs:Array Value),w.heap[b]?=some (.cells cs ob.ty (0,0))∧row.length=ob.sz∧row'.length=ob.sz∧(∀ x∈R.set i row',x.length=ob.sz) ∧
   ∃ (used:List Nat) (Φ:Nat→Nat→Prop),(∀ l∈used,l=l0∨N≤l)∧(∀ (j:Nat) (c:Cl),row'[j]?=some c→∃ y,cs[i*ob.sz+j]?=some y∧RdO w St c y (Φ j))∧(∀ k x,Φ k x→∃ l,l≠l0∧l∈used∧Fp s.st β φ l x∧∀ o2,s.st[l]?=some o2→o2.wr=true) ∧
    (∀ k k' x,Φ k x→Φ k' x→k=k')∧∀ (k:Nat) (c:Cl),(R.set i row').flatten[k]?=some c→(∃ j,j<ob.sz∧k=i*ob.sz+j∧row'[j]?=some c)∨((∀ j,j<ob.sz→k≠i*ob.sz+j)∧ob.xs.flatten[k]?=some c):=by
  intro b hb
  obtain⟨_,_,cs,g1,g2,g3⟩:=h.obs l0 ob b hl hlive hb
  have hrl:row.length=ob.sz:=g2 row (by rw[hxs]; exact aT hrow)
  have hcr:∀ (j:Nat) (c:Cl),row[j]?=some c→∃ y,cs[i*ob.sz+j]?=some y∧RdB w St s.st β c y:=fun j c hj=>g3 _ c (Dz g2 i j row c (by rw[hxs]; exact hrow) hj)
  have hvs:∃ vs:List Value,vs.length=row.length∧∀ (j:Nat),j<row.length→vs[j]?=cs[i*ob.sz+j]?:=by
   refine⟨(List.range row.length).map fun j=>(cs[i*ob.sz+j]?).getD Go.undef,by simp,fun j hj=>?_⟩
   obtain⟨y,hy,_⟩:=hcr j _ (aW hj)
   simp[hj,hy]
  obtain⟨vs,hv1,hv2⟩:=hvs
  have hnow:∀ (j:Nat) (c:Cl),row[j]?=some c→Dj c=false:=by
   have gen:∀ (xs ys:List Cl) (us:List Nat) (K:List Nat→Prop),Ac s.st xs ys us K→∀ (j:Nat) (c:Cl),xs[j]?=some c→Dj c=false:=by
    intro xs
    induction xs with
    | nil=>intro ys us K _ j c hj; simp at hj
    | cons x xs ih =>
     intro ys us K ho j c hj
     cases ys with
     | nil=>simp[Ac] at ho
     | cons y ys =>
      have pl:x=y∧AO y=true∧Ac s.st xs ys us K→Dj c=false:=by
       rintro⟨rfl,hp,hrest⟩
       cases j with
       | zero=>simp only[ai,ag] at hj; subst hj; exact Ec hp
       | succ j=>exact ih ys us K hrest j c (by simpa using hj)
      cases y with
      | v z=>exact pl (by simpa only[Ac] using ho)
      | sl z=>exact pl (by simpa only[Ac] using ho)
      | ref z=>exact pl (by simpa only[Ac] using ho)
      | ow ty sz zs =>
       simp only[Ac] at ho
       split at ho
       ·rename_i l
        split at ho
        ·cases j with
         | zero=>simp only[ai,ag] at hj; subst hj; rfl
         | succ j=>exact ih ys _ K ho.2.2.2.2.2.2 j c (by simpa using hj)
        ·exact ho.elim
       ·cases j with
        | zero=>simp only[ai,ag] at hj; subst hj; rfl
        | succ j=>exact ih ys us K ho.2 j c (by simpa using hj)
       ·exact ho.elim
   exact gen row row' [l0] _ ho
  obtain⟨used,Φ,r1,r2,r3,r4,r5,r6⟩:=Vd h hφ row row' vs [l0] _ hv1 (fun j c hj=>by
   obtain⟨y,hy,hr⟩:=hcr j c hj
   exact⟨y,by rw[hv2 j (az.1 hj).1]; exact hy,hr.toC (hnow j c hj)⟩) ho
  have hset:∀ x∈R.set i row',x.length=ob.sz:=fun x hx=>by
   rcases xJ hx with h' | h'
   ·obtain⟨m,hm,rfl⟩:=vI.1 h'
    by_cases e:m=i
    ·subst e
     have:(R.set m row')[m]?=some row':=hrow'
     obtain⟨m2,hm2,he2⟩:=vI.1 hx
     by_cases e2:m2=m
     ·subst e2
      rw[List.getElem_set] at he2
      simp at he2
      rw[← he2,r3,hrl]
     ·rw[List.getElem_set] at he2
      have e3:¬ m=m2:=fun h=>e2 h.symm
      simp only[e3,aK] at he2
      rw[← he2]
      refine g2 _ ?_
      rw[hxs]
      refine vI.2 ⟨m2,by simpa using hm2, ?_⟩
      rw[List.getElem_set]
      simp[e3]
    ·refine g2 _ ?_
     rw[hxs]
     refine vI.2 ⟨m,by simpa using hm, ?_⟩
     rw[List.getElem_set]
     have e3:¬ i=m:=fun h=>e h.symm
     simp[e3]
   ·rw[h',r3,hrl]
  refine⟨cs,g1,hrl,by rw[r3,hrl],hset,used,Φ,r1,fun j c hj=>?_,fun k x hx=>?_,r6,fun k c hk=>?_⟩
  ·obtain⟨y,hy,hr⟩:=r4 j c hj
   have hjl:j<row.length:=by rw[← r3]; exact(az.1 hj).1
   exact⟨y,by rw[← hv2 j hjl]; exact hy,hr⟩
  ·obtain⟨l,q1,q2,q3,q4⟩:=r5 k x hx
   exact⟨l,fun e=>q1 (by simp[e]),q2,q3,q4⟩
  ·obtain⟨i',j,x,q1,q2,q3,q4⟩:=Xw hset hk
   by_cases e:i'=i
   ·subst e
    rw[hrow'] at q1
    cases q1
    exact .inl ⟨j,q4,q3,q2⟩
   ·refine .inr ⟨fun j' hj' e2=>e (rX q4 hj' (q3▸e2)).1, ?_⟩
    subst q3
    refine Dz g2 i' j x c ?_ q2
    rw[hxs,bK]
    rw[bK] at q1
    have e3:¬ i=i':=fun h=>e h.symm
    simp only[e3,aK] at q1 ⊢
    exact q1
 exact {
  defers:=h.defers
  size:=h.size
  env:=fun k=>by
   simp only[Xp]
   split
   ·rename_i hk; exact hA _ _ (aA.1 henv k hk) (h.env k)
   ·simp only[AVR]
  below:=h.below,st0:=h.st0,stOld:=h.stOld,stIn:=h.stIn
  obs:=fun l o2 b h2 hlv hβ=>by
   obtain⟨hlt,⟨rfl,rfl⟩ | ⟨hne,h3⟩⟩:=hget l o2 h2
   ·obtain⟨q1,q2,_⟩:=h.obs l ob b hl hlive hβ
    obtain⟨cs,g1,g2,g3,g4,used,Φ,r1,r2,r3,r4,r5⟩:=hβcases b hβ
    refine⟨q1,q2,cs,g1,g4,fun k c hk=>?_⟩
    rcases r5 k c hk with ⟨j,hj,rfl,hc⟩ | ⟨_,hc⟩
    ·obtain⟨y,hy,hr⟩:=r2 j c hc
     exact⟨y,hy,hr.toB⟩
    ·obtain⟨_,_,cs',p1,p2,p3⟩:=h.obs l ob b hl hlive hβ
     rw[g1] at p1
     cases p1
     obtain⟨u,hu,hr⟩:=p3 k c hc
     exact⟨u,hu,hBB c u (hnr l _ h2 k c hk) hr⟩
   ·obtain⟨q1,q2,cs,g1,g2,g3⟩:=h.obs l o2 b h3 hlv hβ
    refine⟨q1,q2,cs,g1,g2,fun k c hk=>?_⟩
    obtain⟨u,hu,hr⟩:=g3 k c hk
    exact⟨u,hu,hBB c u (hnr l o2 h2 k c hk) hr⟩
  nil:=fun l o2 h2 hlv hβ=>by
   obtain⟨hlt,⟨rfl,rfl⟩ | ⟨hne,h3⟩⟩:=hget l o2 h2
   ·have:=h.nil l ob hl hlive hβ
    rw[hxs] at this
    have:R.length=0:=by simpa using congrArg List.length this
    omega
   ·exact h.nil l o2 h3 hlv hβ
  inj:=fun l l' o1 o2 b h1 h2 h3 h4 h5 h6=>by
   have key:∀ (l:Nat) (o1:Ob),(Am N l0 i R row' ob s.st)[l]?=some o1→o1.live=true→∃ o,s.st[l]?=some o∧o.live=true:=by
    intro l o1 h1 h3
    obtain⟨_,⟨rfl,rfl⟩ | ⟨_,q⟩⟩:=hget l o1 h1
    ·exact⟨ob,hl,hlive⟩
    ·exact⟨o1,q,h3⟩
   obtain⟨p1,q1,r1⟩:=key l o1 h1 h3
   obtain⟨p2,q2,r2⟩:=key l' o2 h2 h4
   exact h.inj l l' p1 p2 b q1 q2 r1 r2 h5 h6
  sep:=fun l o2 b o h2 hlv hβ hbo=>by
   obtain⟨hlt,⟨rfl,rfl⟩ | ⟨hne,h3⟩⟩:=hget l o2 h2
   ·have:=h.sep l ob b o hl hlive hβ hbo
    rw[hwr] at this
    cases this.1
   ·exact h.sep l o2 b o h3 hlv hβ hbo
  own:=by
   cases hβ0:β l0 with
   | none =>
    refine h.own.move id (fun x hx=>⟨⟨hx.1,hx.2.1,hx.2.2.1,hx.2.2.2.1,fun l o2 h2 hlv=>?_⟩,rfl⟩) (fun _ _ h=>h) (fun _ _ _=>rfl) (fun l o2 b k c h2 hlv hβ hk hc=>?_) (fun _ _ _ _ _ _ _ _ e=>e)
    ·obtain⟨_,⟨rfl,rfl⟩ | ⟨_,q⟩⟩:=hget l o2 h2
     ·rw[hβ0]; simp
     ·exact hx.2.2.2.2 l o2 q hlv
    ·obtain⟨_,⟨rfl,rfl⟩ | ⟨_,q⟩⟩:=hget l o2 h2
     ·rw[hβ0] at hβ; cases hβ
     ·exact⟨o2,b,q,hlv,hβ,hk,rfl⟩
   | some b0 =>
    obtain⟨cs,g1,g2,g3,g4,used,Φ,r1,r2,r3,r4,r5⟩:=hβcases b0 hβ0
    have hΦN:∀ k x,Φ k x→∃ l,N≤l∧Fp s.st β φ l x∧∀ o2,s.st[l]?=some o2→o2.wr=true:=fun k x hx=>by
     obtain⟨l,q1,q2,q3,q4⟩:=r3 k x hx
     rcases r1 l q2 with e | e
     ·exact absurd e q1
     ·exact⟨l,e,q3,q4⟩
    refine⟨fun l k x=>(l=l0∧∃ j,j<ob.sz∧k=i*ob.sz+j∧Φ j x)∨(l<N∧(l=l0→∀ j,j<ob.sz→k≠i*ob.sz+j)∧φ l k x), ?_, ?_, ?_⟩
    ·intro l o2 b k c h2 hlv hβ hk hc
     obtain⟨hlt,⟨rfl,rfl⟩ | ⟨hne,h3⟩⟩:=hget l o2 h2
     ·rw[hβ0] at hβ
      cases hβ
      rcases r5 k c hk with ⟨j,hj,rfl,hcj⟩ | ⟨hnj,hck⟩
      ·obtain⟨y,hy,hr⟩:=r2 j c hcj
       exact⟨y,by simp[World.cell?,g1,hy],RdO.mono (fun _ _ h=>h) (fun _ _ _=>rfl) c y _ _ (fun x hx=>.inl ⟨rfl,j,hj,rfl,hx⟩) (fun _ _=>rfl) hr⟩
      ·obtain⟨u,hu,hr⟩:=hφ.1 l ob b0 k c hl hlive hβ0 hck hc
       exact⟨u,hu,RdO.mono (fun _ _ h=>h) (fun _ _ _=>rfl) c u _ _ (fun x hx=>.inr ⟨hlt,fun _=>hnj,hx⟩) (fun _ _=>rfl) hr⟩
     ·obtain⟨u,hu,hr⟩:=hφ.1 l o2 b k c h3 hlv hβ hk hc
      exact⟨u,hu,RdO.mono (fun _ _ h=>h) (fun _ _ _=>rfl) c u _ _ (fun x hx=>.inr ⟨hlt,fun e=>absurd e hne,hx⟩) (fun _ _=>rfl) hr⟩
    ·rintro l k x (⟨rfl,j,hj,rfl,hx⟩ | ⟨hlt,hnj,hx⟩)
     ·obtain⟨l2,q1,q2,q3⟩:=hΦN j x hx
      obtain⟨t1,t2,t3⟩:=OA h hφ q2 q3
      obtain⟨o3,p1,p2,_⟩:=hmk l ob hl0 hl
      refine⟨⟨o3,b0,p1,by rw[p2]; exact hlive,hβ0⟩,t1,fun h=>h,t2,t3,fun l' o2 h2 hlv hb=>?_⟩
      obtain⟨hlt',hcase⟩:=hget l' o2 h2
      have:Fp s.st β φ l' x:=by
       rcases hcase with ⟨rfl,rfl⟩ | ⟨_,q⟩
       ·exact⟨ob,hl,hlive,.inl hb⟩
       ·exact⟨o2,q,hlv,.inl hb⟩
      have:=Eo h hφ q2 this
      omega
     ·obtain⟨⟨o2,b,p1,p2,p3⟩,q1,q2,q3,q4,q5⟩:=hφ.2.1 l k x hx
      obtain⟨o3,s1,s2,_⟩:=hmk l o2 hlt p1
      refine⟨⟨o3,b,s1,by rw[s2]; exact p2,p3⟩,q1,q2,q3,q4,fun l' o4 h4 hlv=>?_⟩
      obtain⟨_,⟨rfl,rfl⟩ | ⟨_,q⟩⟩:=hget l' o4 h4
      ·exact q5 l' ob hl hlive
      ·exact q5 l' o4 q hlv
    ·rintro l l' k k' x (⟨rfl,j,hj,rfl,hx⟩ | ⟨hlt,hnj,hx⟩) (⟨rfl,j',hj',rfl,hx'⟩ | ⟨hlt',hnj',hx'⟩)
     ·rw[r4 j j' x hx hx']; exact⟨rfl,rfl⟩
     ·obtain⟨l2,q1,q2,_⟩:=hΦN j x hx
      obtain⟨⟨o2,b,p1,p2,p3⟩,_⟩:=hφ.2.1 l' k' x hx'
      have:=Eo h hφ q2 ⟨o2,p1,p2,.inr ⟨k',hx'⟩⟩
      omega
     ·obtain⟨l2,q1,q2,_⟩:=hΦN j' x hx'
      obtain⟨⟨o2,b,p1,p2,p3⟩,_⟩:=hφ.2.1 l k x hx
      have:=Eo h hφ q2 ⟨o2,p1,p2,.inr ⟨k,hx⟩⟩
      omega
     ·exact hφ.2.2 l l' k k' x hx hx' }
end absorb
def gU (N l0:Nat) (keys:List Nat) (s t:MS):Prop:=∃ (i:Nat) (R:List (List Cl)) (row row':List Cl) (ob:Ob),(l0<N∧BV s.st l0=some ob∧ob.xs=R.set i row∧i<R.length∧ob.wr=true)∧Ac s.st row row' [l0] (fun used=>∀ l∈used,l=l0∨N≤l) ∧
 ((keys.all fun k=>Ef N (BK s.env k))=true∧(Am N l0 i R row' ob s.st).all (BQ N)=true)∧(⟨s.n,keys.map fun k=>(k,BK s.env k),Am N l0 i R row' ob s.st⟩:MS)=t
theorem LoopA.mk {s:MS} {body:MS→(MS→Prop)→Prop} (N l0:Nat) (keys:List Nat) {A:Type} (f:A→MS) (p:A→Prop) (μ:A→Nat) (x0:A) (h0:Ja N keys s∧trim N keys s=f x0∧p x0)
  (h:∀ x,p x→body (f x) fun s'=>∃ y,True∧((Ja N keys s'∧trim N keys s'=f y)∨gU N l0 keys s' (f y))∧p y∧μ y<μ x):LoopK s body:=
 ⟨fun _=>True,fun s t=>(Ja N keys s∧trim N keys s=t)∨gU N l0 keys s t,A,f,p,μ,fun s t _ h=>by
  rcases h with ⟨h1,h2⟩ | ⟨i,R,row,row',ob,⟨g1,g2,g3,g4,g5⟩,g6,⟨g7,g8⟩,g9⟩
  ·exact⟨by rw[← h2]; rfl,fun w0 St0 St β a w hc=>⟨St,β,by rw[← h2]; exact hc.trim h1⟩⟩
  ·exact⟨by rw[← g9],fun w0 St0 St β a w hc=>⟨St,β,by rw[← g9]; exact hc.absTrim g1 g2 g3 g4 g5 g6 g7 g8⟩⟩,⟨x0,trivial,.inl ⟨h0.1,h0.2.1⟩,h0.2.2⟩,h⟩
theorem LoopK.mk {s:MS} {body:MS→(MS→Prop)→Prop} (N:Nat) (keys:List Nat) {A:Type} (f:A→MS) (p:A→Prop) (μ:A→Nat) (x0:A) (h0:Ja N keys s∧trim N keys s=f x0∧p x0)
  (h:∀ x,p x→body (f x) fun s'=>∃ y,Ja N keys s'∧trim N keys s'=f y∧p y∧μ y<μ x):LoopK s body:=
 ⟨Ja N keys,fun s t=>trim N keys s=t,A,f,p,μ,fun s t h1 h2=>⟨by rw[← h2]; rfl,fun w0 St0 St β a w h=>⟨St,β,by rw[← h2]; exact h.trim h1⟩⟩,⟨x0,h0⟩,h⟩
theorem LoopR.mk {s:MS} {body:MS→(MS→Prop)→Prop} (keys:List Nat) {A:Type} (f:A→MS) (p:A→Prop) (μ:A→Nat) (x0:A) (sel0:List (Nat×Bool)) (h0:Lm sel0 keys s∧rel sel0 keys s=f x0) (hp:p x0)
  (h:∀ x,p x→body (f x) fun s'=>∃ y,True∧(∃ sel,Lm sel keys s'∧rel sel keys s'=f y)∧p y∧μ y<μ x):LoopK s body:=
 ⟨fun _=>True,fun s t=>∃ sel,Lm sel keys s∧rel sel keys s=t,A,f,p,μ,fun s t _ ⟨sel,h1,h2⟩=>⟨by rw[← h2]; rfl,fun w0 St0 St β a w h=>⟨St,OQ sel β,by rw[← h2]; exact h.rel h1⟩⟩,⟨x0,trivial,⟨sel0,h0⟩,hp⟩,h⟩
theorem LoopB.mk {s:MS} {body:MS→(MS→Prop)→Prop} (N l0:Nat) (keys:List Nat) {A:Type} (f:A→MS) (p:A→Prop) (μ:A→Nat) (x0:A) (sel0:List (Nat×Bool)) (h0:Lm sel0 keys s∧rel sel0 keys s=f x0) (hp:p x0)
  (h:∀ x,p x→body (f x) fun s'=>∃ y,True∧(∃ sel,Lm sel keys s'∧(rel sel keys s'=f y∨gU N l0 keys (rel sel keys s') (f y)))∧p y∧μ y<μ x):LoopK s body:=
 ⟨fun _=>True,fun s t=>∃ sel,Lm sel keys s∧(rel sel keys s=t∨gU N l0 keys (rel sel keys s) t),A,f,p,μ,fun s t _ ⟨sel,h1,h2⟩=>by
  rcases h2 with h2 | ⟨i,R,row,row',ob,⟨g1,g2,g3,g4,g5⟩,g6,⟨g7,g8⟩,g9⟩
  ·exact⟨by rw[← h2]; rfl,fun w0 St0 St β a w h=>⟨St,OQ sel β,by rw[← h2]; exact h.rel h1⟩⟩
  ·exact⟨by rw[← g9]; rfl,fun w0 St0 St β a w hc=>⟨St,OQ sel β,by rw[← g9]; exact(hc.rel h1).absTrim g1 g2 g3 g4 g5 g6 g7 g8⟩⟩,⟨x0,trivial,⟨sel0,h0.1,.inl h0.2⟩,hp⟩,h⟩
theorem pX {sel:List (Nat×Bool)} {x:List Cl} (h:x.all IJ=true):x.map (P9 sel)=x:=by
 conv=>rhs; rw[← List.map_id x]
 refine qj fun c hc=>?_
 have:=aA.1 h c hc
 cases c<;>simp_all [IJ,P9]
theorem pY {sel:List (Nat×Bool)} {x:List Cl} (h:x.all IJ=true):x.all (Zk sel)=true:=aA.2 fun c hc=>by
 have:=aA.1 h c hc
 cases c<;>simp_all [IJ,Zk]
theorem IC {α:Type} {f:α→List Cl} (hf:∀ x,(f x).all IJ=true) (sel:List (Nat×Bool)) (out:List α) (r row':List Cl) :
  (out.map f ++ [r]).map (fun x=>x.map (P9 sel))=(out.map f ++ [row']).set out.length (r.map (P9 sel)):=by
 rw[Yk,mW _ _ (by simp)]
 congr 1
 ·conv=>rhs; rw[← List.map_id (out.map f)]
  refine qj fun x hx=>?_
  obtain⟨y,_,rfl⟩:=cO.1 hx
  exact pX (hf y)
 ·simp
theorem Bg {α:Type} {f:α→List Cl} (out:List α) (x:α):(out.map f ++ [f x]).set out.length (f x)=(out ++ [x]).map f:=by
 rw[mW _ _ (by simp)]
 simp
theorem IE {α:Type} {f:α→List Cl} (hf:∀ x,(f x).all IJ=true) (sel:List (Nat×Bool)) (out:List α) {r:List Cl} (hr:r.all (Zk sel)=true):((out.map f ++ [r]).all fun x=>x.all (Zk sel))=true:=by
 rw[bV]
 simp only[aS,aZ,aH,aI,hr,ZX]
 refine aA.2 fun x hx=>?_
 obtain⟨y,_,rfl⟩:=cO.1 hx
 exact pY (hf y)
theorem AP {α:Type} {f:α→List Cl} {l:List α} (h:∀ x,BI (f x)=true):E5 (l.map f)=true:=by
 unfold E5
 rw[List.all_map]
 exact aA.2 fun x _=>h x
end Go.Vm
