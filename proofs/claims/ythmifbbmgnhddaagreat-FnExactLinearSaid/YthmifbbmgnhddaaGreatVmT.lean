/- A part. -/
import Derived.Test.YthmifbbmgnhddaaGreatVmSb
import Derived.Deep.LoopGhost
import Derived.Scope
set_option linter.unusedSimpArgs false
set_option linter.unusedVariables false
namespace Go.Vm
open Go.RowKit
variable {P:Program} {w0:Bs} {St0 St:Nat→Nat→Prop} {β:Nat→Option Nat} {s:MS} {a:Act} {w:World}
inductive Ex where
 | normal
 | exit (id:Nat)
 | ret
def CallK (P:Program) (f:FuncId) (args:List AV) (K:List Res→Prop):Prop:=∃ rs,Ctr P f args rs∧(lm rs→K rs)
def AGY (s:MS) (dst:Option Nat) (K:MS→Prop) (y:AV) (st':List Ob):Prop:=K (MS.put ⟨s.n,s.env,st'⟩ dst y)
def AGZ (s:MS) (dst:Option Nat) (K:MS→Prop) (st1:List Ob) (rs:List Res):Prop:=K (MS.put ⟨s.n,s.env,(KG st1 rs).2⟩ dst (retA (KG st1 rs).1))
def ABg (P:Program) (f:FuncId) (s:MS) (dst:Option Nat) (K:MS→Prop) (args:List AV) (st1:List Ob):Prop:=CallK P f args (AGZ s dst K st1)
def MutK (P:Program) (f:FuncId) (s:MS) (args:List AV) (dst:Option Nat) (K:MS→Prop):Prop:=∃ (rest:List AV) (g:Bool) (zs cl:List Cl) (Q:List Cl→List AV→Prop),args=mkA g zs::rest∧(g=true∨zs.length=1) ∧
 OwnL s.st zs cl [] (fun _=>True)∧rest.all AEP=true∧MCtr P f g cl rest Q∧∀ cl' rs,Q cl' rs→(rs.all isV=true∧Z_ cl cl')∧K (MS.put ⟨s.n,s.env,Ji s.st zs cl'⟩ dst (retA rs))
def Head (s t:MS):Prop:=t.n=s.n∧∀ (w0:Bs) (St0 St:Nat→Nat→Prop) (β:Nat→Option Nat) (a:Act) (w:World),Core w0 St0 St β s a w→∃ St' β',Core w0 St0 St' β' t a w
def QS (A B:Prop):Prop:=A∨B
def BorK (P:Program) (f:FuncId) (s:MS) (x:Option (List AV)) (K:List Res→Prop):Prop:=∃ args rs,x=some args∧rs.all O7=true∧Ctr P f args rs∧(lm rs→K rs)
def AL9 (P:Program) (x:AV) (y:Option (List AV×List Ob)) (s:MS) (dst:Option Nat) (K:MS→Prop):Prop:=match x,y with
 | .clo f xs,some (args,st1)=>CallK P f (args++xs.map AV.ip) (AGZ s dst K st1)
 | _,_=>False
def InlK (P:Program) (f:FuncId) (s:MS) (args:List AV) (dst:Option Nat) (K:MS→Prop):Prop:=CallsIn P f∧∀ (w0:Bs) (St0 St:Nat→Nat→Prop) (β:Nat→Option Nat) (a:Act) (w:World) (us:List Value),Core w0 St0 St β s a w→AVRs w St s.st β args us →
 Calls P f us.toArray w fun e w'=>∃ u,e = .returned u∧∃ (s':MS) (x:AV),s'.n=s.n∧K (s'.put dst x)∧∃ St' β',Core w0 St0 St' β' s' a w'∧AVR w' St' s'.st β' x u
def TL (P:Program) (op:Op) (dst:Option Nat) (s:MS) (K:MS→Prop):Prop:=match op with
 | .call c=>match c.callee with
  | .value (.func f)=>QS (yZ (XD s.st (c.args.toList.map (FC s))) (ABg P f s dst K)) (QS (BorK P f s (U4 s.st (c.args.toList.map (FC s))) (AGZ s dst K s.st)) (QS (MutK P f s (c.args.toList.map (FC s)) dst K) (InlK P f s (c.args.toList.map (FC s)) dst K)))
  | .value (.tmp t)=>AL9 P (unpin (CV s.env t)) (XD s.st (c.args.toList.map (FC s))) s dst K
  | _=>U5 (X7 P s (.call c)) (AGY s dst K)
 | op=>U5 (X7 P s op) (AGY s dst K)
def gO (P:Program) (o:Oper) (K:MS→Prop) (s:MS) (b:Bool):Prop:=CondK b (TL P o.op o.dst s K) (K (s.put o.dst .undef))
theorem AIE {P:Program} {o:Oper} {K:MS→Prop} {s:MS}:gO P o K s true=TL P o.op o.dst s K:=LZ
theorem AGa {P:Program} {o:Oper} {K:MS→Prop} {s:MS}:gO P o K s false=K (s.put o.dst .undef):=MZ
theorem AEH {P:Program} {o:Oper} {K:MS→Prop} {s:MS} {b:Bool} (h1:b=true→TL P o.op o.dst s K) (h2:b=false→K (s.put o.dst .undef)):gO P o K s b:=AE4 h1 h2
def vpO (P:Program) (ops:Array Oper) (K:MS→Prop):List Oper→MS→Prop
 | [],s=>K s
 | o::rest,s=>U6 (tK ops s.env o.guard) (gO P o (vpO P ops K rest) s)
def vpR (P:Program) (ops:Array Oper) (K:MS→Prop) (s:MS):Prop:=vpO P ops K ops.toList s
theorem AIF {P:Program} {l:List Oper} {K:MS→Prop} {s:MS}:vpR P l.toArray K s=vpO P l.toArray K l s:=rfl
def U8 (st:List Ob):List Nat→Option (List Ob)
 | []=>some st
 | l::ls=>match EH st l with
  | some ob=>if Fv ob.xs then U8 (Qu st l) ls else none
  | none=>none
def KY (N:Nat):Cl→Bool
 | .ref l=>decide (l<N)
 | _=>true
mutual
def Oj (N:Nat):AV→Bool
 | .c x=>KY N x
 | .agg xs=>xs.all (KY N)
 | .lp l _ _=>decide (l<N)
 | .tup xs=>dV N xs
 | .pin x _=>Oj N x
 | _=>true
def dV (N:Nat):List AV→Bool
 | []=>true
 | x::xs=>Oj N x&&dV N xs
end
def Aq (N:Nat) (ob:Ob):Bool:=Fv ob.xs||ob.xs.all fun x=>x.all (KY N)
def trim (N:Nat) (keys:List Nat) (s:MS):MS:=⟨s.n,keys.map fun k=>(k,CV s.env k),s.st.take N⟩
def Qy (N:Nat) (keys:List Nat) (s:MS):Prop:=(keys.all fun k=>Oj N (CV s.env k))=true∧((s.st.take N).all (Aq N))=true
def LoopK (s:MS) (body:MS→(MS→Prop)→Prop):Prop:=
 ∃ (H1:MS→Prop) (H2:MS→MS→Prop) (A:Type) (f:A→MS) (p:A→Prop) (μ:A→Nat),(∀ s t,H1 s→H2 s t→Head s t)∧(∃ x,H1 s∧H2 s (f x)∧p x) ∧
  ∀ x,p x→body (f x) fun s'=>∃ y,H1 s'∧H2 s' (f y)∧p y∧μ y<μ x
def CP:List (Nat×Bool)→Nat→Nat
 | [],_=>0
 | x::xs,l=>if x.1=l then 0 else CP xs l+1
def lq:List (Nat×Bool)→Nat→Bool
 | [],_=>false
 | x::xs,l=>decide (x.1=l)||lq xs l
def NM (sel:List (Nat×Bool)):Cl→Cl
 | .ref l=>.ref (CP sel l)
 | c=>c
def inC (sel:List (Nat×Bool)):Cl→Bool
 | .ref l=>lq sel l
 | _=>true
mutual
def rnA (sel:List (Nat×Bool)):AV→AV
 | .c x=>.c (NM sel x)
 | .agg xs=>.agg (xs.map (NM sel))
 | .lp l i off=>.lp (CP sel l) i off
 | .tup xs=>.tup (AGb sel xs)
 | .ip xs=>.ip xs
 | .undef=>.undef
 | .un=>.un
 | .pin x u=>.pin (rnA sel x) u
 | .clo f xs=>.clo f xs
def AGb (sel:List (Nat×Bool)):List AV→List AV
 | []=>[]
 | x::xs=>rnA sel x::AGb sel xs
end
mutual
def inA (sel:List (Nat×Bool)):AV→Bool
 | .c x=>inC sel x
 | .agg xs=>xs.all (inC sel)
 | .lp l _ _=>lq sel l
 | .tup xs=>AIG sel xs
 | .pin x _=>inA sel x
 | _=>true
def AIG (sel:List (Nat×Bool)):List AV→Bool
 | []=>true
 | x::xs=>inA sel x&&AIG sel xs
end
def LD (sel:List (Nat×Bool)) (r:Bool) (ob:Ob):Ob:=if r=true then⟨ob.ty,ob.sz,ob.xs.map (fun x=>x.map (NM sel)),ob.wr,ob.live⟩ else ob
def Rk (sel:List (Nat×Bool)) (st:List Ob):List (Nat×Bool)→List Ob
 | []=>[]
 | e::r=>(match st[e.1]? with | some ob=>LD sel e.2 ob | none=>default)::Rk sel st r
def rel (sel:List (Nat×Bool)) (keys:List Nat) (s:MS):MS:=⟨s.n,keys.map fun k=>(k,rnA sel (CV s.env k)),Rk sel s.st sel⟩
def XR (sel:List (Nat×Bool)) (st:List Ob):List (Nat×Bool)→Prop
 | []=>True
 | e::r=>(match st[e.1]? with | some ob=>(if e.2=true then(ob.xs.all fun x=>x.all (inC sel)) else Fv ob.xs)=true | none=>False)∧XR sel st r
def AIH:List (Nat×Bool)→Bool
 | []=>true
 | x::xs=>!lq xs x.1&&AIH xs
def U9 (sel:List (Nat×Bool)) (keys:List Nat) (s:MS):Prop:=AIH sel=true∧(keys.all fun k=>inA sel (CV s.env k))=true∧XR sel s.st sel
def ZV:Op→Bool
 | .call c=>match c.callee with
  | .value (.func _)=>true
  | .builtin .append=>true
  | _=>false
 | .alloc _=>true
 | .box _ _=>true
 | .store _ _ _=>true
 | .makeSlice _ _ _=>true
 | .buildSlice _ _ _=>true
 | _=>false
def FM (P:Program) (s:MS) (o:Op) (y:AV) (st':List Ob):Prop:=match o with
 | .call c=>match c.callee with
  | .value (.func f)=>(∃ args rs st1,XD s.st (c.args.toList.map (FC s))=some (args,st1)∧Ctr P f args rs∧y=retA (KG st1 rs).1∧st'=(KG st1 rs).2) ∨
    (∃ args rs,U4 s.st (c.args.toList.map (FC s))=some args∧rs.all O7=true∧Ctr P f args rs∧y=retA (KG s.st rs).1∧st'=(KG s.st rs).2)∨InlS P f s.st (c.args.toList.map (FC s)) y st'
  | _=>X7 P s (.call c)=some (y,st')
 | op=>X7 P s op=some (y,st')
structure PE where
 i:Nat
 o:Op
 env:List (Nat×AV)
 r:AV
def YY (o:Oper) (q:Nat):List (Nat×List Ob)→Bool
 | []=>true
 | h::H=>(decide (h.1≤q) || !Bg o (h.1-1))&&YY o q H
def YZ (P:Program) (n:Nat) (env:List (Nat×AV)) (o:Oper) (r:AV) (H:List (Nat×List Ob)):List (Nat×List Ob)→Prop
 | []=>True
 | h::G=>CondK (YY o h.1 H) (Bz P ⟨n,env,h.2⟩ o.op r) True∧YZ P n env o r H G
def Ya (P:Program) (n:Nat) (oe:Oper) (st':List Ob):List PE→Prop
 | []=>True
 | p::ps=>CondK (Bg oe p.i) True (Bz P ⟨n,p.env,st'⟩ p.o p.r)∧Ya P n oe st' ps
def Vg (oe:Oper):List PE→List PE
 | []=>[]
 | p::ps=>match Bg oe p.i with
  | true=>Vg oe ps
  | false=>p::Vg oe ps
def chainB (o:Oper):List (Nat×List Ob)→Bool
 | []=>false
 | h::_=>match h.1 with
  | 0=>true
  | q+1=>Bg o q
def tq (p:Nat):List (Nat×List Ob)→Bool
 | []=>false
 | h::_=>decide (h.1=p+1)
def Yb (x:Option (Nat×Nat)) (i:Nat) (o:Oper) (H:List (Nat×List Ob)):Bool:=match x with
 | none=>chainB o H
 | some (j,p)=>if i=j then tq p H else chainB o H
def AII:Op→Bool
 | .alloc _=>true
 | _=>false
def AEW (ops:Array Oper):Option (Nat×Nat)→Bool
 | none=>true
 | some (j,p)=>match ops[j]? with
  | some o=>AII o.op&&o.after.isEmpty&&o.guard.isNone&&o.dst.isSome&&decide (p<j)&&ops.toList.all fun o'=>!Bg o' j||Bg o' p
  | none=>false
def CallE (P:Program) (f:FuncId) (args:List AV) (K:List Res→Prop):Prop:=∃ rs,Ctr P f args rs∧K rs
def BorE (P:Program) (f:FuncId) (x:Option (List AV)) (K:List Res→Prop):Prop:=∃ args rs,x=some args∧rs.all O7=true∧Ctr P f args rs∧K rs
def AIJ (K:AV→List Ob→Prop) (st1:List Ob) (rs:List Res):Prop:=K (retA (KG st1 rs).1) (KG st1 rs).2
def InlE (P:Program) (f:FuncId) (st:List Ob) (args:List AV) (K:AV→List Ob→Prop):Prop:=∃ y st',InlS P f st args y st'∧K y st'
def AGc (P:Program) (f:FuncId) (K:AV→List Ob→Prop) (args:List AV) (st1:List Ob):Prop:=CallE P f args (AIJ K st1)
def AGd (P:Program) (s:MS) (o:Op) (K:AV→List Ob→Prop):Prop:=match o with
 | .call c=>match c.callee with
  | .value (.func f)=>QS (yZ (XD s.st (c.args.toList.map (FC s))) (AGc P f K)) (QS (BorE P f (U4 s.st (c.args.toList.map (FC s))) (AIJ K s.st)) (InlE P f s.st (c.args.toList.map (FC s)) K))
  | _=>U5 (X7 P s (.call c)) K
 | op=>U5 (X7 P s op) K
def AIK (P:Program) (o:Oper) (s:MS) (H:List (Nat×List Ob)) (pd:List PE) (i:Nat) (V:List (Nat×List Ob)→List PE→MS→Prop) (y:AV) (st':List Ob):Prop:=
 Ya P s.n o st' pd∧V ((i+1,st')::H) (Vg o pd) (MS.put ⟨s.n,s.env,st'⟩ o.dst y)
def rdP (P:Program) (o:Oper) (s:MS) (H:List (Nat×List Ob)) (pd:List PE) (i:Nat) (V:List (Nat×List Ob)→List PE→MS→Prop) (r:AV):Prop:=
 YZ P s.n s.env o r H H∧V H (⟨i,o.op,s.env,r⟩::pd) (s.put o.dst r)
def AGe (P:Program) (x:Option (Nat×Nat)) (o:Oper) (s:MS) (H:List (Nat×List Ob)) (pd:List PE) (i:Nat) (V:List (Nat×List Ob)→List PE→MS→Prop) (e:Bool):Prop:=
 CondK e (CondK (Yb x i o H) (AGd P s o.op (AIK P o s H pd i V)) False) (DrK P s o.op (rdP P o s H pd i V))
def gE (P:Program) (x:Option (Nat×Nat)) (o:Oper) (s:MS) (H:List (Nat×List Ob)) (pd:List PE) (i:Nat) (V:List (Nat×List Ob)→List PE→MS→Prop) (b:Bool):Prop:=
 CondK b (AGe P x o s H pd i V (ZV o.op)) (V H pd (s.put o.dst .undef))
def vpE (P:Program) (x:Option (Nat×Nat)) (ops:Array Oper) (K:MS→Prop):List Oper→Nat→List (Nat×List Ob)→List PE→MS→Prop
 | [],_,_,_,s=>K s
 | o::rest,i,H,pd,s=>U6 (tK ops s.env o.guard) (gE P x o s H pd i (vpE P x ops K rest (i+1)))
def ANg (P:Program) (ops:Array Oper) (s:MS) (K:MS→Prop):Prop:=∀ (w0:Bs) (St0 St:Nat→Nat→Prop) (β:Nat→Option Nat) (a:Act) (w:World),Core w0 St0 St β s a w →
 wpAny P .any ops (fun e a' w'=>e = .normal∧∃ s',K s'∧s'.n=s.n∧Sim w0 St0 s' a' w') ops.size (Array.replicate ops.size false) a { w with drawn:=w.drawn+1 }
def AGf (P:Program) (ops:Array Oper) (s:MS) (K:MS→Prop):Prop:=(∃ ls st',U8 s.st ls=some st'∧vpD P ops K ops.toList ⟨s.n,s.env,st'⟩)∨(∃ x,AEW ops x=true∧vpE P x ops K ops.toList 0 [(0,s.st)] [] s)∨ANg P ops s K
def DrawX (P:Program):Nat→Array Oper→MS→(MS→Prop)→Prop
 | 0,ops,s,K=>AGf P ops s K
 | d+1,ops,s,K=>AGf P ops s K∨∃ (l:List Oper) (e1 e2:Nat) (σ1 σ2 js:List Nat),ops=l.toArray∧e1≠e2∧U7 s.n l σ1 e1 e2=true∧DrawX P d (Ij σ1 e1 e2 l).toArray s K∧((jI l e1 js=true∧js.getLast?=some e2)∨(U7 s.n l σ2 e2 e1=true∧DrawX P d (Ij σ2 e2 e1 l).toArray s K))
def DrawK (P:Program) (ops:Array Oper) (s:MS) (K:MS→Prop):Prop:=∃ d,DrawX P d ops s K
def AEX (id:Nat) (Q:Ex→MS→Prop):Ex→MS→Prop
 | .normal,s=>Q .normal s
 | .exit i,s=>if i=id then Q .normal s else Q (.exit i) s
 | .ret,s=>Q .ret s
def AGg (K:MS→Prop) (Q:Ex→MS→Prop):Ex→MS→Prop
 | .normal,s=>K s
 | .exit i,s=>Q (.exit i) s
 | .ret,s=>Q .ret s
def AL_ (V:MS→(Ex→MS→Prop)→Prop) (Q:Ex→MS→Prop):Ex→MS→Prop
 | .normal,s=>V s Q
 | .exit i,s=>Q (.exit i) s
 | .ret,s=>Q .ret s
def cndM (V W:MS→(Ex→MS→Prop)→Prop) (s:MS) (Q:Ex→MS→Prop) (b:Bool):Prop:=CondK b (V s Q) (W s Q)
theorem AEY {V W:MS→(Ex→MS→Prop)→Prop} {s:MS} {Q:Ex→MS→Prop}:cndM V W s Q true=V s Q:=LZ
theorem ABh {V W:MS→(Ex→MS→Prop)→Prop} {s:MS} {Q:Ex→MS→Prop}:cndM V W s Q false=W s Q:=MZ
theorem cndM.mk {V W:MS→(Ex→MS→Prop)→Prop} {s:MS} {Q:Ex→MS→Prop} {b:Bool} (h1:b=true→V s Q) (h2:b=false→W s Q):cndM V W s Q b:=AE4 h1 h2
def AMA (V:MS→(Ex→MS→Prop)→Prop) (Q:Ex→MS→Prop) (s1:MS) (K:MS→Prop):Prop:=V s1 (AGg K Q)
def vp (P:Program):Code→MS→(Ex→MS→Prop)→Prop
 | .skip,s,Q=>Q .normal s
 | .region _ ops false,s,Q=>vpR P ops (Q .normal) s
 | .region _ ops true,s,Q=>DrawK P ops s (Q .normal)
 | .seq x y,s,Q=>vp P x s (AL_ (vp P y) Q)
 | .cond c x y,s,Q=>ACu (FC s c) (cndM (vp P x) (vp P y) s Q)
 | .block id x,s,Q=>vp P x s (AEX id Q)
 | .loop x,s,Q=>LoopK s (AMA (vp P x) Q)
 | .exit id,s,Q=>Q (.exit id) s
 | .scope x,s,Q=>vp P x s Q
 | .ret,s,Q=>Q .ret s
 | _,_,_=>False
def AI7 (ops:Array Oper):Bool:=ops.toList.all fun o=>o.op.operands.toList.all BD
def codeOk (n:Nat):Code→Bool
 | .region _ ops false=>AI7 ops
 | .region _ ops true=>AI7 ops&&GZ n ops
 | .seq x y=>codeOk n x&&codeOk n y
 | .cond c x y=>BD c&&codeOk n x&&codeOk n y
 | .block _ x=>codeOk n x
 | .loop x=>codeOk n x
 | .scope x=>codeOk n x
 | _=>true
def Ex.of:Ex→Exit
 | .normal=>.normal
 | .exit i=>.exit i
 | .ret=>.ret
def AMB (w0:Bs) (St0:Nat→Nat→Prop) (n:Nat) (Q:Ex→MS→Prop):Exit→Act→World→Prop:=fun e a w=>∃ x s,e=Ex.of x∧Q x s∧s.n=n∧Sim w0 St0 s a w
theorem ZW (s:MS) (d:Option Nat) (v:AV):(s.put d v).n=s.n:=by
 cases d with
 | none=>rfl
 | some d=>simp only[MS.put]; split<;>rfl
theorem step_ok (h:Core w0 St0 St β s a w) (o:Oper) (hc:o.op.operands.toList.all BD=true) {K:MS→Prop} (hk:TL P o.op o.dst s K) (Q:Exit→Act→World→Prop) :
  o.wp P a w (fun a' w'=>∃ s',K s'∧s'.n=s.n∧Sim w0 St0 s' a' w') Q:=by
 have hD:∀ {y:AV} {st':List Ob},X7 P s o.op=some (y,st')→K (MS.put ⟨s.n,s.env,st'⟩ o.dst y)→o.wp P a w (fun a' w'=>∃ s',K s'∧s'.n=s.n∧Sim w0 St0 s' a' w') Q:=fun {y st'} he hK=>by
  obtain⟨nx,v,w',St',β',h1,h2,h3,h4⟩:=ABa h o hc he
  unfold Oper.wp
  rw[h1]
  rcases h2 with rfl | ⟨rfl,rfl⟩
  ·exact⟨_,hK,ZW _ _ _,St',β',h3.put o.dst h4⟩
  ·exact⟨_,hK,ZW _ _ _,St',β',h3.put o.dst h4⟩
 have hF:∀ op,o.op=op→(∀ c,op≠ .call c)→TL P op o.dst s K→o.wp P a w (fun a' w'=>∃ s',K s'∧s'.n=s.n∧Sim w0 St0 s' a' w') Q:=fun op hop hnc hs=>by
  have hs':U5 (X7 P s op) (AGY s o.dst K):=by
   cases op with
   | call c=>exact absurd rfl (hnc c)
   | _=>exact hs
  unfold U5 at hs'
  split at hs'
  ·rename_i y st' he
   exact hD AQ6 hs'
  grind
 cases hop:o.op with
 | call c =>
  rw[hop] at hk
  simp only[TL,QS,yZ,U5,ABg,AGY] at hk
  split at hk
  ·rename_i f hcl
   have hca:c.args.toList.all BD=true:=by
    rw[hop] at hc
    exact AN4
   rcases hk with hk | hk | hk | ⟨hin,hk⟩
   rotate_right
   ·have hcall:=hk w0 St0 St β a w _ h (KX h c.args.toList hca)
    have ea:(c.args.toList.map a.eval).toArray=c.args.map a.eval:=ARq
    rw[ea] at hcall
    unfold Oper.wp
    rw[Oi o c f hop hcl hin]
    simp only[Oper.upon]
    refine hcall.mono fun e w' hb=>?_
    obtain⟨u,rfl,s',x,e1,hK,St',β',h1,h2⟩:=hb
    exact⟨_,hK,(ZW _ _ _).trans e1,St',β',h1.put o.dst h2⟩
   rotate_left
   ·obtain⟨args,rs,hf,hclo,hspec,hK⟩:=hk
    obtain⟨φ,hφ⟩:=h.own
    have hargs:=jA h hφ hf (KX h c.args.toList hca)
    unfold Oper.wp
    rw[Oi o c f hop hcl hspec.1]
    simp only[Oper.upon]
    have hcall:=hspec.2 w _ (c.args.toList.map a.eval) (fun b o hb=>AllSt.lt h hφ hb) hargs
    have ea:(c.args.toList.map a.eval).toArray=c.args.map a.eval:=ARq
    rw[ea] at hcall
    refine hcall.mono fun e w' hb=>?_
    obtain⟨us,bs,St2,hb⟩:=hb
    have hb:=hb.clo hclo h.stIn
    obtain⟨β',k1,k2⟩:=jC h hb
    have hwf:lm rs:=by
     obtain⟨Φs,hr,_⟩:=hb.res
     exact hr.wf
    have e1:=hb.ret
    subst e1
    exact⟨_,hK hwf,ZW _ _ _,St,β',k1.put o.dst (PL k2)⟩
   ·obtain⟨rest,g,zs,cl,Q',hargs,hg,ho,hv1,hspec,hK⟩:=hk
    obtain⟨φ,hφ⟩:=h.own
    have he:=KX h c.args.toList hca
    rw[hargs] at he
    simp only[AVRs] at he
    obtain⟨u,vs,hvals,hu,hvs⟩:=he
    have hus:∃ us:List Value,u=mkV g us∧us.length=zs.length∧∀ (k:Nat) (c:Cl),zs[k]?=some c→∃ y,us[k]?=some y∧RdC w St s.st β c y:=by
     cases g with
     | true =>
      simp only[mkA,bH,AVR] at hu
      obtain⟨us,e1,e2,e3⟩:=hu
      exact⟨us,by simp only[mkV,bH]; exact e1,e2,e3⟩
     | false =>
      have hz1:zs.length=1:=by simpa using hg
      match zs,hz1 with
      | [z],_ =>
       simp only[mkA,ay,aY,AVR,List.headD_cons] at hu
       refine⟨[u],by simp[mkV],rfl,fun k c hk=>?_⟩
       grind
    obtain⟨us,rfl,hul,hur⟩:=hus
    have hrd:=ACv h hφ ho hul hur
    have hGf:∀ (k x:Nat),(∃ l,zs[k]?=some (Cl.ref l)∧Fp s.st β φ l x)→x<w.heap.size∧∀ o,¬ St x o:=fun k x ⟨l,q1,q2⟩=>by
     obtain⟨_,ob,p1,p2,_⟩:=PP zs cl [] _ ho k l q1
     obtain⟨r1,r2,r3⟩:=XJ h hφ q2 fun ob' hob'=>by
      grind [Ci]
     grind
    have hcall:=hspec.2.2 w St us _ vs h.stIn hGf hrd (yT hv1 hvs)
    have ea:(mkV g us::vs).toArray=c.args.map a.eval:=by rw[← hvals]; apply abG; simp
    rw[ea] at hcall
    unfold Oper.wp
    rw[Oi o c f hop hcl hspec.1]
    simp only[Oper.upon]
    refine hcall.mono fun e w' hb=>?_
    obtain⟨cl',rs,rv,G',b0,b1,b2,b3,b3s,b7,b8,b9⟩:=hb
    obtain⟨⟨hv2,hsh⟩,hK⟩:=hK cl' rs b0
    subst b1
    have hcore:=AGV h hφ ho hur (fun k x hx=>hx) hsh b2 b3 b3s (fun _ _ h=>h) (fun _ _ h _=>h) (fun b o hb=>di (h.stIn b o hb) b2.size) b8 (fun k x hx=>by
     rcases b9 k x hx with h9 | ⟨h9,h10⟩
     ·exact .inl h9
     ·exact .inr ⟨h9,h10,fun o ho=>by have:=h.stIn x o ho; omega⟩)
    refine⟨_,hK,ZW _ _ _,St,β,hcore.put o.dst (PL ?_)⟩
    have key:∀ (xs:List AV) (us:List Value),RdAs w' St xs us→AVRs w' St (Ji s.st zs cl') β xs us:=by
     intro xs
     induction xs with
     | nil=>intro us h; simp only[AVRs]; exact h
     | cons x xs ih =>
      intro us h
      obtain⟨y,ys,h1,h2,h3⟩:=h
      simp only[AVRs]
      exact⟨y,ys,h1,h2.toAVR,ih ys h3⟩
    exact key _ _ b7
   split at hk
   ·rename_i args st1 hf
    obtain⟨rs,hspec,hK⟩:=hk
    obtain⟨St1,q1,q2,q3⟩:=XE _ _ _ _ St h hf
    have hargs:=q3 _ (KX h c.args.toList hca)
    unfold Oper.wp
    rw[Oi o c f hop hcl hspec.1]
    simp only[Oper.upon]
    have hcall:=hspec.2 w St1 (c.args.toList.map a.eval) q1.stIn hargs
    have ea:(c.args.toList.map a.eval).toArray=c.args.map a.eval:=ARq
    exact ANe
   grind
  ·rename_i t hcl
   have hca:c.args.toList.all BD=true:=by
    rw[hop] at hc
    exact AN4
   unfold AL9 at hk
   split at hk
   ·rename_i f xs args st1 hev hf
    obtain⟨rs,hspec,hK⟩:=hk
    obtain⟨St1,q1,q2,q3⟩:=XE _ _ _ _ St h hf
    have hargs:=q3 _ (KX h c.args.toList hca)
    have he:AVR w St s.st β (unpin (CV s.env t)) (a.eval (.tmp t)):=CX h (.tmp t) (aS.1 hc _ (by rw[hop]; simp[Op.operands,Call.operands,hcl]))
    rw[hev] at he
    simp only[AVR] at he
    obtain⟨us0,hu0,hul,hur⟩:=he
    have hcap:RdAs w St1 (xs.map AV.ip) us0:=YS hul fun k c hk=>by
     grind [RdL.mono]
    unfold Oper.wp
    rw[ACt o c f (.tmp t) us0.toArray hop hcl hu0 hspec.1]
    simp only[Oper.upon]
    have hcall:=hspec.2 w St1 (c.args.toList.map a.eval++us0) q1.stIn (iw hargs hcap)
    have ea:(c.args.toList.map a.eval++us0).toArray=c.args.map a.eval++us0.toArray:=ARq
    exact ANe
   grind
  grind
 | _=>grind
theorem ABi (ops:Array Oper) (Q:Exit→Act→World→Prop) (K:MS→Prop) (n:Nat):∀ (l:List Oper) (k:Nat),(∀ j,l[j]?=ops[k+j]?)→(l.all fun o=>o.op.operands.toList.all BD)=true →
  ∀ (s:MS) (a:Act) (w:World),s.n=n→Sim w0 St0 s a w→vpO P ops K l s→(∀ s' a' w',K s'→s'.n=n→Sim w0 St0 s' a' w'→Q .normal a' w')→wpList P ops Q l a w
 | [],_,_,_,s,a,w,hn,hs,hv,hQ=>hQ s a w hv hn hs
 | o::l,k,hl,hc,s,a,w,hn,hs,hv,hQ=>by
  obtain⟨St,β,h⟩:=hs
  simp only[aW,az] at hc
  simp only[vpO,U6,gO] at hv
  split at hv
  ·rename_i b hb
   have hw:=tN h hb
   have hl':∀ j,l[j]?=ops[k+1+j]?:=fun j=>by
    have:=hl (j+1)
    grind
   unfold wpList
   rw[hw]
   cases b with
   | true =>
    simp only[bH]
    left
    exact Oper.wp_mono (fun a' w' ⟨s',hK,hn',hs'⟩=>ABi ops Q K n l (k+1) hl' hc.2 s' a' w' (hn'.trans hn) hs' hK hQ) (step_ok h o hc.1 (hv.1 rfl) Q)
   | false =>
    simp only[ay,aY]
    exact ABi ops Q K n l (k+1) hl' hc.2 _ _ _ ((ZW _ _ _).trans hn) ⟨St,β,h.put o.dst (by simp only[AVR])⟩ (hv.2 rfl) hQ
  grind
theorem XT:∀ (ls:List Nat) (st st':List Ob) (St:Nat→Nat→Prop),Core w0 St0 St β ⟨s.n,s.env,st⟩ a w→U8 st ls=some st'→∃ St',Core w0 St0 St' β ⟨s.n,s.env,st'⟩ a w
 | [],st,st',St,h,hf=>by simp only[U8,ai] at hf; grind
 | l::ls,st,st',St,h,hf=>by
  simp only[U8] at hf
  split at hf
  ·rename_i ob hob
   split at hf
   ·rename_i hp
    obtain⟨St1,q1,_⟩:=h.freeze l hob hp
    exact XT ls _ st' St1 q1 hf
   ·cases hf
  ·cases hf
theorem AGh (keys:List Nat) (env:List (Nat×AV)) (i:Nat):CV (keys.map fun k=>(k,CV env k)) i=if i∈keys then CV env i else .un:=by
 induction keys with
 | nil=>simp[CV]
 | cons k keys ih =>
  simp only[TA,CV,ih,Rx]
  grind
theorem AEZ {st:List Ob} {N l:Nat} {u:Value} (hl:l<N) (h:BZ w st β l u):BZ w (st.take N) β l u:=by
 unfold BZ at h ⊢
 grind
theorem TM {st:List Ob} {N:Nat} {c:Cl} {u:Value} (hc:KY N c=true) (h:RdC w St st β c u):RdC w St (st.take N) β c u:=by
 cases c with
 | ref l=>exact AEZ (by simpa [KY] using hc) h
 | ow ty sz xs=>simp[RdC,RdD] at h
 | v x=>exact h
 | sl xs=>exact h
mutual
theorem jK {st:List Ob} {N:Nat}:∀ (x:AV) (u:Value),Oj N x=true→AVR w St st β x u→AVR w St (st.take N) β x u
 | .c x,u,hc,h=>by simp only[AVR] at h ⊢; exact TM ASc h
 | .agg xs,u,hc,h=>by
  simp only[AVR] at h ⊢
  simp only[Oj] at hc
  grind [TM,aS,bI]
 | .lp l i off,u,hc,h=>by
  simp only[AVR] at h ⊢
  have hl:l<N:=ASc
  grind
 | .ip xs,u,_,h=>AR4
 | .tup xs,u,hc,h=>by
  simp only[AVR] at h ⊢
  obtain⟨us,h1,h2⟩:=h
  exact⟨us,h1,oN xs us ASc h2⟩
 | .undef,u,_,h=>AR4
 | .un,u,_,h=>by simp only[AVR]
 | .pin x u0,u,hc,h=>by
  simp only[AVR] at h ⊢
  exact⟨h.1,jK x u ASc h.2⟩
 | .clo f xs,u,_,h=>AR4
theorem oN {st:List Ob} {N:Nat}:∀ (xs:List AV) (us:List Value),dV N xs=true→AVRs w St st β xs us→AVRs w St (st.take N) β xs us
 | [],us,_,h=>ASO
 | x::xs,us,hc,h=>by
  simp only[AVRs] at h ⊢
  simp only[dV,az] at hc
  obtain⟨y,ys,h1,h2,h3⟩:=h
  exact⟨y,ys,h1,jK x y hc.1 h2,oN xs ys hc.2 h3⟩
end
theorem AGi {st:List Ob} {N:Nat} {c:Cl} {u:Value} (hc:KY N c=true) (h:RdB w St st β c u):RdB w St (st.take N) β c u:=by
 cases c with
 | ow ty sz xs=>exact h
 | v y=>exact TM (w:=w) (St:=St) (st:=st) (β:=β) (c:=.v y) hc h
 | sl y=>exact TM (w:=w) (St:=St) (st:=st) (β:=β) (c:=.sl y) hc h
 | ref y=>exact TM (w:=w) (St:=St) (st:=st) (β:=β) (c:=.ref y) hc h
theorem Core.trim (h:Core w0 St0 St β s a w) {N:Nat} {keys:List Nat} (ht:Qy N keys s):Core w0 St0 St β (trim N keys s) a w:=by
 obtain⟨t1,t2⟩:=ht
 have hg:∀ l ob,(s.st.take N)[l]?=some ob→s.st[l]?=some ob:=fun l ob hl=>by
  rw[aa2] at hl
  split at hl
  ·exact hl
  ·cases hl
 exact {
  defers:=h.defers
  size:=h.size
  lim:=h.lim
  env:=fun i=>by
   simp only[Go.Vm.trim,AGh]
   split
   ·rename_i hi
    exact jK _ _ (aS.1 t1 i hi) (h.env i)
   ·simp only[AVR]
  below:=h.below,st0:=h.st0,stOld:=h.stOld,stIn:=h.stIn
  obs:=fun l ob b hl hlive hβ=>by
   obtain⟨q1,q2,cs,g1,g2,g3⟩:=h.obs l ob b (hg l ob hl) hlive hβ
   refine⟨q1,q2,cs,g1,g2,fun k c hk=>?_⟩
   obtain⟨u,hu,hr⟩:=g3 k c hk
   refine⟨u,hu,AGi ?_ hr⟩
   have hno:=aS.1 t2 ob (bI hl)
   obtain⟨x,hx,hcx⟩:=abr.1 (bI hk)
   simp only[Aq,aaY] at hno
   rcases hno with hno | hno
   ·have:=aS.1 (aS.1 hno x hx) c hcx
    cases c<;>simp_all [AC,KY]
   grind
  nil:=fun l ob hl=>h.nil l ob (hg l ob hl)
  inj:=fun l l' ob ob' b h1 h2=>h.inj l l' ob ob' b (hg l ob h1) (hg l' ob' h2)
  sep:=fun l ob b o hl=>h.sep l ob b o (hg l ob hl)
  own:=h.own.move id (fun x hx=>⟨⟨hx.1,hx.2.1,hx.2.2.1,hx.2.2.2.1,fun l ob hl=>hx.2.2.2.2 l ob (hg l ob hl)⟩,rfl⟩) (fun _ _ h=>h) (fun _ _ _=>rfl)
   (fun l ob b k c h1 h2 h3 h4 _=>⟨ob,b,hg l ob h1,h2,h3,h4,rfl⟩) (fun _ _ _ _ _ _ _ _ e=>e) }
theorem AEa (g:Nat→AV) (keys:List Nat) (i:Nat):CV (keys.map fun k=>(k,g k)) i=if i∈keys then g i else .un:=by
 induction keys with
 | nil=>simp[CV]
 | cons k ks ih =>
  simp only[TA,CV,ih]
  grind
theorem ACx {sel:List (Nat×Bool)} {l:Nat} (h:lq sel l=true):∃ r,sel[CP sel l]?=some (l,r):=by
 induction sel with
 | nil=>simp[lq] at h
 | cons x xs ih =>
  simp only[CP]
  by_cases e:x.1=l
  ·grind
  ·simp only[lq,e,abU,bW] at h
   grind
theorem AIL {sel:List (Nat×Bool)} {i:Nat} {e:Nat×Bool} (h:sel[i]?=some e):lq sel e.1=true:=by
 induction sel generalizing i with
 | nil=>simp at h
 | cons x xs ih =>
  simp only[lq,aaY,bC]
  grind
theorem ACy {sel:List (Nat×Bool)} (h:AIH sel=true):∀ {i j:Nat} {e e':Nat×Bool},sel[i]?=some e→sel[j]?=some e'→e.1=e'.1→i=j:=by
 induction sel with
 | nil=>grind
 | cons x xs ih =>
  simp only[AIH,az,abl] at h
  grind [aX,ai,AIL]
theorem XU (sel:List (Nat×Bool)) (st:List Ob):∀ (l:List (Nat×Bool)) (i:Nat),(Rk sel st l)[i]?=(l[i]?).map fun e=>match st[e.1]? with | some ob=>LD sel e.2 ob | none=>default
 | [],i=>by simp[Rk]
 | e::r,0=>by simp[Rk]
 | e::r,i+1=>by simp only[Rk,aa8]; exact XU sel st r i
theorem XV {sel:List (Nat×Bool)} {st:List Ob}:∀ {l:List (Nat×Bool)},XR sel st l→∀ {i:Nat} {e:Nat×Bool},l[i]?=some e→∃ ob,st[e.1]?=some ob∧(if e.2=true then(ob.xs.all fun x=>x.all (inC sel)) else Fv ob.xs)=true
 | [],_,i,e,h=>ARa
 | x::r,ho,i,e,h=>by
  simp only[XR] at ho
  cases i with
  | zero =>
   grind
  | succ i=>exact XV ho.2 ARY
section
variable {sel:List (Nat×Bool)} {st:List Ob}
def XW (sel:List (Nat×Bool)) (β:Nat→Option Nat) (i:Nat):Option Nat:=match sel[i]? with | some e=>β e.1 | none=>none
theorem AIM (ho:XR sel st sel) {l:Nat} {u:Value} (hl:lq sel l=true) (h:BZ w st β l u):BZ w (Rk sel st sel) (XW sel β) (CP sel l) u:=by
 obtain⟨r,hr⟩:=ACx hl
 obtain⟨ob,hob,_⟩:=XV ho hr
 simp only at hob
 unfold BZ at h ⊢
 rw[XU,hr]
 simp only[dm,hob,XW,hr] at h ⊢
 have e1:(LD sel r ob).live=ob.live:=AR_
 have e2:(LD sel r ob).xs.length=ob.xs.length:=by unfold LD; split<;>simp
 have e3:(LD sel r ob).ty=ob.ty:=AR_
 have e4:(LD sel r ob).sz=ob.sz:=AR_
 grind
theorem yu (ho:XR sel st sel) {c:Cl} {u:Value} (hc:inC sel c=true) (h:RdC w St st β c u):RdC w St (Rk sel st sel) (XW sel β) (NM sel c) u:=by
 cases c with
 | ref l=>exact AIM ho hc h
 | v x=>exact h
 | sl xs=>exact h
 | ow ty sz xs=>simp[RdC,RdD] at h
theorem AMC (ho:XR sel st sel) {c:Cl} {u:Value} (hc:inC sel c=true) (h:RdB w St st β c u):RdB w St (Rk sel st sel) (XW sel β) (NM sel c) u:=by
 cases c with
 | ow ty sz xs=>exact h
 | v y=>exact yu (w:=w) (St:=St) (β:=β) (c:=.v y) ho hc h
 | sl y=>exact yu (w:=w) (St:=St) (β:=β) (c:=.sl y) ho hc h
 | ref y=>exact yu (w:=w) (St:=St) (β:=β) (c:=.ref y) ho hc h
theorem AIN {c:Cl}:G7 (NM sel c)=G7 c:=by cases c<;>rfl
theorem AKO {c:Cl} (h:G7 c=true):NM sel c=c:=by cases c<;>simp_all [G7,NM]
mutual
theorem AGj (ho:XR sel st sel):∀ (x:AV) (u:Value),inA sel x=true→AVR w St st β x u→AVR w St (Rk sel st sel) (XW sel β) (rnA sel x) u
 | .c x,u,hc,h=>by simp only[AVR,rnA] at h ⊢; exact yu ho ASX h
 | .agg xs,u,hc,h=>by
  simp only[AVR,rnA] at h ⊢
  simp only[inA] at hc
  grind [aax,yu,aS,bI]
 | .lp l i off,u,hc,h=>by
  simp only[AVR,rnA] at h ⊢
  obtain⟨r,hr⟩:=ACx (sel:=sel) (l:=l) ASX
  obtain⟨ob,hob,_⟩:=XV ho hr
  simp only at hob
  rw[XU,hr]
  simp only[dm,hob,XW,hr] at h ⊢
  have e1:(LD sel r ob).live=ob.live:=AR_
  have e4:(LD sel r ob).sz=ob.sz:=AR_
  grind
 | .ip xs,u,_,h=>ASG
 | .tup xs,u,hc,h=>by
  simp only[AVR,rnA] at h ⊢
  obtain⟨us,h1,h2⟩:=h
  exact⟨us,h1,AGk ho xs us ASX h2⟩
 | .undef,u,_,h=>ASG
 | .un,u,_,h=>by simp only[AVR,rnA]
 | .pin x u0,u,hc,h=>by
  simp only[AVR,rnA] at h ⊢
  exact⟨h.1,AGj ho x u ASX h.2⟩
 | .clo f xs,u,_,h=>ASG
theorem AGk (ho:XR sel st sel):∀ (xs:List AV) (us:List Value),AIG sel xs=true→AVRs w St st β xs us→AVRs w St (Rk sel st sel) (XW sel β) (AGb sel xs) us
 | [],us,_,h=>by simp only[AVRs,AGb] at h ⊢; exact h
 | x::xs,us,hc,h=>by
  simp only[AVRs,AGb] at h ⊢
  simp only[AIG,az] at hc
  obtain⟨y,ys,h1,h2,h3⟩:=h
  exact⟨y,ys,h1,AGj ho x y hc.1 h2,AGk ho xs ys hc.2 h3⟩
end
end
theorem Core.rel (h:Core w0 St0 St β s a w) {sel:List (Nat×Bool)} {keys:List Nat} (ht:U9 sel keys s):Core w0 St0 St (XW sel β) (rel sel keys s) a w:=by
 obtain⟨t0,t1,t2⟩:=ht
 have hg:∀ (i:Nat) (ob:Ob),(Rk sel s.st sel)[i]?=some ob→∃ (e:Nat×Bool) (ob0:Ob),sel[i]?=some e∧s.st[e.1]?=some ob0∧ob=LD sel e.2 ob0∧(if e.2=true then(ob0.xs.all fun x=>x.all (inC sel)) else Fv ob0.xs)=true:=by
  intro i ob hi
  rw[XU] at hi
  obtain⟨e,he,h2⟩:=aax.1 hi
  obtain⟨ob0,hob,hp⟩:=XV t2 he
  simp only[hob] at h2
  exact⟨e,ob0,he,hob,h2.symm,hp⟩
 have elive:∀ r ob,(LD sel r ob).live=ob.live:=ARt
 have esz:∀ r ob,(LD sel r ob).sz=ob.sz:=ARt
 have ety:∀ r ob,(LD sel r ob).ty=ob.ty:=ARt
 have ewr:∀ r ob,(LD sel r ob).wr=ob.wr:=ARt
 have elen:∀ r ob,(LD sel r ob).xs.length=ob.xs.length:=by intro r ob; unfold LD; split<;>simp
 have eβ:∀ {i:Nat} {e:Nat×Bool},sel[i]?=some e→XW sel β i=β e.1:=by intro i e he; simp only[XW,he]
 exact {
  defers:=h.defers
  size:=h.size
  lim:=h.lim
  env:=fun i=>by
   simp only[Go.Vm.rel,AEa]
   split
   ·rename_i hi
    exact AGj t2 _ _ (aS.1 t1 i hi) (h.env i)
   ·simp only[AVR]
  below:=h.below,st0:=h.st0,stOld:=h.stOld,stIn:=h.stIn
  obs:=fun i ob b hi hlive hβ=>by
   obtain⟨e,ob0,he,hob,rfl,hp⟩:=hg i ob hi
   rw[eβ he] at hβ
   rw[elive] at hlive
   obtain⟨q1,q2,cs,g1,g2,g3⟩:=h.obs e.1 ob0 b hob hlive hβ
   refine⟨q1,q2,cs,AQ6, ?_, ?_⟩
   ·rw[esz]
    intro x hx
    unfold LD at hx
    grind
   ·intro k c hk
    unfold LD at hk
    split at hk
    ·rename_i hr
     simp only[hr,bH] at hp
     rw[← List.map_flatten,lg] at hk
     obtain⟨c0,hc0,rfl⟩:=aax.1 hk
     obtain⟨u,hu,hc⟩:=g3 k c0 hc0
     obtain⟨x,hx,hcx⟩:=abr.1 (bI hc0)
     exact⟨u,hu,AMC t2 (aS.1 (aS.1 hp x hx) c0 hcx) hc⟩
    ·rename_i hr
     simp only[hr,aY] at hp
     obtain⟨u,hu,hc⟩:=g3 k c hk
     obtain⟨x,hx,hcx⟩:=abr.1 (bI hk)
     have:=aS.1 (aS.1 hp x hx) c hcx
     refine⟨u,hu, ?_⟩
     cases c with
     | ref l=>simp[AC] at this
     | v x=>exact hc
     | sl xs=>exact hc
     | ow ty sz xs=>exact hc
  nil:=fun i ob hi hlive hβ=>by
   obtain⟨e,ob0,he,hob,rfl,hp⟩:=hg i ob hi
   rw[eβ he] at hβ
   rw[elive] at hlive
   have:=h.nil e.1 ob0 hob hlive hβ
   grind
  inj:=fun i j o1 o2 b h1 h2 h3 h4 h5 h6=>by
   obtain⟨e,ob0,he,hob,rfl,_⟩:=hg i o1 h1
   obtain⟨e',ob0',he',hob',rfl,_⟩:=hg j o2 h2
   rw[eβ he] at h5
   rw[eβ he'] at h6
   rw[elive] at h3 h4
   exact ACy t0 he he' (h.inj _ _ _ _ b hob hob' h3 h4 h5 h6)
  sep:=fun i ob b o hi hlive hβ hbo=>by
   obtain⟨e,ob0,he,hob,rfl,_⟩:=hg i ob hi
   rw[eβ he] at hβ
   rw[elive] at hlive
   rw[ewr,elen,esz]
   exact h.sep e.1 ob0 b o hob hlive hβ hbo
  own:=by
   refine h.own.move (fun i=>((sel[i]?).getD (0,false)).1) (fun x hx=>⟨⟨hx.1,hx.2.1,hx.2.2.1,hx.2.2.2.1,fun i ob hi hlv=>?_⟩,rfl⟩) (fun _ _ h=>h) (fun _ _ _=>rfl) (fun i ob b k c hi hlive hβ hk hc=>?_) (fun i j o1 o2 h1 h2 _ _ e=>?_)
   ·obtain⟨e,ob0,he,hob,rfl,hp⟩:=hg i ob hi
    rw[eβ he]
    rw[elive] at hlv
    exact hx.2.2.2.2 e.1 ob0 hob hlv
   ·obtain⟨e,ob0,he,hob,rfl,hp⟩:=hg i ob hi
    rw[eβ he] at hβ
    rw[elive] at hlive
    refine⟨ob0,b,AQ6,hlive,AQ6, ?_,rfl⟩
    unfold LD at hk
    grind [aax,AIN,AKO]
   ·obtain⟨e1,ob1,he1,_⟩:=hg i o1 h1
    obtain⟨e2,ob2,he2,_⟩:=hg j o2 h2
    grind [ACy] }
theorem AAO {l:List Oper} {s:MS} {K:MS→Prop} (h:vpD P l.toArray K l s):DrawK P l.toArray s K:=⟨0,.inl ⟨[],s.st,rfl,h⟩⟩
theorem AAR {l:List Oper} {s:MS} {K:MS→Prop} (h:vpE P none l.toArray K l 0 [(0,s.st)] [] s):DrawK P l.toArray s K:=⟨0,.inr (.inl ⟨none,rfl,h⟩)⟩
theorem ACF {l:List Oper} {s:MS} {K:MS→Prop} (j p:Nat) (hf:AEW l.toArray (some (j,p))=true) (h:vpE P (some (j,p)) l.toArray K l 0 [(0,s.st)] [] s):DrawK P l.toArray s K:=⟨0,.inr (.inl ⟨_,hf,h⟩)⟩
theorem DrawX.up:∀ {d:Nat} {ops:Array Oper} {s:MS} {K:MS→Prop},DrawX P d ops s K→DrawX P (d+1) ops s K
 | 0,_,_,_,h=>.inl h
 | _+1,_,_,_,.inl h=>.inl h
 | _+1,_,_,_,.inr ⟨l,e1,e2,σ1,σ2,js,e,hne,h1,k1,.inl hp⟩=>.inr ⟨l,e1,e2,σ1,σ2,js,e,hne,h1,DrawX.up k1,.inl hp⟩
 | _+1,_,_,_,.inr ⟨l,e1,e2,σ1,σ2,js,e,hne,h1,k1,.inr ⟨h2,k2⟩⟩=>.inr ⟨l,e1,e2,σ1,σ2,js,e,hne,h1,DrawX.up k1,.inr ⟨h2,DrawX.up k2⟩⟩
theorem DrawX.le {d:Nat} {ops:Array Oper} {s:MS} {K:MS→Prop} (h:DrawX P d ops s K):∀ k,DrawX P (d+k) ops s K
 | 0=>h
 | k+1=>(DrawX.le h k).up
theorem ACh {l:List Oper} {s:MS} {K:MS→Prop} (e1 e2:Nat) (σ1 σ2:List Nat) (hne:Nat.beq e1 e2=false) (h1:U7 s.n l σ1 e1 e2=true) (h2:U7 s.n l σ2 e2 e1=true)
  (k1:DrawK P (Ij σ1 e1 e2 l).toArray s K) (k2:DrawK P (Ij σ2 e2 e1 l).toArray s K):DrawK P l.toArray s K:=by
 obtain⟨d1,k1⟩:=k1
 obtain⟨d2,k2⟩:=k2
 have k2':=DrawX.le k2 d1
 rw[Nat.add_comm] at k2'
 exact⟨d1+d2+1,.inr ⟨l,e1,e2,σ1,σ2,[],rfl,abL hne,h1,k1.le d2,.inr ⟨h2,k2'⟩⟩⟩
theorem AEG {l:List Oper} {s:MS} {K:MS→Prop} (e1 e2:Nat) (σ js:List Nat) (hne:Nat.beq e1 e2=false) (hp:jI l e1 js=true) (hl:js.getLast?=some e2) (h1:U7 s.n l σ e1 e2=true)
  (k1:DrawK P (Ij σ e1 e2 l).toArray s K):DrawK P l.toArray s K:=by
 obtain⟨d1,k1⟩:=k1
 exact⟨d1+1,.inr ⟨l,e1,e2,σ,σ,js,rfl,abL hne,h1,k1,.inl ⟨hp,hl⟩⟩⟩
theorem jL (h:Core w0 St0 St β s a w) (o:Oper) (hc:o.op.operands.toList.all BD=true) {y:AV} {st':List Ob} (he:FM P s o.op y st') (Q:Exit→Act→World→Prop) :
  o.wp P a w (fun a' w'=>Sim w0 St0 (MS.put ⟨s.n,s.env,st'⟩ o.dst y) a' w') Q:=by
 have key:TL P o.op o.dst s (fun s'=>s'=MS.put ⟨s.n,s.env,st'⟩ o.dst y):=by
  cases hop:o.op with
  | call c =>
   rw[hop] at he
   simp only[FM] at he
   split at he
   ·rename_i f hcl
    simp only[TL,hcl]
    rcases he with ⟨args,rs,st1,h1,h2,rfl,rfl⟩ | ⟨args,rs,h1,h2,h3,rfl,rfl⟩ | ⟨hin,hs⟩
    ·refine .inl ?_
     rw[h1]
     exact⟨rs,h2,fun _=>rfl⟩
    ·exact .inr (.inl ⟨args,rs,h1,h2,h3,fun _=>rfl⟩)
    ·exact .inr (.inr (.inr ⟨hin,fun w0 St0 St β a w us h1 h2=>(hs w0 St0 St β s a w us rfl h1 h2).mono fun e w' ⟨u,e1,St',β',q1,q2⟩=>⟨u,e1,⟨s.n,s.env,st'⟩,y,rfl,rfl,St',β',q1,q2⟩⟩))
   ·rename_i hne
    simp only[TL]
    split
    ·rename_i f hcl; exact absurd hcl (hne f)
    ·rename_i t hcl
     simp[X7,hcl,JJ,same] at he
    ·rw[he]; rfl
  | _ =>
   rw[hop] at he
   simp only[FM] at he
   simp only[TL]
   rw[he]; rfl
 grind [Oper.wp_mono,step_ok]
theorem U_ {s s':MS} (hst:s'.st=s.st) (o:Op) (heff:ZV o=true) (h:∀ t,.tmp t∈o.operands.toList→CV s'.env t=CV s.env t) {y:AV} {st':List Ob} (hr:FM P s o y st'):FM P s' o y st':=by
 have he:∀ x,x∈o.operands.toList→FC s' x=FC s x:=fun x hx=>oK fun t ht=>h t AQ6
 cases o with
 | call c =>
  have hargs:∀ x∈c.args.toList,FC s' x=FC s x:=fun x hx=>he x (by
   simp only[Op.operands,Call.operands,aaX,lN]
   exact .inr hx)
  have hmap:c.args.toList.map (FC s')=c.args.toList.map (FC s):=aaW hargs
  simp only[FM] at hr ⊢
  split at hr
  ·grind
  ·rename_i hne
   simp only[ZV] at heff
   split at heff
   ·grind
   ·rename_i hcl
    simp only[X7,hcl] at hr ⊢
    split at hr
    ·rename_i x y2 T T' hca hct
     rw[hargs x AQ6,hargs y2 AQ6]
     have ea:∀ T X Y,ABY P s' T X Y=ABY P s T X Y:=fun T X Y=>by simp only[ABY,AGP,ABX,hst]
     have es:∀ T T' X Y,ABZ P s' T T' X Y=ABZ P s T T' X Y:=fun T T' X Y=>by simp only[ABZ,hst]
     grind
    ·cases hr
   ·cases heff
 | alloc T=>simp only[FM,X7,Qv,hst] at hr ⊢; exact hr
 | box T x=>simp only[FM,X7,AGC,hst] at hr ⊢; rw[he x AQ_]; exact hr
 | store T p x=>simp only[FM,X7,ig,hst] at hr ⊢; rw[he p AQ_,he x AQ_]; exact hr
 | makeSlice T l c=>simp only[FM,X7,yO,hst] at hr ⊢; rw[he l AQ_,he c AQ_]; exact hr
 | buildSlice T len ps =>
  have hps:∀ p∈ps.toList,FC s' p.2=FC s p.2:=fun p hp=>he p.2 (by
   simp only[Op.operands]
   grind)
  have key:∀ (l:List (Nat×Operand)),(∀ p∈l,FC s' p.2=FC s p.2)→JC s' l=JC s l:=by
   exact AO7
  simp only[FM,X7,MW,key _ hps,hst] at hr ⊢
  exact hr
 | _=>simp[ZV] at heff
def Bd (E:Nat→Bool) (q:Nat):Prop:=q=0∨∃ e,E e=true∧q=e+1
def XX (P:Program) (n:Nat) (ops:Array Oper) (x:Option (Nat×Nat)) (env:List (Nat×AV)) (R:Nat→AV) (S:Nat→List Ob) (E:Nat→Bool) (m i:Nat) (o:Oper):Prop:=
 ∃ b,tK ops (Bi ops R env (fun _=>true) i) o.guard=some b∧(b=false→R i = .undef∧E i=false∧S (i+1)=S i) ∧
  (b=true→E i=true→ZV o.op=true∧FM P ⟨n,Bi ops R env (fun _=>true) i,S i⟩ o.op (R i) (S (i+1))∧∀ e,E e=true→e<i→(∀ e',e<e'→e'<i→E e'=false)→Bg o e=true∨∃ p,x=some (i,p)∧E p=true∧e≤p) ∧
  (b=true→E i=false→S (i+1)=S i∧∀ q,Bd E q→q≤m→(∀ e,E e=true→Bg o e=true→e<q)→(∀ e oe,e<m→ops[e]?=some oe→E e=true→Bg oe i=true→q≤e) →
   Bz P ⟨n,Bi ops R env (fun _=>true) i,S q⟩ o.op (R i))
theorem Vh {ops:Array Oper} {env:List (Nat×AV)} {R1 R2:Nat→AV}:∀ (m:Nat),(∀ i,i<m→R1 i=R2 i)→Bi ops R1 env (fun _=>true) m=Bi ops R2 env (fun _=>true) m
 | 0,_=>rfl
 | m+1,hm=>by simp only[Bi,Vh m (fun i hi=>hm i AQ2),hm m AQ2]
structure Ghost (P:Program) (w0:Bs) (St0:Nat→Nat→Prop) (T:TypeId) (wg:Bs) (b:Nat):Prop where
 may:w0.may b
 old:BelowB w0 wg.w
 lt:b<wg.heap.size
 own:∀ y,wg.own y↔(w0.may y∧y≠b)
 st:∀ o,¬ St0 b o
 gs:wg.gs=w0.gs
 cells:∃ (zs:List Value) (cs:Array Value),VZ P T=some (zs.map .v)∧ABT zs=true∧wg.heap[b]?=some (.cells cs T (0,0))∧cs.toList=zs
def jM (b:Nat):Value:=.pointer (some ⟨b,0,none⟩)
theorem AGl (h:Core w0 St0 St β s a w) (o:Oper) (T:TypeId) (ho:o.op = .alloc T) {y:AV} {st1 st':List Ob} {n1:Nat} {env1:List (Nat×AV)} (hy:Qv P ⟨n1,env1,st1⟩ T=some (y,st')) (Q:Exit→Act→World→Prop) :
  o.wp P a w (fun a' w'=>∃ wg b,Ghost P w0 St0 T wg b∧Sim wg St0 (MS.put s o.dst (.pin .un (jM b))) a' w') Q:=by
 unfold Qv at hy
 split at hy
 ·rename_i cs0 hz0
  obtain⟨zs,hz,hwf,rfl⟩:=TC hz0
  obtain⟨z,hz1,hz2⟩:=W_ hz w
  have hb:Below w.heap.size w (w.alloc (.cells z.cells T)):=ZQ w _
  have hc:Core w0 St0 St β s a (w.alloc (.cells z.cells T)):=h.grow hb (fun _ _ h=>h) (fun _ _ h _=>h) fun b o hbo=>di (h.stIn b o hbo) hb.size
  have hN:Own w0 (fun x=>x=w.heap.size) (w.alloc (.cells z.cells T)) St s.st β:=h.own.grow hb (fun _ _ h=>h) (fun _ _ h _=>h) h.stIn (fun l ob b h1 h2 h3=>(h.obs l ob b h1 h2 h3).2.1) fun x hx e=>AQ2
  have hw0:=h.below.size
  have hsz:w.heap.size<(w.alloc (.cells z.cells T)).heap.size:=AQ3
  have hrun:(execOp a.eval o).run P w = .ok (.value (jM w.heap.size)) (w.alloc (.cells z.cells T)):=by simp[execOp,ho,Instr.alloc,hz1,newVar,newRow,jM]
  unfold Oper.wp
  rw[hrun]
  refine⟨⟨w.alloc (.cells z.cells T),fun y=>w0.may y∧y≠w.heap.size,w0.gs⟩,w.heap.size,⟨.inl hw0,hc.below,by simp only[Bs.heap]; omega,fun y=>Iff.rfl,fun o hso=>?_,rfl,zs,z.cells,hz0,hwf,alloc_at w _,hz2⟩,St,β, ?_⟩
  ·have:=h.stIn _ _ (h.st0 _ _ hso); omega
  ·refine Core.put (x:=.pin .un (jM w.heap.size)) (u:=jM w.heap.size) ?_ o.dst (by simp[AVR])
   exact {
    defers:=hc.defers
    size:=hc.size
    lim:=hc.lim
    env:=hc.env
    below:=BelowB.refl _ _
    st0:=hc.st0
    stOld:=fun b o hbo hlt hno=>by
     refine h.stOld b o hbo ?_ ?_
     ·rcases bZ b w0.heap.size with h' | h'
      ·exact h'
      ·exact absurd ⟨.inl h',by have:=h.stIn b o hbo; omega⟩ hno
     ·intro h'
      exact hno ⟨.inr h',by have:=h.stIn b o hbo; omega⟩
    stIn:=hc.stIn
    obs:=fun l ob b h1 h2 h3=>by
     obtain⟨q1,q2,q3⟩:=hc.obs l ob b h1 h2 h3
     have:=(h.obs l ob b h1 h2 h3).2.1
     exact⟨.inr ⟨q1,AQ2⟩,q2,q3⟩
    nil:=hc.nil
    inj:=hc.inj
    sep:=hc.sep
    own:=by
     obtain⟨φ,o1,o2,o3⟩:=hN
     refine⟨φ,o1,fun l k x hx=>⟨(o2 l k x hx).1, ?_⟩,o3⟩
     obtain⟨q1,q2,q3⟩:=(o2 l k x hx).2
     exact⟨.inr ⟨q1,q2⟩,fun h=>h,q3⟩ }
 ·cases hy
theorem Ghost.adopt {T:TypeId} {wg:Bs} {b d:Nat} (g:Ghost P w0 St0 T wg b) (h:Core wg St0 St β s a w) {y:AV} {st':List Ob} {n1:Nat} {env1:List (Nat×AV)} (hy:Qv P ⟨n1,env1,s.st⟩ T=some (y,st')) (hp:a.tmps.getD d Go.undef=jM b) :
  ∃ β',Core w0 St0 St β' ⟨s.n,(d,y)::s.env,st'⟩ a w:=by
 have hno:¬ wg.own b:=fun h=>((g.own b).1 h).2 rfl
 have hblk:w.heap[b]?=wg.heap[b]?:=h.below.blk b g.lt hno
 have hw0:w0.heap.size≤wg.heap.size:=g.old.size
 have hwg:wg.heap.size≤w.heap.size:=h.below.size
 have hmay:∀ y,wg.may y→w0.may y∧y≠b:=fun y hy=>by
  rcases hy with hy | hy
  ·exact⟨.inl AQ2,by have:=g.lt; omega⟩
  ·exact(g.own y).1 hy
 have hnown:∀ k,k<w0.heap.size→¬ w0.own k→¬ wg.own k:=fun k h1 h2 h3=>by
  rcases((g.own k).1 h3).1 with h' | h'
  ·omega
  grind
 have hSt:∀ o,¬ St b o:=fun o hbo=>g.st o (h.stOld b o hbo g.lt hno)
 have hN:Own w0 (fun x=>x=b) w St s.st β:=by
  obtain⟨φ,o1,o2,o3⟩:=h.own
  refine⟨φ,o1,fun l k x hx=>⟨(o2 l k x hx).1, ?_⟩,o3⟩
  obtain⟨q1,q2,q3⟩:=(o2 l k x hx).2
  exact⟨(hmay x q1).1,(hmay x q1).2,q3⟩
 have hc:Core w0 St0 St β s a w:={
  defers:=h.defers
  size:=h.size
  lim:=h.lim
  env:=fun i=>by have:=h.env i; unfold nm at this ⊢; rw[← g.gs]; exact this
  below:=g.old.step (n:=0) h.below.rest (fun k h1 h2=>h.below.blk k AQ2 (hnown k h1 h2)) fun k h1=>h.below.siz k AQ2
  st0:=h.st0
  stOld:=fun x o hxo h1 h2=>h.stOld x o hxo AQ2 (hnown x h1 h2)
  stIn:=h.stIn
  obs:=fun l ob x h1 h2 h3=>by
   obtain⟨q1,q2,q3⟩:=h.obs l ob x h1 h2 h3
   grind
  nil:=h.nil
  inj:=h.inj
  sep:=h.sep
  own:=by
   obtain⟨φ,o1,o2,o3⟩:=hN
   refine⟨φ,o1,fun l k x hx=>⟨(o2 l k x hx).1, ?_⟩,o3⟩
   obtain⟨q1,q2,q3⟩:=(o2 l k x hx).2
   exact⟨q1,fun h=>h,q3⟩ }
 obtain⟨zs,cs,hz,hwf,hcs,hcl⟩:=g.cells
 unfold Qv at hy
 rw[hz] at hy
 simp only[ai,bU] at hy
 obtain⟨rfl,rfl⟩:=hy
 obtain⟨h1,h2,_⟩:=hc.addOb ⟨T,(zs.map Cl.v).length,[zs.map .v],true,true⟩ (some b) AQ3 (fun x hx=>by
  simp only[ai] at hx
  subst hx
  refine⟨g.may,AQ6,fun l o2 p1 p2 p3=>?_,fun o hbo=>absurd hbo (hSt o),cs,AQ6,AQ3,fun k c hk=>?_⟩
  ·exact(hmay _ (h.obs l o2 _ p1 p2 p3).1).2 rfl
  ·simp only[lL,aaU,bK,lg,aax] at hk
   obtain⟨v,hv,rfl⟩:=hk
   refine⟨v,AQ6, ?_⟩
   simp only[RdC,RdD,abV]
   exact aS.1 hwf v (bI hv)) hN (fun x hx e=>hx.2.1 AQ6)
 refine⟨_,{ h1 with env:=fun i=>?_ }⟩
 simp only[CV]
 by_cases e:d=i
 ·subst e
  have hd:d<1000000:=by
   rcases bZ d a.tmps.size with h' | h'
   ·exact di h' (by rw[h.size]; exact h.lim)
   ·simp[h',undef,jM] at hp
  simp only[bH]
  rw[Wy hd,hp]
  simp[AVR,jM]
 ·simp only[e,aY]
  exact h1.env i
def TN (R:Nat→AV) (j b:Nat):Nat→AV:=fun i=>if i=j then .pin .un (jM b) else R i
def PhA (w0:Bs) (St0:Nat→Nat→Prop) (n:Nat) (ops:Array Oper) (env:List (Nat×AV)) (R:Nat→AV) (S:Nat→List Ob) (E:Nat→Bool) (listed:Array Bool) (a:Act) (w:World):Prop:=
 ∃ q,Bd E q∧(∀ e,E e=true→(listed.getD e false=true↔e<q))∧Sim w0 St0 ⟨n,Bi ops R env (fun i=>listed.getD i false) ops.size,S q⟩ a w
def PhB (P:Program) (w0:Bs) (St0:Nat→Nat→Prop) (n:Nat) (ops:Array Oper) (env:List (Nat×AV)) (R:Nat→AV) (S:Nat→List Ob) (E:Nat→Bool) (x:Option (Nat×Nat)) (listed:Array Bool) (a:Act) (w:World):Prop:=
 ∃ (j p q b:Nat) (wg:Bs) (T:TypeId) (oj:Oper),x=some (j,p)∧ops[j]?=some oj∧oj.op = .alloc T∧E j=true∧E p=true∧(∀ e,E e=true→e<j→e≤p)∧Bd E q∧q≤p∧listed.getD j false=true ∧
  (∀ e,E e=true→e≠j→(listed.getD e false=true↔e<q))∧Ghost P w0 St0 T wg b∧Sim wg St0 ⟨n,Bi ops (TN R j b) env (fun i=>listed.getD i false) ops.size,S q⟩ a w
theorem tu {ops:Array Oper} {j p:Nat} (h:AEW ops (some (j,p))=true) {oj:Oper} (hoj:ops[j]?=some oj) :
  (∃ T,oj.op = .alloc T)∧oj.after = #[]∧oj.guard=none∧(∃ d,oj.dst=some d)∧p<j∧∀ (i:Nat) (o:Oper),ops[i]?=some o→Bg o j=true→Bg o p=true:=by
 simp only[AEW,hoj,az,bC] at h
 obtain⟨⟨⟨⟨⟨h1,h2⟩,h3⟩,h4⟩,h5⟩,h6⟩:=h
 refine⟨?_,AQ6,ASM,Option.isSome_iff_exists.1 h4,h5,fun i o ho hb=>?_⟩
 ·cases hop:oj.op with
  | alloc T=>grind
  | _=>rw[hop] at h1; cases h1
 grind
theorem AEb {ops:Array Oper} {n:Nat} (hok:GZ n ops=true) (hops:(ops.toList.all fun o=>o.op.operands.toList.all BD)=true) (env:List (Nat×AV)) (R:Nat→AV) (S:Nat→List Ob) (E:Nat→Bool) (x:Option (Nat×Nat)) (hx:AEW ops x=true)
  (hR:∀ (i:Nat) (o:Oper),ops[i]?=some o→XX P n ops x env R S E ops.size i o) (hE:∀ e,E e=true→e<ops.size)
  (Q:Exit→Act→World→Prop) (hQ:∀ a w,Sim w0 St0 ⟨n,Bi ops R env (fun _=>true) ops.size,S ops.size⟩ a w→Q .normal a w) :
  ∀ (fuel:Nat) (listed:Array Bool) (a:Act) (w:World),listed.size=ops.size→listed.toList.countP (fun b=>!b)≤fuel →
   (∀ (i:Nat) (o:Oper),listed.getD i false=true→ops[i]?=some o→∀ e∈o.after,Region.binds .any e=true→listed.getD e.on false=true) →
   PhA w0 St0 n ops env R S E listed a w∨PhB P w0 St0 n ops env R S E x listed a w→wpAny P .any ops Q fuel listed a w:=by
 have hdst:=jD hok
 have hstay:∀ (d i:Nat),i+d≤ops.size→(∀ e,i≤e→e<i+d→E e=false)→S (i+d)=S i:=by
  intro d
  induction d with
  | zero=>intro i _ _; rfl
  | succ d ih =>
   intro i hi hno
   have hlt:i+d<ops.size:=AQ2
   obtain⟨b,_,h1,h2,h3⟩:=hR (i+d) ops[i+d] (by simp[hlt])
   have hf:=hno (i+d) AQ2 AQ2
   have e1:S (i+d+1)=S (i+d):=by
    cases b with
    | true=>exact(h3 rfl hf).1
    | false=>exact(h1 rfl).2.2
   rw[show i+(d+1)=i+d+1 from AQ2,e1]
   exact ih i AQ2 fun e he1 he2=>hno e he1 AQ2
 have hstay2:∀ i j,i≤j→j≤ops.size→(∀ e,i≤e→e<j→E e=false)→S j=S i:=fun i j h1 h2 h3=>by
  have:=hstay (j-i) i AQ2 (fun e he1 he2=>h3 e he1 AQ2)
  rwa [show i+(j-i)=j from AQ2] at this
 have hall:∀ (listed:Array Bool) (a:Act) (w:World),(∀ i,i<ops.size→listed.getD i false=true)→PhA w0 St0 n ops env R S E listed a w∨PhB P w0 St0 n ops env R S E x listed a w→Q .normal a w:=by
  rintro listed a w hl (⟨q,hb,hq,hs⟩ | ⟨j,p,q,b,wg,T,oj,hxx,hoj,hopj,hEj,hEp,hle,hb,hqp,hlj,hq,hg,hs⟩)
  ·have hqs:q≤ops.size:=by
    rcases hb with rfl | ⟨e,he,rfl⟩
    ·omega
    ·exact hE e he
   have eS:S ops.size=S q:=hstay2 q ops.size hqs (aI _) fun e h1 h2=>by
    cases hc:E e with
    | false=>rfl
    | true=>have:=(hq e hc).1 (hl e h2); omega
   refine hQ a w (hs.congr rfl eS fun t=>?_)
   exact ANX
  ·subst hxx
   have hpj:=(tu hx hoj).2.2.2.2.1
   have:=(hq p hEp AQ2).1 (hl p (hE p hEp))
   omega
 have hready:∀ (listed:Array Bool),Region.ready .any ops listed = []→listed.size=ops.size→∀ i,i<ops.size→listed.getD i false=true:=by
  intro listed hr hsz i
  induction i using Nat.strongRecOn with
  | _ i ih =>
   intro hi
   cases hc:listed.getD i false with
   | true=>rfl
   | false =>
    exfalso
    have:i∈Region.ready .any ops listed:=by
     rw[mem_ready]
     refine⟨?_,ops[i],ASb,fun e he hb=>?_⟩
     ·have hi':i<listed.size:=by omega
      simp[hi'] at hc ⊢
      exact hc
     ·have:=(Gn hok (i:=i) (o:=ops[i]) ASb).1 e he hb
      exact ih e.on this AQ2
    rw[hr] at this
    cases this
 intro fuel
 induction fuel with
 | zero =>
  intro listed a w hsz hcnt hcl hs
  have hl:∀ i,i<ops.size→listed.getD i false=true:=by
   exact AOP
  refine⟨?_,hall listed a w hl hs⟩
  apply List.eq_nil_iff_forall_not_mem.2
  intro i hi
  rw[mem_ready] at hi
  obtain⟨h1,o,ho,_⟩:=hi
  have hi':i<ops.size:=(bT.1 ho).1
  have h2:=hl i hi'
  have hi2:i<listed.size:=AQ2
  simp[hi2] at h1 h2
  rw[h1] at h2; cases h2
 | succ fuel ih =>
  intro listed a w hsz hcnt hcl hs
  refine⟨fun hr=>hall listed a w (hready listed hr hsz) hs,fun i hi=>?_⟩
  rw[mem_ready] at hi
  obtain⟨hun,o,ho,hafter⟩:=hi
  have hi':i<ops.size:=(bT.1 ho).1
  have hi2:i<listed.size:=AQ2
  have hun':listed.getD i false=false:=by
   exact AQm
  have hread:∀ (R':Nat→AV),(∀ k,Bg o k=true→R' k=R k)→∀ t∈TJ ops o,CV (Bi ops R' env (fun i=>listed.getD i false) ops.size) t=CV (Bi ops R env (fun _=>true) i) t:=by
   intro R' hRR t ht
   by_cases hj:∃ (j:Nat),(ops[j]?).bind (·.dst)=some t
   ·obtain⟨j,hj⟩:=hj
    cases hoj:ops[j]? with
    | none=>simp[hoj] at hj
    | some oj =>
     have hjd:oj.dst=some t:=by simpa [hoj] using hj
     have hjs:j<ops.size:=(bT.1 hoj).1
     rcases Nat.lt_trichotomy j i with h1 | h1 | h1
     ·have hb:=(PO hok hoj ho hjd ht AQ2).1 h1
      have hl:=Dc hb hafter
      rw[GH (X:=fun i=>listed.getD i false) hdst hj hl ops.size hjs,GH (X:=fun _=>true) hdst hj rfl i h1]
      exact hRR j hb
     ·subst h1
      rw[BR (X:=fun i=>listed.getD i false) ops.size (fun k _ hk=>by have:=hdst k j t hk hj; subst this; exact hun'),
       BR (X:=fun _=>true) j (fun k hk hkd=>by have:=hdst k j t hkd hj; omega)]
     ·have hb:=(PO hok hoj ho hjd ht AQ2).2 h1
      have hl:listed.getD j false=false:=by
       cases hc:listed.getD j false with
       | false=>rfl
       | true =>
        have:=Dc hb (hcl j oj hc hoj)
        rw[this] at hun'; cases hun'
      rw[BR (X:=fun i=>listed.getD i false) ops.size (fun k _ hk=>by have:=hdst k j t hk hj; subst this; exact hl),
       BR (X:=fun _=>true) i (fun k hk hkd=>by have:=hdst k j t hkd hj; omega)]
   ·rw[BR (X:=fun i=>listed.getD i false) ops.size (fun k _ hk=>(hj ⟨k,hk⟩).elim),BR (X:=fun _=>true) i (fun k _ hk=>(hj ⟨k,hk⟩).elim)]
  obtain⟨b,hb1,hb2,hb3,hb4⟩:=hR i o ho
  have hfin:∀ (a':Act) (w':World),PhA w0 St0 n ops env R S E (listed.setIfInBounds i true) a' w'∨PhB P w0 St0 n ops env R S E x (listed.setIfInBounds i true) a' w'→wpAny P .any ops Q fuel (listed.setIfInBounds i true) a' w':=by
   intro a' w' hph
   refine ih _ a' w' (by simpa using hsz) ?_ ?_ hph
   ·have hset:(listed.setIfInBounds i true).toList=listed.toList.set i true:=by simp
    rw[hset,List.countP_set (by simpa using hi2)]
    have hv:listed.toList[i]'(by simpa using hi2)=false:=by simpa [hi2] using hun'
    rw[hv]
    have hpos:0<listed.toList.countP (fun b=>!b):=List.countP_pos_iff.2 ⟨listed.toList[i]'(by simpa using hi2),aj _,by rw[hv]; rfl⟩
    simp only[aH,bH,aO,ay,aY]
    omega
   ·intro j oj hj hoj e he hbd
    rw[JF hi2] at hj ⊢
    by_cases e1:i=j
    ·subst e1
     rw[ho] at hoj
     simp only[ai] at hoj
     subst hoj
     have:=hafter e he hbd
     rw[this]; simp
    ·simp only[e1,aY] at hj
     have:=hcl j oj hj hoj e he hbd
     rw[this]; simp
  have hput:∀ (wb:Bs) (R':Nat→AV) (st:List Ob) (a':Act) (w':World),Sim wb St0 (MS.put ⟨n,Bi ops R' env (fun i=>listed.getD i false) ops.size,st⟩ o.dst (R' i)) a' w'→Sim wb St0 ⟨n,Bi ops R' env (fun j=>(listed.setIfInBounds i true).getD j false) ops.size,st⟩ a' w':=by
   intro wb R' st a' w' hsim
   refine hsim.congr ?_ ?_ fun t=>?_
   ·exact AOe
   ·exact AOe
   ·have hX:(fun j=>(listed.setIfInBounds i true).getD j false)=fun j=>if i=j then true else listed.getD j false:=funext fun j=>JF hi2
    rw[hX]
    cases hd:o.dst with
    | none =>
     simp only[MS.put]
     by_cases hj:∃ (j:Nat),(ops[j]?).bind (·.dst)=some t
     ·obtain⟨j,hj⟩:=hj
      have hjs:j<ops.size:=by
       exact AQV
      have hne:i≠j:=fun e=>by subst e; simp[ho,hd] at hj
      exact AKA
     ·exact AOY
    | some d =>
     have hdn:=(Gn hok ho).2 d hd
     have hid:(ops[i]?).bind (·.dst)=some d:=by simp[ho,hd]
     simp only[MS.put,hdn,bH,CV]
     by_cases e1:d=t
     ·subst e1
      simp only[bH]
      rw[GH (X:=fun j=>if i=j then true else listed.getD j false) hdst hid AQ3 ops.size hi']
     ·simp only[e1,aY]
      by_cases hj:∃ (j:Nat),(ops[j]?).bind (·.dst)=some t
      ·obtain⟨j,hj⟩:=hj
       have hjs:j<ops.size:=by
        exact AQV
       have hne:i≠j:=fun e=>by subst e; rw[hid] at hj; exact e1 (yH hj)
       exact AKA
      ·exact AOY
  have hset:∀ (q q':Nat),(∀ e,E e=true→(e<q'↔(e<q∨e=i)))→∀ e,E e=true→(listed.getD e false=true↔e<q)→((listed.setIfInBounds i true).getD e false=true↔e<q'):=by
   intro q q' hqq e he hq
   rw[JF hi2,hqq e he,← hq]
   by_cases e1:i=e
   ·simp[e1]
   ·have e2:¬ e=i:=fun h=>e1 h.symm
    simp[e1,e2]
  have hkeep:∀ (q:Nat),E i=false→∀ e,E e=true→(listed.getD e false=true↔e<q)→((listed.setIfInBounds i true).getD e false=true↔e<q):=fun q hEi=>hset q q fun e he=>⟨.inl,fun h=>h.elim id fun h=>by subst h; rw[hEi] at he; cases he⟩
  have hmix:∀ (R':Nat→AV),(∀ k,Bg o k=true→R' k=R k)→(∀ t,.tmp t∈o.op.operands.toList→CV (Bi ops R' env (fun i=>listed.getD i false) ops.size) t=CV (Bi ops R env (fun _=>true) i) t):=fun R' hRR t ht=>hread R' hRR t (by
   simp only[TJ,lN]
   left
   rw[List.mem_filterMap]
   exact⟨.tmp t,ht,rfl⟩)
  unfold wpOp
  rcases hs with ⟨q,hbd,hq,St,β,hcore⟩ | ⟨j,p,q,bg,wg,T,oj,hxx,hoj,hopj,hEj,hEp,hle,hbd,hqp,hlj,hq,hg,St,β,hcore⟩
  ·
   have hop:=hmix R fun _ _=>rfl
   have hg1:=hb1
   rw[← YW (hread R fun _ _=>rfl)] at hg1
   have hwant:=tN hcore (o:=o) hg1
   simp only[ho,hwant]
   cases b with
   | false =>
    simp only[ay,aY]
    obtain⟨g1,g2,g3⟩:=hb2 rfl
    refine hfin _ _ (.inl ⟨q,hbd,fun e he=>hkeep q g2 e he (hq e he),hput _ _ _ _ _ ⟨St,β,hcore.put o.dst ?_⟩⟩)
    rw[g1]
    simp only[AVR]
   | true =>
    simp only[bH]
    left
    cases hEi:E i with
    | false =>
     obtain⟨g1,g2⟩:=hb4 rfl hEi
     have hqs:q≤ops.size:=by
      exact AQw
     have hd:=g2 q hbd hqs (fun e he hbt=>(hq e he).1 (Dc hbt hafter)) (fun e oe _ hoe he hbt=>by
      rcases bZ e q with h' | h'
      ·have:=(hq e he).2 h'
       exact AQt
      ·exact h')
     have hstep:=Qw (P:=P) (s:=⟨n,Bi ops R env (fun _=>true) i,S q⟩) (s':=⟨n,Bi ops R env (fun i=>listed.getD i false) ops.size,S q⟩) rfl o.op hop (R i) hd
     exact Oper.wp_mono (fun a' w' hs=>hfin a' w' (.inl ⟨q,hbd,fun e he=>hkeep q hEi e he (hq e he),hput _ _ _ _ _ hs⟩)) (YV hcore o (Mc hops ho) hstep Q)
    | true =>
     obtain⟨g1,g2,g3⟩:=hb3 rfl hEi
     have hiq:q≤i:=by
      have:¬ i<q:=fun h'=>by have:=(hq i hEi).2 h'; rw[this] at hun'; cases hun'
      omega
     have heff:(∀ e,E e=true→e<i→e<q)→o.wp P a w (fun a' w'=>wpAny P .any ops Q fuel (listed.setIfInBounds i true) a' w') Q:=by
      intro hprev
      have eS:S i=S q:=hstay2 q i hiq AQ2 fun e x1 x2=>by
       exact AQp
      rw[eS] at g2
      have hstep:=U_ (P:=P) (s:=⟨n,Bi ops R env (fun _=>true) i,S q⟩) (s':=⟨n,Bi ops R env (fun i=>listed.getD i false) ops.size,S q⟩) rfl o.op g1 hop g2
      exact Oper.wp_mono (fun a' w' hs=>hfin a' w' (.inl ⟨i+1,.inr ⟨i,hEi,rfl⟩,fun e he=>hset q (i+1) (fun e he=>⟨fun h=>by
       rcases bZ e i with h' | h'
       ·exact .inl (hprev e he h')
       ·exact .inr AQ2,fun h=>by
       rcases h with h | h
       ·omega
       ·omega⟩) e he (hq e he),hput _ _ _ _ _ hs⟩)) (jL hcore o (Mc hops ho) hstep Q)
     by_cases hxi:∃ p,x=some (i,p)∧E p=true∧(∀ e,E e=true→e<i→e≤p)∧¬ p<q
     ·
      obtain⟨p,hxx,hEp,hle,hpq⟩:=hxi
      subst hxx
      obtain⟨⟨T,hT⟩,_,_,_,hpi,_⟩:=tu hx ho
      rw[hT] at g2
      simp only[FM,X7] at g2
      refine Oper.wp_mono (fun a' w' hs=>?_) (AGl hcore o T hT g2 Q)
      obtain⟨wg,bg,hgh,hsim⟩:=hs
      refine hfin a' w' (.inr ⟨i,p,q,bg,wg,T,o,rfl,ho,hT,hEi,hEp,hle,hbd,AQ2,by rw[JF hi2]; simp,fun e he hne=>?_,hgh, ?_⟩)
      ·rw[JF hi2]
       have e1:¬ i=e:=fun h=>hne h.symm
       simp only[e1,aY]
       exact hq e he
      ·refine hput wg (TN R i bg) (S q) a' w' ?_
       have e1:TN R i bg i = .pin .un (jM bg):=by simp[TN]
       rw[e1]
       refine hsim.congr ?_ ?_ fun t=>?_
       ·exact AOe
       ·exact AOe
       ·have e2:∀ m,Bi ops (TN R i bg) env (fun i=>listed.getD i false) m=Bi ops R env (fun i=>listed.getD i false) m:=by
         intro m
         induction m with
         | zero=>rfl
         | succ m ihm =>
          simp only[Bi,ihm]
          by_cases hm:m=i
          ·subst hm
           simp only[hun',ay,aY]
          ·simp only[TN,hm,aY]
        rw[e2]
     ·refine heff ?_
      have key:∀ d e,i-e≤d→E e=true→e<i→e<q:=by
       intro d
       induction d with
       | zero=>intro e h1 _ h3; omega
       | succ d ihd =>
        intro e h1 he hei
        by_cases hex:∃ e',e<e'∧e'<i∧E e'=true
        ·exact AQv
        ·have hbt:=g3 e he hei fun e' x1 x2=>by
          exact AQf
         rcases hbt with hbt | ⟨p,hp1,hp2,hp3⟩
         ·exact(hq e he).1 (Dc hbt hafter)
         ·have hpq:p<q:=by
           rcases bZ p q with h' | h'
           ·exact h'
           ·refine absurd ⟨p,hp1,hp2,fun e' he' hei'=>?_,AQ2⟩ hxi
            have:e'≤e:=by
             rcases bZ e e' with h2 | h2
             ·exact absurd ⟨e',h2,hei',he'⟩ hex
             ·exact h2
            omega
          omega
      exact fun e he hei=>key (i-e) e (aI _) he hei
  ·
   subst hxx
   obtain⟨_,haft,_,⟨d,hd⟩,hpj,hbp⟩:=tu hx hoj
   have hnj:i≠j:=fun e=>by subst e; rw[hlj] at hun'; cases hun'
   have hpl:listed.getD p false=false:=by
    cases hc:listed.getD p false with
    | false=>rfl
    | true=>have:=(hq p hEp AQ2).1 hc; omega
   have hnb:Bg o j=false:=by
    cases hc:Bg o j with
    | false=>rfl
    | true =>
     have:=Dc (hbp i o ho hc) hafter
     rw[this] at hpl; cases hpl
   have hRR:∀ k,Bg o k=true→TN R j bg k=R k:=fun k hk=>by
    have:¬ k=j:=fun e=>by subst e; rw[hnb] at hk; cases hk
    simp only[TN,this,aY]
   have hop:=hmix (TN R j bg) hRR
   have hRi:TN R j bg i=R i:=by simp only[TN,hnj,aY]
   have hg1:=hb1
   rw[← YW (hread (TN R j bg) hRR)] at hg1
   have hwant:=tN hcore (o:=o) hg1
   have hlj':(listed.setIfInBounds i true).getD j false=true:=by rw[JF hi2,hlj]; simp
   simp only[ho,hwant]
   cases b with
   | false =>
    simp only[ay,aY]
    obtain⟨g1,g2,g3⟩:=hb2 rfl
    refine hfin _ _ (.inr ⟨j,p,q,bg,wg,T,oj,rfl,hoj,hopj,hEj,hEp,hle,hbd,hqp,hlj',fun e he hne=>hkeep q g2 e he (hq e he hne),hg,hput _ _ _ _ _ ⟨St,β,hcore.put o.dst ?_⟩⟩)
    rw[hRi,g1]
    simp only[AVR]
   | true =>
    simp only[bH]
    left
    cases hEi:E i with
    | false =>
     obtain⟨g1,g2⟩:=hb4 rfl hEi
     have hqs:q≤ops.size:=by
      exact AQw
     have hd2:=g2 q hbd hqs (fun e he hbt=>(hq e he (fun h=>by subst h; rw[hnb] at hbt; cases hbt)).1 (Dc hbt hafter)) (fun e oe _ hoe he hbt=>by
      by_cases hej:e=j
      ·omega
      ·rcases bZ e q with h' | h'
       ·have:=(hq e he hej).2 h'
        exact AQt
       ·exact h')
     have hstep:=Qw (P:=P) (s:=⟨n,Bi ops R env (fun _=>true) i,S q⟩) (s':=⟨n,Bi ops (TN R j bg) env (fun i=>listed.getD i false) ops.size,S q⟩) rfl o.op hop (R i) hd2
     exact Oper.wp_mono (fun a' w' hs=>hfin a' w' (.inr ⟨j,p,q,bg,wg,T,oj,rfl,hoj,hopj,hEj,hEp,hle,hbd,hqp,hlj',fun e he hne=>hkeep q hEi e he (hq e he hne),hg,hput _ _ _ _ _ (by rw[hRi]; exact hs)⟩)) (YV hcore o (Mc hops ho) hstep Q)
    | true =>
     obtain⟨g1,g2,g3⟩:=hb3 rfl hEi
     have hlisted:∀ e,E e=true→e<i→(∀ e',e<e'→e'<i→E e'=false)→listed.getD e false=true∧e≠j:=fun e he hei hno=>by
      rcases g3 e he hei hno with hbt | ⟨p',hp1,_,_⟩
      ·exact⟨Dc hbt hafter,fun h=>by subst h; rw[hnb] at hbt; cases hbt⟩
      ·simp only[ai,bU] at hp1
       exact absurd hp1.1.symm hnj
     have key:∀ d e,i-e≤d→E e=true→e<i→e<q:=by
      intro d
      induction d with
      | zero=>intro e h1 _ h3; omega
      | succ d ihd =>
       intro e h1 he hei
       by_cases hex:∃ e',e<e'∧e'<i∧E e'=true
       ·exact AQv
       ·obtain⟨y1,y2⟩:=hlisted e he hei fun e' x1 x2=>by
         exact AQf
        exact(hq e he y2).1 y1
     have hprev:∀ e,E e=true→e<i→e<q:=fun e he hei=>key (i-e) e (aI _) he hei
     have hij:i<j:=by
      rcases bZ i j with h' | h'
      ·exact h'
      ·have:=hprev j hEj AQ2; omega
     have hip:i≤p:=hle i hEi hij
     have hiq:q≤i:=by
      have:¬ i<q:=fun h'=>by have:=(hq i hEi hnj).2 h'; rw[this] at hun'; cases hun'
      omega
     have eS:S i=S q:=hstay2 q i hiq AQ2 fun e x1 x2=>by
      exact AQp
     rw[eS] at g2
     have hstep:=U_ (P:=P) (s:=⟨n,Bi ops R env (fun _=>true) i,S q⟩) (s':=⟨n,Bi ops (TN R j bg) env (fun i=>listed.getD i false) ops.size,S q⟩) rfl o.op g1 hop g2
     refine Oper.wp_mono (fun a' w' hs=>hfin a' w' ?_) (jL hcore o (Mc hops ho) hstep Q)
     have hs2:Sim wg St0 ⟨n,Bi ops (TN R j bg) env (fun j=>(listed.setIfInBounds i true).getD j false) ops.size,S (i+1)⟩ a' w':=hput _ _ _ _ _ (by rw[hRi]; exact hs)
     have hq2:∀ e,E e=true→e≠j→((listed.setIfInBounds i true).getD e false=true↔e<i+1):=fun e he hne=>hset q (i+1) (fun e he=>⟨fun h=>by
      rcases bZ e i with h' | h'
      ·exact .inl (hprev e he h')
      ·exact .inr AQ2,fun h=>by
      rcases h with h | h
      ·omega
      ·omega⟩) e he (hq e he hne)
     by_cases hpi:i=p
     ·
      left
      subst hpi
      obtain⟨bj,hj1,hj2,hj3,_⟩:=hR j oj hoj
      have hbj:bj=true:=by
       cases bj with
       | true=>rfl
       | false=>have:=(hj2 rfl).2.1; rw[hEj] at this; cases this
      obtain⟨_,k2,_⟩:=hj3 hbj hEj
      rw[hopj] at k2
      simp only[FM,X7] at k2
      have eSj:S j=S (i+1):=hstay2 (i+1) j AQ2 (Nat.le_of_lt (hE j hEj)) fun e x1 x2=>by
       cases hc:E e with
       | false=>rfl
       | true=>have:=hle e hc x2; omega
      rw[eSj] at k2
      obtain⟨St2,β2,hc2⟩:=hs2
      have hjd:(ops[j]?).bind (·.dst)=some d:=by simp[hoj,hd]
      have hpt:a'.tmps.getD d Go.undef=jM bg:=by
       have:=hc2.env d
       rw[GH (X:=fun j=>(listed.setIfInBounds i true).getD j false) hdst hjd hlj' ops.size (hE j hEj)] at this
       simp only[TN,bH,AVR] at this
       rw[← Wy (w0:=wg) (di ((Gn hok hoj).2 d hd) hc2.lim)]
       exact this.1
      obtain⟨β3,hc3⟩:=hg.adopt hc2 k2 hpt
      refine⟨j+1,.inr ⟨j,hEj,rfl⟩,fun e he=>?_,⟨St2,β3,hc3.congr rfl rfl fun t=>?_⟩⟩
      ·by_cases hej:e=j
       ·subst hej; rw[hlj']; simp
       ·rw[hq2 e he hej]
        constructor
        ·intro h; omega
        ·intro h
         have:=hle e he AQ2
         omega
      ·simp only[CV]
       by_cases e1:d=t
       ·subst e1
        simp only[bH]
        rw[GH (X:=fun j=>(listed.setIfInBounds i true).getD j false) hdst hjd hlj' ops.size (hE j hEj)]
       ·simp only[e1,aY]
        by_cases hjx:∃ (k:Nat),(ops[k]?).bind (·.dst)=some t
        ·obtain⟨k,hk⟩:=hjx
         have hks:k<ops.size:=by
          cases hok2:ops[k]? with
          | none=>simp[hok2] at hk
          | some ok=>exact(bT.1 hok2).1
         have hkj:¬ k=j:=fun e=>by subst e; rw[hjd] at hk; exact e1 (yH hk)
         cases hl:(listed.setIfInBounds i true).getD k false with
         | true =>
          rw[GH (X:=fun j=>(listed.setIfInBounds i true).getD j false) hdst hk hl ops.size hks,GH (X:=fun j=>(listed.setIfInBounds i true).getD j false) hdst hk hl ops.size hks]
          simp only[TN,hkj,aY]
         | false =>
          rw[BR (X:=fun j=>(listed.setIfInBounds i true).getD j false) ops.size (fun m _ hm=>by have:=hdst m k t hm hk; subst this; exact hl),BR (X:=fun j=>(listed.setIfInBounds i true).getD j false) ops.size (fun m _ hm=>by have:=hdst m k t hm hk; subst this; exact hl)]
        ·rw[BR (X:=fun j=>(listed.setIfInBounds i true).getD j false) ops.size (fun m _ hm=>(hjx ⟨m,hm⟩).elim),BR (X:=fun j=>(listed.setIfInBounds i true).getD j false) ops.size (fun m _ hm=>(hjx ⟨m,hm⟩).elim)]
     ·right
      exact⟨j,p,i+1,bg,wg,T,oj,rfl,hoj,hopj,hEj,hEp,hle,.inr ⟨i,hEi,rfl⟩,AQ2,hlj',hq2,hg,hs2⟩
structure InvE (P:Program) (n:Nat) (ops:Array Oper) (x:Option (Nat×Nat)) (env:List (Nat×AV)) (k:Nat) (R:Nat→AV) (S:Nat→List Ob) (E:Nat→Bool) (H:List (Nat×List Ob)) (pd:List PE):Prop where
 below:∀ e,E e=true→e<k
 hist:∀ q,Bd E q→(q,S q)∈H
 histB:∀ h∈H,Bd E h.1
 head:∃ q0 st0 H',H=(q0,st0)::H'∧∀ e,E e=true→e<q0
 pend:∀ (i:Nat) (o:Oper),i<k→ops[i]?=some o→tK ops (Bi ops R env (fun _=>true) i) o.guard=some true→E i=false→(∀ e oe,ops[e]?=some oe→E e=true→Bg oe i=false)→(⟨i,o.op,Bi ops R env (fun _=>true) i,R i⟩:PE)∈pd
 spec:∀ (i:Nat) (o:Oper),i<k→ops[i]?=some o→XX P n ops x env R S E k i o
theorem oO {E:Nat→Bool} {o:Oper} {q:Nat} (hq:∀ e,E e=true→Bg o e=true→e<q):∀ {H:List (Nat×List Ob)},(∀ h∈H,Bd E h.1)→YY o q H=true
 | [],_=>rfl
 | h::H,hB=>by
  simp only[YY,az,aaY,bC]
  refine⟨?_,oO hq fun h' hh=>hB h' (by simp[hh])⟩
  rcases hB h AQ3 with h0 | ⟨e,he,h1⟩
  ·left; omega
  grind
theorem oP {n:Nat} {env:List (Nat×AV)} {o:Oper} {r:AV} {H:List (Nat×List Ob)}:∀ {G:List (Nat×List Ob)},YZ P n env o r H G→∀ h∈G,YY o h.1 H=true→Bz P ⟨n,env,h.2⟩ o.op r
 | [],_,h,hh,_=>by simp at hh
 | g::G,hp,h,hh,ha=>by
  simp only[YZ,CondK] at hp
  rcases Rx.1 hh with rfl | hh
  ·grind
  ·exact oP hp.2 h hh ha
theorem oQ {n:Nat} {oe:Oper} {st':List Ob}:∀ {ps:List PE},Ya P n oe st' ps→∀ p∈ps,Bg oe p.i=false→Bz P ⟨n,p.env,st'⟩ p.o p.r
 | [],_,p,hp,_=>by simp at hp
 | q::ps,h,p,hp,hb=>by
  simp only[Ya,CondK] at h
  rcases Rx.1 hp with rfl | hp
  ·grind
  ·exact oQ h.2 p hp hb
theorem oU {oe:Oper}:∀ {ps:List PE} {p:PE},p∈ps→Bg oe p.i=false→p∈Vg oe ps
 | [],p,h,_=>ARa
 | q::ps,p,h,hb=>by
  simp only[Vg]
  rcases Rx.1 h with rfl | h
  ·rw[hb]; simp
  ·have:=oU h hb
   grind
theorem ABj {n:Nat} {ops:Array Oper} {x:Option (Nat×Nat)} {K:MS→Prop} (hok:GZ n ops=true) (env:List (Nat×AV)):∀ (l:List Oper) (k:Nat) (R:Nat→AV) (S:Nat→List Ob) (E:Nat→Bool) (H:List (Nat×List Ob)) (pd:List PE),(∀ j,l[j]?=ops[k+j]?)→k+l.length=ops.size →
  InvE P n ops x env k R S E H pd→vpE P x ops K l k H pd ⟨n,Bi ops R env (fun _=>true) k,S k⟩ →
  ∃ (R':Nat→AV) (S':Nat→List Ob) (E':Nat→Bool),K ⟨n,Bi ops R' env (fun _=>true) ops.size,S' ops.size⟩∧S' 0=S 0∧(∀ e,E' e=true→e<ops.size)∧∀ (i:Nat) (o:Oper),ops[i]?=some o→XX P n ops x env R' S' E' ops.size i o:=by
 intro l
 induction l with
 | nil =>
  intro k R S E H pd hl hk hI h
  simp only[bV,abu] at hk
  subst hk
  exact⟨R,S,E,h,rfl,hI.below,fun i o ho=>hI.spec i o (bT.1 ho).1 ho⟩
 | cons o l ih =>
  intro k R S E H pd hl hk hI h
  have ho:ops[k]?=some o:=by simpa using(hl 0).symm
  have hks:k<ops.size:=(bT.1 ho).1
  have hEk:∀ e,k≤e→E e=false:=fun e he=>by
   cases hc:E e with
   | false=>rfl
   | true=>have:=hI.below e hc; omega
  simp only[vpE,U6,gE,AGe,CondK] at h
  have hSk:∀ st',(fun j=>if j≤k then S j else S k) (k+1)=(fun j=>if j≤k then S j else st') k:=fun st'=>by
   have h1:¬ k+1≤k:=AQ2
   simp only[h1,aY,aI,bH]
  have put:∀ (r:AV) (st':List Ob),MS.put ⟨n,Bi ops R env (fun _=>true) k,st'⟩ o.dst r=⟨n,Bi ops (fun i=>if i=k then r else R i) env (fun _=>true) (k+1),st'⟩:=fun r st'=>by
   have e1:=Vh (ops:=ops) (env:=env) (R1:=fun i=>if i=k then r else R i) (R2:=R) k (fun i hi=>AQ5)
   simp only[Bi,ho,abH,e1]
   cases hd:o.dst with
   | none=>simp only[MS.put]
   | some d =>
    have:=(Gn hok ho).2 d hd
    simp[MS.put,this]
  have go:∀ (r:AV) (st':List Ob) (eff:Bool) (H':List (Nat×List Ob)) (pd':List PE),vpE P x ops K l (k+1) H' pd' (MS.put ⟨n,Bi ops R env (fun _=>true) k,st'⟩ o.dst r) →
    InvE P n ops x env (k+1) (fun i=>if i=k then r else R i) (fun j=>if j≤k then S j else st') (fun i=>if i=k then eff else E i) H' pd' →
    ∃ (R':Nat→AV) (S':Nat→List Ob) (E':Nat→Bool),K ⟨n,Bi ops R' env (fun _=>true) ops.size,S' ops.size⟩∧S' 0=S 0∧(∀ e,E' e=true→e<ops.size)∧∀ (i:Nat) (o:Oper),ops[i]?=some o→XX P n ops x env R' S' E' ops.size i o:=by
   intro r st' eff H' pd' hv hI'
   rw[put] at hv
   have e2:st'=(fun j=>if j≤k then S j else st') (k+1):=(bu AQ2).symm
   rw[e2] at hv
   obtain⟨R',S',E',x1,x2,x3,x4⟩:=ih (k+1) _ _ _ H' pd' (fun j=>by
    have:=hl (j+1)
    simpa [Nat.add_assoc,Nat.add_comm 1 j] using this) (by simp only[bz] at hk; omega) hI' hv
   exact⟨R',S',E',x1,by simpa using x2,x3,x4⟩
  have hag:∀ (r:AV) (i:Nat),i≤k→Bi ops (fun i=>if i=k then r else R i) env (fun _=>true) i=Bi ops R env (fun _=>true) i:=fun r i hi=>Vh i fun j hj=>AQ5
  have keepSpec:∀ (r:AV) (st':List Ob) (eff:Bool),(eff=true→∀ (i:Nat) (oi:Oper),i<k→ops[i]?=some oi→tK ops (Bi ops R env (fun _=>true) i) oi.guard=some true→E i=false→(∀ e oe,ops[e]?=some oe→E e=true→Bg oe i=false)→Bg o i=false→Bz P ⟨n,Bi ops R env (fun _=>true) i,st'⟩ oi.op (R i)) →
    ∀ (i:Nat) (oi:Oper),i<k→ops[i]?=some oi→XX P n ops x env (fun i=>if i=k then r else R i) (fun j=>if j≤k then S j else st') (fun i=>if i=k then eff else E i) (k+1) i oi:=by
   intro r st' eff hnew i oi hi hoi
   obtain⟨b,s1,s2,s3,s4⟩:=hI.spec i oi hi hoi
   have hne:¬ i=k:=AQ2
   have hle:i≤k:=AQ2
   have hle1:i+1≤k:=AQ2
   refine⟨b,by rw[hag r i hle]; exact s1,fun hb=>?_,fun hb he=>?_,fun hb he=>?_⟩
   ·simpa only[hne,aY,hle,hle1,bH] using s2 hb
   ·simp only[hne,aY] at he
    obtain⟨y1,y2,y3⟩:=s3 hb he
    refine⟨y1,by simp only[hne,aY,hle,hle1,bH]; rw[hag r i hle]; exact y2,fun e hee hei hno=>(y3 e ?_ hei fun e' z1 z2=>?_).imp id fun⟨p,hp1,hp2,hp3⟩=>⟨p,hp1, ?_,hp3⟩⟩
    ·have:¬ e=k:=by omega
     simpa only[this,aY] using hee
    ·have:=hno e' z1 z2
     have h2:¬ e'=k:=AQ2
     simpa only[h2,aY] using this
    ·have:¬ p=k:=by have:=hI.below p hp2; omega
     simpa only[this,aY] using hp2
   ·simp only[hne,aY] at he
    obtain⟨y1,y2⟩:=s4 hb he
    refine⟨by simpa only[hle,hle1,bH] using y1,fun q hbd hq hpast hfut=>?_⟩
    simp only[hne,aY]
    rw[hag r i hle]
    have hpast':∀ e,E e=true→Bg oi e=true→e<q:=fun e hee hbt=>hpast e (by
     have:¬ e=k:=by have:=hI.below e hee; omega
     simpa only[this,aY] using hee) hbt
    by_cases hqk:q≤k
    ·simp only[hqk,bH]
     refine y2 q ?_ hqk hpast' fun e oe hek hoe hee hbt=>hfut e oe AQ2 hoe (by
      have:¬ e=k:=AQ2
      simpa only[this,aY] using hee) hbt
     rcases hbd with rfl | ⟨e,hee,rfl⟩
     ·exact .inl rfl
     ·have:¬ e=k:=by omega
      simp only[this,aY] at hee
      exact .inr ⟨e,hee,rfl⟩
    ·have hq2:q=k+1:=by omega
     subst hq2
     have hek:eff=true:=by
      rcases hbd with h0 | ⟨e,hee,h1⟩
      ·omega
      ·have:e=k:=by omega
       subst this
       simpa using hee
     simp only[hqk,aY]
     subst hb
     refine hnew hek i oi hi hoi s1 he (fun e oe hoe hee=>?_) ?_
     ·cases hc:Bg oe i with
      | false=>rfl
      | true =>
       have h2:=hI.below e hee
       have:=hfut e oe AQ2 hoe (by
        have:¬ e=k:=AQ2
        simpa only[this,aY] using hee) hc
       omega
     ·cases hc:Bg o i with
      | false=>rfl
      | true =>
       have:=hfut k o AQ2 ho (by simpa using hek) hc
       omega
  have readInv:∀ (r:AV) (pd':List PE),(∀ p∈pd,p∈pd')→(tK ops (Bi ops R env (fun _=>true) k) o.guard=some true→(⟨k,o.op,Bi ops R env (fun _=>true) k,r⟩:PE)∈pd') →
    XX P n ops x env (fun i=>if i=k then r else R i) (fun j=>if j≤k then S j else S k) (fun i=>if i=k then false else E i) (k+1) k o→InvE P n ops x env (k+1) (fun i=>if i=k then r else R i) (fun j=>if j≤k then S j else S k) (fun i=>if i=k then false else E i) H pd':=by
   intro r pd' hpd hnewp hs
   have hEE:∀ e,(if e=k then false else E e)=true↔E e=true:=fun e=>by
    by_cases h':e=k
    ·subst h'; simp[hEk e (aI _)]
    ·simp[h']
   have hBd:∀ q,Bd (fun i=>if i=k then false else E i) q↔Bd E q:=fun q=>by
    unfold Bd
    simp only[hEE]
   refine⟨fun e he=>?_,fun q hq=>?_,fun h hh=>(hBd _).2 (hI.histB h hh), ?_,fun i oi hi hoi hg hE0 hno=>?_,fun i oi hi hoi=>?_⟩
   ·have:=hI.below e ((hEE e).1 he); omega
   ·have hq':=(hBd q).1 hq
    have hqk:q≤k:=by
     rcases hq' with rfl | ⟨e,he,rfl⟩
     ·omega
     ·exact hI.below e he
    simp only[hqk,bH]
    exact hI.hist q hq'
   ·obtain⟨q0,st0,H',e1,e2⟩:=hI.head
    exact⟨q0,st0,H',e1,fun e he=>e2 e ((hEE e).1 he)⟩
   ·rcases bZ i k with h' | h'
    ·have hne:¬ i=k:=by omega
     simp only[hne,aY] at hE0 ⊢
     rw[hag r i AQ2] at hg ⊢
     exact hpd _ (hI.pend i oi h' hoi hg hE0 fun e oe hoe hee=>hno e oe hoe ((hEE e).2 hee))
    ·have:i=k:=by omega
     subst this
     rw[ho] at hoi
     cases hoi
     rw[hag r i (aI _)] at hg ⊢
     simpa using hnewp hg
   ·rcases bZ i k with h' | h'
    ·exact keepSpec r (S k) false (fun h=>AR0) i oi h' hoi
    ·have:i=k:=by omega
     subst this
     rw[ho] at hoi
     cases hoi
     exact hs
  split at h
  ·rename_i b hb
   cases b with
   | false =>
    refine go .undef (S k) false H pd (h.2 rfl) (readInv .undef pd (fun _ h=>h) (fun hg=>by rw[hb] at hg; cases hg) ?_)
    unfold XX
    refine⟨false,by rw[hag _ k (aI _)]; exact hb,fun _=>⟨AQ3,AQ3,hSk (S k)⟩,fun h=>Bool.noConfusion h,fun h=>Bool.noConfusion h⟩
   | true =>
    have h1:=h.1 rfl
    cases heff:ZV o.op with
    | false =>
     obtain⟨r,hr1,hr2,hr3⟩:=h1.2 heff
     refine go r (S k) false H _ hr3 (readInv r _ (fun p hp=>abD _ hp) (fun _=>List.mem_cons_self ..) ?_)
     unfold XX
     refine⟨true,by rw[hag _ k (aI _)]; exact hb,fun h=>Bool.noConfusion h,fun _ he=>by simp at he,fun _ _=>⟨hSk (S k),fun q hbd hq hpast hfut=>?_⟩⟩
     have hbd':Bd E q:=by
      rcases hbd with rfl | ⟨e,hee,rfl⟩
      ·exact .inl rfl
      ·by_cases h':e=k
       ·simp[h'] at hee
       ·simp only[h',aY] at hee
        exact .inr ⟨e,hee,rfl⟩
     have hqk:q≤k:=by
      rcases hbd' with rfl | ⟨e,he,rfl⟩
      ·omega
      ·exact hI.below e he
     have hpast':∀ e,E e=true→Bg o e=true→e<q:=fun e hee hbt=>hpast e (by
      have:¬ e=k:=by have:=hI.below e hee; omega
      simpa only[this,aY] using hee) hbt
     simp only[hqk,bH]
     rw[hag r k (aI _)]
     exact oP hr2 (q,S q) (hI.hist q hbd') (oO hpast' hI.histB)
    | true =>
     have h2:=h1.1 heff
     cases hch:Yb x k o H with
     | false=>exact(h2.2 hch).elim
     | true =>
      have h3:=h2.1 hch
      have h4:∃ y st',FM P ⟨n,Bi ops R env (fun _=>true) k,S k⟩ o.op y st'∧AIK P o ⟨n,Bi ops R env (fun _=>true) k,S k⟩ H pd k (vpE P x ops K l (k+1)) y st':=by
       generalize hop:o.op=op at h3
       cases op with
       | call c =>
        simp only[AGd,QS,yZ,U5] at h3
        split at h3
        ·rename_i f hcl
         rcases h3 with h3 | h3 | ⟨y,st',h3,hk2⟩
         rotate_right
         ·refine⟨y,st', ?_,hk2⟩
          simp only[FM,hcl]
          exact .inr (.inr h3)
         ·split at h3
          ·rename_i args st1 hf
           obtain⟨rs,hc,hk2⟩:=h3
           refine⟨_,_, ?_,hk2⟩
           simp only[FM,hcl]
           exact .inl ⟨args,rs,st1,hf,hc,rfl,rfl⟩
          ·exact h3.elim
         ·obtain⟨args,rs,hf,hcl2,hc,hk2⟩:=h3
          refine⟨_,_, ?_,hk2⟩
          simp only[FM,hcl]
          exact .inr (.inl ⟨args,rs,hf,hcl2,hc,rfl,rfl⟩)
        ·rename_i hne
         exact APv
       | _ =>
        simp only[AGd,U5] at h3
        exact APv
      obtain⟨y,st',g1,g2,g3⟩:=h4
      refine go y st' true _ _ g3 ?_
      have hEE:∀ e,(if e=k then true else E e)=true↔(E e=true∨e=k):=fun e=>by
       by_cases h':e=k
       ·simp[h']
       ·simp[h']
      refine⟨fun e he=>?_,fun q hq=>?_,fun h hh=>?_,⟨k+1,st',H,rfl,fun e he=>?_⟩,fun i oi hi hoi hg hE0 hno=>?_,fun i oi hi hoi=>?_⟩
      ·exact AQn
      ·rcases hq with rfl | ⟨e,he,rfl⟩
       ·simp only[au,bH]
        exact abD _ (hI.hist 0 (.inl rfl))
       ·rcases(hEE e).1 he with h' | h'
        ·have:=hI.below e h'
         have h2:e+1≤k:=AQ2
         simp only[h2,bH]
         exact abD _ (hI.hist _ (.inr ⟨e,h',rfl⟩))
        ·subst h'
         have h2:¬ e+1≤e:=AQ2
         simp only[h2,aY]
         exact List.mem_cons_self ..
      ·rcases Rx.1 hh with rfl | hh
       ·exact .inr ⟨k,AQ3,rfl⟩
       ·rcases hI.histB h hh with h0 | ⟨e,he,h1⟩
        ·exact .inl h0
        ·exact .inr ⟨e,(hEE e).2 (.inl he),h1⟩
      ·exact AQn
      ·have hlt:i<k:=by
        rcases bZ i k with h' | h'
        ·exact h'
        ·have:i=k:=by omega
         subst this
         simp at hE0
       have hne:¬ i=k:=AQ2
       simp only[hne,aY] at hE0 ⊢
       rw[hag y i AQ2] at hg ⊢
       refine oU (hI.pend i oi hlt hoi hg hE0 fun e oe hoe hee=>hno e oe hoe ((hEE e).2 (.inl hee))) ?_
       exact hno k o ho AQ3
      ·rcases bZ i k with h' | h'
       ·refine keepSpec y st' true (fun _ j oj hj hoj hg hE0 hno hbo=>?_) i oi h' hoi
        exact oQ g2 _ (hI.pend j oj hj hoj hg hE0 hno) hbo
       ·have:i=k:=by omega
        subst this
        rw[ho] at hoi
        cases hoi
        unfold XX
        refine⟨true,by rw[hag y i (aI _)]; exact hb,fun h=>Bool.noConfusion h,fun _ _=>⟨heff, ?_,fun e hee hei hno=>?_⟩,fun _ he=>by simp at he⟩
        ·have h2:¬ i+1≤i:=by omega
         simp only[aI,bH,h2,aY]
         rw[hag y i (aI _)]
         exact g1
        ·have hne:¬ e=i:=by omega
         simp only[hne,aY] at hee
         obtain⟨q0,st0,H',e1,e2⟩:=hI.head
         have hb0:=hI.histB (q0,st0) (by rw[e1]; exact List.mem_cons_self ..)
         rw[e1] at hch
         rcases hb0 with h0 | ⟨e0,he0,h1⟩
         ·have:=e2 e hee
          simp only at h0
          omega
         ·simp only at h1
          have hlt:=e2 e hee
          have hi0:=hI.below e0 he0
          have hold:chainB o ((q0,st0)::H')=true→Bg o e=true:=fun hch=>by
           by_cases heq:e=e0
           ·subst heq
            simp only[chainB,h1] at hch
            exact hch
           ·have:=hno e0 AQ2 hi0
            have hne0:¬ e0=i:=AQ2
            simp only[hne0,aY] at this
            rw[he0] at this; cases this
          cases x with
          | none=>exact .inl (hold hch)
          | some jp =>
           obtain⟨j,p⟩:=jp
           simp only[Yb] at hch
           by_cases hij:i=j
           ·subst hij
            simp only[bH,tq,bC] at hch
            have hp:e0=p:=AQ2
            subst hp
            have hne0:¬ e0=i:=AQ2
            exact .inr ⟨e0,rfl,by simp only[hne0,aY]; exact he0,AQ2⟩
           ·rw[bu hij] at hch
            exact .inl (hold hch)
  ·exact h.elim
theorem t_ {ops:Array Oper} {x:Option (Nat×Nat)} (hx:AEW ops x=true) (hok:GZ s.n ops=true) (hops:(ops.toList.all fun o=>o.op.operands.toList.all BD)=true) (h:Core w0 St0 St β s a w) {K:MS→Prop} (hK:vpE P x ops K ops.toList 0 [(0,s.st)] [] s) :
  wpAny P .any ops (fun e a' w'=>e = .normal∧∃ s',K s'∧s'.n=s.n∧Sim w0 St0 s' a' w') ops.size (Array.replicate ops.size false) a { w with drawn:=w.drawn+1 }:=by
 have hI:InvE P s.n ops x s.env 0 (fun _=>.un) (fun _=>s.st) (fun _=>false) [(0,s.st)] []:=by
  refine⟨fun e he=>?_,fun q hq=>?_,fun h hh=>?_,⟨0,s.st,[],rfl,fun e he=>?_⟩,fun i o hi=>?_,fun i o hi=>?_⟩
  ·cases he
  ·rcases hq with rfl | ⟨e,he,_⟩
   ·simp
   ·cases he
  ·simp only[Rx,List.not_mem_nil,or_false] at hh
   subst hh
   exact .inl rfl
  ·cases he
  ·omega
  ·omega
 obtain⟨R,S,E,hKs,hS0,hE,hR⟩:=ABj (K:=K) hok s.env ops.toList 0 (fun _=>.un) (fun _=>s.st) (fun _=>false) [(0,s.st)] [] (fun j=>AQ3) AQ3 hI (by simpa [Bi] using hK)
 have hgrow:Core w0 St0 St β s a { w with drawn:=w.drawn+1 }:=h.grow (w':={ w with drawn:=w.drawn+1 }) ⟨rfl,rfl,rfl,aI _,fun _ _=>rfl⟩ (fun _ _ h=>h) (fun _ _ h _=>h) h.stIn
 have hno:∀ i,(Array.replicate ops.size false).getD i false=false:=fun i=>by
  simp[abf]
  split<;>rfl
 refine AEb (P:=P) (n:=s.n) hok hops s.env R S E x hx hR hE _ (fun a w hs=>⟨rfl,_,hKs,rfl,hs⟩) ops.size (Array.replicate ops.size false) a _ AQ3 ?_ ?_ (.inl ⟨0,.inl rfl,fun e he=>?_, ?_⟩)
 ·grind
 ·grind
 ·grind
 ·refine⟨St,β,hgrow.congr rfl (by rw[hS0]) fun t=>?_⟩
  grind [BR]
theorem ZX {ops:Array Oper} (hok:GZ s.n ops=true) (hops:(ops.toList.all fun o=>o.op.operands.toList.all BD)=true) (h:Core w0 St0 St β s a w) {K:MS→Prop} (hv:AGf P ops s K) :
  ∀ L,IP ops (Array.replicate ops.size false) L→wpOps P ops (fun e a' w'=>e = .normal∧∃ s',K s'∧s'.n=s.n∧Sim w0 St0 s' a' w') L a { w with drawn:=w.drawn+1 }:=by
 intro L hL
 rcases hv with ⟨ls,st',hf,hv⟩ | ⟨x,hx,hv⟩ | hv
 ·obtain⟨St1,h1⟩:=XT ls s.st st' St h hf
  exact Qx L _ _ _ _ (yf AQ2 hops h1 hv) hL
 ·exact Qx L _ _ _ _ (t_ hx hok hops h hv) hL
 ·exact Qx L _ _ _ _ (hv w0 St0 St β a w h) hL
theorem PQ {K:MS→Prop} (h:Core w0 St0 St β s a w):∀ (d:Nat) (ops:Array Oper),GZ s.n ops=true→(ops.toList.all fun o=>o.op.operands.toList.all BD)=true→DrawX P d ops s K →
  ∀ L,IP ops (Array.replicate ops.size false) L→wpOps P ops (fun e a' w'=>e = .normal∧∃ s',K s'∧s'.n=s.n∧Sim w0 St0 s' a' w') L a { w with drawn:=w.drawn+1 }
 | 0,_,hok,hops,hv=>ZX hok hops h hv
 | _+1,_,hok,hops,.inl hv=>ZX hok hops h hv
 | d+1,_,hok,hops,.inr hx=>by
  obtain⟨l,e1,e2,σ1,σ2,js,e,hne,h1,k1,k2⟩:=hx
  subst e
  obtain⟨_,_,d1,o1⟩:=TK h1
  rcases k2 with ⟨hp,hl⟩ | ⟨h2,k2⟩
  ·exact AKN hne hok hp hl h1 (PQ h d _ d1 o1 k1)
  ·obtain⟨_,_,d2,o2⟩:=TK h2
   exact split_ok hne hok h1 h2 (PQ h d _ d1 o1 k1) (PQ h d _ d2 o2 k2)
theorem ACz (hm:P.follows .mixedOrders=true) (n:Nat):∀ (c:Code),codeOk n c=true→∀ (s:MS) (Q:Ex→MS→Prop) (a:Act) (w:World),s.n=n→vp P c s Q→Sim w0 St0 s a w→c.wp P (AMB w0 St0 n Q) a w:=by
 intro c
 induction c with
 | skip=>intro _ s Q a w hn hv hs; exact wp_skip ⟨.normal,s,rfl,hv,hn,hs⟩
 | region id ops draw =>
  intro hc s Q a w hn hv hs
  cases draw with
  | false =>
   simp only[vp] at hv
   simp only[codeOk] at hc
   exact wp_region_list (ABi ops _ (Q .normal) n ops.toList 0 (fun j=>AQ3) hc s a w hn hs hv fun s' a' w' hK hn' hs'=>⟨.normal,s',rfl,hK,hn',hs'⟩)
  | true =>
   simp only[vp] at hv
   simp only[codeOk,az] at hc
   obtain⟨d,hv⟩:=hv
   obtain⟨St,β,h⟩:=hs
   refine wp_mono (a_ hm (PQ h d ops AQ6 hc.1 hv)) ?_
   rintro e a' w' ⟨rfl,s',hK,hn',hs'⟩
   exact⟨.normal,s',rfl,hK,hn'.trans hn,hs'⟩
 | seq x y ihx ihy =>
  intro hc s Q a w hn hv hs
  simp only[codeOk,az] at hc
  simp only[vp] at hv
  refine wp_seq (wp_mono (ihx hc.1 s _ a w hn hv hs) ?_)
  rintro e a' w' ⟨ex,s',rfl,hq,hn',hs'⟩
  cases ex with
  | normal=>exact ihy hc.2 s' Q a' w' hn' hq hs'
  | exit i=>exact⟨.exit i,s',rfl,hq,hn',hs'⟩
  | ret=>exact⟨.ret,s',rfl,hq,hn',hs'⟩
 | cond c x y ihx ihy =>
  intro hc s Q a w hn hv hs
  simp only[codeOk,az] at hc
  simp only[vp,ACu] at hv
  split at hv
  ·rename_i b hev
   obtain⟨St,β,h⟩:=hs
   have he:=CX h c hc.1.1
   rw[hev] at he
   obtain⟨hval,_⟩:=QF he
   exact wp_cond_split hval (fun hb=>ihx hc.1.2 s Q a w hn (hv.1 hb) ⟨St,β,h⟩) (fun hb=>ihy hc.2 s Q a w hn (hv.2 hb) ⟨St,β,h⟩)
  grind
 | block id x ih =>
  intro hc s Q a w hn hv hs
  simp only[codeOk] at hc
  simp only[vp] at hv
  refine wp_block (wp_mono (ih hc s _ a w hn hv hs) ?_)
  rintro e a' w' ⟨ex,s',rfl,hq,hn',hs'⟩
  cases ex with
  | normal=>exact⟨.normal,s',rfl,hq,hn',hs'⟩
  | exit i =>
   simp only[Ex.of,Exit.inBlock]
   simp only[AEX] at hq
   by_cases e:i=id
   ·simp only[e,bH] at hq ⊢
    exact⟨.normal,s',rfl,hq,hn',hs'⟩
   ·simp only[e,aY] at hq ⊢
    exact⟨.exit i,s',rfl,hq,hn',hs'⟩
  | ret=>exact⟨.ret,s',rfl,hq,hn',hs'⟩
 | loop x ih =>
  intro hc s Q a w hn hv hs
  simp only[codeOk] at hc
  simp only[vp] at hv
  obtain⟨H1,H2,A,f,p,μ,hH,⟨x0,t1,t2,hp0⟩,hround⟩:=hv
  refine wp_loop_ghost (fun m a w=>∃ y,μ y=m∧p y∧(f y).n=n∧Sim w0 St0 (f y) a w) (μ x0) ⟨x0,rfl,hp0, ?_, ?_⟩ ?_
  ·exact(hH _ _ t1 t2).1.trans hn
  ·obtain⟨St,β,h⟩:=hs
   exact(hH _ _ t1 t2).2 _ _ _ _ _ _ h
  ·rintro m a w ⟨y,rfl,hp,hny,hsy⟩
   refine wp_mono (ih hc (f y) _ a w hny (hround y hp) hsy) ?_
   rintro e a' w' ⟨ex,s',rfl,hq,hn',hs'⟩
   cases ex with
   | normal =>
    obtain⟨z,u1,u2,u3,u4⟩:=hq
    obtain⟨St,β,h⟩:=hs'
    refine⟨μ z,u4,z,rfl,u3, ?_, ?_⟩
    ·exact(hH _ _ u1 u2).1.trans hn'
    ·exact(hH _ _ u1 u2).2 _ _ _ _ _ _ h
   | exit i=>exact⟨.exit i,s',rfl,hq,hn',hs'⟩
   | ret=>exact⟨.ret,s',rfl,hq,hn',hs'⟩
 | exit id=>intro _ s Q a w hn hv hs; exact wp_exit ⟨.exit id,s,rfl,hv,hn,hs⟩
 | scope x ih =>
  intro hc s Q a w hn hv hs
  simp only[codeOk] at hc
  simp only[vp] at hv
  refine wp_scope_straight (wp_mono (ih hc s Q a w hn hv hs) ?_)
  rintro e a' w' ⟨ex,s',rfl,hq,hn',hs'⟩
  cases ex with
  | normal=>exact⟨.normal,s',rfl,hq,hn',hs'⟩
  | exit i=>exact⟨.exit i,s',rfl,hq,hn',hs'⟩
  | ret=>exact⟨.ret,s',rfl,hq,hn',hs'⟩
 | ret=>intro _ s Q a w hn hv hs; exact wp_ret ⟨.ret,s,rfl,hv,hn,hs⟩
 | _=>intro _ s Q a w _ hv _; simp only[vp] at hv
end Go.Vm
