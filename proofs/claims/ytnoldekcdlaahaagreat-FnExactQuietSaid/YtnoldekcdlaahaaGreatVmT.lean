/- A part. -/
import Derived.Test.YtnoldekcdlaahaaGreatVmSb
import Derived.Deep.LoopGhost
import Derived.Scope
set_option linter.unusedSimpArgs false
set_option linter.unusedVariables false
namespace Go.Vm
open Go.RowKit
variable {P:Program} {w0:Bs} {St0 St:Nat→Nat→Prop} {β:Nat→Option Nat} {s:MS} {a:Act} {w:World}
inductive Ex where
 | normal
 | exit (id:Nat)
 | ret
def CallK (P:Program) (f:FuncId) (args:List AV) (K:List Res→Prop):Prop:=∃ rs,Ctr P f args rs∧(Yy rs→K rs)
def AEF (s:MS) (dst:Option Nat) (K:MS→Prop) (y:AV) (st':List Ob):Prop:=K (MS.put ⟨s.n,s.env,st'⟩ dst y)
def ACI (s:MS) (dst:Option Nat) (K:MS→Prop) (st1:List Ob) (rs:List Res):Prop:=K (MS.put ⟨s.n,s.env,(Iw st1 rs).2⟩ dst (retA (Iw st1 rs).1))
def zO (P:Program) (f:FuncId) (s:MS) (dst:Option Nat) (K:MS→Prop) (args:List AV) (st1:List Ob):Prop:=CallK P f args (ACI s dst K st1)
def MutK (P:Program) (f:FuncId) (s:MS) (args:List AV) (dst:Option Nat) (K:MS→Prop):Prop:=∃ (rest:List AV) (g:Bool) (zs cl:List Cl) (Q:List Cl→List AV→Prop),args=mkA g zs::rest∧(g=true∨zs.length=1) ∧
 OwnL s.st zs cl [] (fun _=>True)∧rest.all ACC=true∧MCtr P f g cl rest Q∧∀ cl' rs,Q cl' rs→(rs.all isV=true∧Yz cl cl')∧K (MS.put ⟨s.n,s.env,JI s.st zs cl'⟩ dst (retA rs))
def Head (s t:MS):Prop:=t.n=s.n∧∀ (w0:Bs) (St0 St:Nat→Nat→Prop) (β:Nat→Option Nat) (a:Act) (w:World),Core w0 St0 St β s a w→∃ St' β',Core w0 St0 St' β' t a w
def PK (A B:Prop):Prop:=A∨B
def BorK (P:Program) (f:FuncId) (s:MS) (x:Option (List AV)) (K:List Res→Prop):Prop:=∃ args rs,x=some args∧rs.all Ji=true∧Ctr P f args rs∧(Yy rs→K rs)
def AJf (P:Program) (x:AV) (y:Option (List AV×List Ob)) (s:MS) (dst:Option Nat) (K:MS→Prop):Prop:=match x,y with
 | .clo f xs,some (args,st1)=>CallK P f (args++xs.map AV.ip) (ACI s dst K st1)
 | _,_=>False
def InlK (P:Program) (f:FuncId) (s:MS) (args:List AV) (dst:Option Nat) (K:MS→Prop):Prop:=CallsIn P f∧∀ (w0:Bs) (St0 St:Nat→Nat→Prop) (β:Nat→Option Nat) (a:Act) (w:World) (us:List Value),Core w0 St0 St β s a w→AVRs w St s.st β args us →
 Calls P f us.toArray w fun e w'=>∃ u,e = .returned u∧∃ (s':MS) (x:AV),s'.n=s.n∧K (s'.put dst x)∧∃ St' β',Core w0 St0 St' β' s' a w'∧AVR w' St' s'.st β' x u
def RH (P:Program) (op:Op) (dst:Option Nat) (s:MS) (K:MS→Prop):Prop:=match op with
 | .call c=>match c.callee with
  | .value (.func f)=>PK (uz (XI s.st (c.args.toList.map (Ew s))) (zO P f s dst K)) (PK (BorK P f s (Tf s.st (c.args.toList.map (Ew s))) (ACI s dst K s.st)) (PK (MutK P f s (c.args.toList.map (Ew s)) dst K) (InlK P f s (c.args.toList.map (Ew s)) dst K)))
  | .value (.tmp t)=>AJf P (unpin (Cb s.env t)) (XI s.st (c.args.toList.map (Ew s))) s dst K
  | _=>Ti (WZ P s (.call c)) (AEF s dst K)
 | op=>Ti (WZ P s op) (AEF s dst K)
def gO (P:Program) (o:Oper) (K:MS→Prop) (s:MS) (b:Bool):Prop:=CondK b (RH P o.op o.dst s K) (K (s.put o.dst .undef))
theorem AFs {P:Program} {o:Oper} {K:MS→Prop} {s:MS}:gO P o K s true=RH P o.op o.dst s K:=Kq
theorem AEG {P:Program} {o:Oper} {K:MS→Prop} {s:MS}:gO P o K s false=K (s.put o.dst .undef):=Lh
theorem ADo {P:Program} {o:Oper} {K:MS→Prop} {s:MS} {b:Bool} (h1:b=true→RH P o.op o.dst s K) (h2:b=false→K (s.put o.dst .undef)):gO P o K s b:=AEw h1 h2
def vpO (P:Program) (ops:Array Oper) (K:MS→Prop):List Oper→MS→Prop
 | [],s=>K s
 | o::rest,s=>Tj (pF ops s.env o.guard) (gO P o (vpO P ops K rest) s)
def vpR (P:Program) (ops:Array Oper) (K:MS→Prop) (s:MS):Prop:=vpO P ops K ops.toList s
theorem AFt {P:Program} {l:List Oper} {K:MS→Prop} {s:MS}:vpR P l.toArray K s=vpO P l.toArray K l s:=rfl
def YN (st:List Ob):List Nat→Option (List Ob)
 | []=>some st
 | l::ls=>match DT st l with
  | some ob=>if G5 ob.xs then YN (Qi st l) ls else none
  | none=>none
def Jw (N:Nat):Cl→Bool
 | .ref l=>decide (l<N)
 | _=>true
mutual
def Na (N:Nat):AV→Bool
 | .c x=>Jw N x
 | .agg xs=>xs.all (Jw N)
 | .lp l _ _=>decide (l<N)
 | .tup xs=>ZL N xs
 | .pin x _=>Na N x
 | _=>true
def ZL (N:Nat):List AV→Bool
 | []=>true
 | x::xs=>Na N x&&ZL N xs
end
def BD (N:Nat) (ob:Ob):Bool:=G5 ob.xs||ob.xs.all fun x=>x.all (Jw N)
def trim (N:Nat) (keys:List Nat) (s:MS):MS:=⟨s.n,keys.map fun k=>(k,Cb s.env k),s.st.take N⟩
def QB (N:Nat) (keys:List Nat) (s:MS):Prop:=(keys.all fun k=>Na N (Cb s.env k))=true∧((s.st.take N).all (BD N))=true
def LoopK (s:MS) (body:MS→(MS→Prop)→Prop):Prop:=
 ∃ (H1:MS→Prop) (H2:MS→MS→Prop) (A:Type) (f:A→MS) (p:A→Prop) (μ:A→Nat),(∀ s t,H1 s→H2 s t→Head s t)∧(∃ x,H1 s∧H2 s (f x)∧p x) ∧
  ∀ x,p x→body (f x) fun s'=>∃ y,H1 s'∧H2 s' (f y)∧p y∧μ y<μ x
def Em:List (Nat×Bool)→Nat→Nat
 | [],_=>0
 | x::xs,l=>if x.1=l then 0 else Em xs l+1
def jR:List (Nat×Bool)→Nat→Bool
 | [],_=>false
 | x::xs,l=>decide (x.1=l)||jR xs l
def TU (sel:List (Nat×Bool)):Cl→Cl
 | .ref l=>.ref (Em sel l)
 | c=>c
def inC (sel:List (Nat×Bool)):Cl→Bool
 | .ref l=>jR sel l
 | _=>true
mutual
def rnA (sel:List (Nat×Bool)):AV→AV
 | .c x=>.c (TU sel x)
 | .agg xs=>.agg (xs.map (TU sel))
 | .lp l i off=>.lp (Em sel l) i off
 | .tup xs=>.tup (AEH sel xs)
 | .ip xs=>.ip xs
 | .undef=>.undef
 | .un=>.un
 | .pin x u=>.pin (rnA sel x) u
 | .clo f xs=>.clo f xs
def AEH (sel:List (Nat×Bool)):List AV→List AV
 | []=>[]
 | x::xs=>rnA sel x::AEH sel xs
end
mutual
def inA (sel:List (Nat×Bool)):AV→Bool
 | .c x=>inC sel x
 | .agg xs=>xs.all (inC sel)
 | .lp l _ _=>jR sel l
 | .tup xs=>AFu sel xs
 | .pin x _=>inA sel x
 | _=>true
def AFu (sel:List (Nat×Bool)):List AV→Bool
 | []=>true
 | x::xs=>inA sel x&&AFu sel xs
end
def KF (sel:List (Nat×Bool)) (r:Bool) (ob:Ob):Ob:=if r=true then⟨ob.ty,ob.sz,ob.xs.map (fun x=>x.map (TU sel)),ob.wr,ob.live⟩ else ob
def Qb (sel:List (Nat×Bool)) (st:List Ob):List (Nat×Bool)→List Ob
 | []=>[]
 | e::r=>(match st[e.1]? with | some ob=>KF sel e.2 ob | none=>default)::Qb sel st r
def rel (sel:List (Nat×Bool)) (keys:List Nat) (s:MS):MS:=⟨s.n,keys.map fun k=>(k,rnA sel (Cb s.env k)),Qb sel s.st sel⟩
def Vk (sel:List (Nat×Bool)) (st:List Ob):List (Nat×Bool)→Prop
 | []=>True
 | e::r=>(match st[e.1]? with | some ob=>(if e.2=true then(ob.xs.all fun x=>x.all (inC sel)) else G5 ob.xs)=true | none=>False)∧Vk sel st r
def AFv:List (Nat×Bool)→Bool
 | []=>true
 | x::xs=>!jR xs x.1&&AFv xs
def Tn (sel:List (Nat×Bool)) (keys:List Nat) (s:MS):Prop:=AFv sel=true∧(keys.all fun k=>inA sel (Cb s.env k))=true∧Vk sel s.st sel
def YO:Op→Bool
 | .call c=>match c.callee with
  | .value (.func _)=>true
  | .builtin .append=>true
  | _=>false
 | .alloc _=>true
 | .box _ _=>true
 | .store _ _ _=>true
 | .makeSlice _ _ _=>true
 | .buildSlice _ _ _=>true
 | _=>false
def Ez (P:Program) (s:MS) (o:Op) (y:AV) (st':List Ob):Prop:=match o with
 | .call c=>match c.callee with
  | .value (.func f)=>(∃ args rs st1,XI s.st (c.args.toList.map (Ew s))=some (args,st1)∧Ctr P f args rs∧y=retA (Iw st1 rs).1∧st'=(Iw st1 rs).2) ∨
    (∃ args rs,Tf s.st (c.args.toList.map (Ew s))=some args∧rs.all Ji=true∧Ctr P f args rs∧y=retA (Iw s.st rs).1∧st'=(Iw s.st rs).2)∨InlS P f s.st (c.args.toList.map (Ew s)) y st'
  | _=>WZ P s (.call c)=some (y,st')
 | op=>WZ P s op=some (y,st')
structure PE where
 i:Nat
 o:Op
 env:List (Nat×AV)
 r:AV
def XP (o:Oper) (q:Nat):List (Nat×List Ob)→Bool
 | []=>true
 | h::H=>(decide (h.1≤q) || !Be o (h.1-1))&&XP o q H
def XQ (P:Program) (n:Nat) (env:List (Nat×AV)) (o:Oper) (r:AV) (H:List (Nat×List Ob)):List (Nat×List Ob)→Prop
 | []=>True
 | h::G=>CondK (XP o h.1 H) (CU P ⟨n,env,h.2⟩ o.op r) True∧XQ P n env o r H G
def XR (P:Program) (n:Nat) (oe:Oper) (st':List Ob):List PE→Prop
 | []=>True
 | p::ps=>CondK (Be oe p.i) True (CU P ⟨n,p.env,st'⟩ p.o p.r)∧XR P n oe st' ps
def UU (oe:Oper):List PE→List PE
 | []=>[]
 | p::ps=>match Be oe p.i with
  | true=>UU oe ps
  | false=>p::UU oe ps
def chainB (o:Oper):List (Nat×List Ob)→Bool
 | []=>false
 | h::_=>match h.1 with
  | 0=>true
  | q+1=>Be o q
def pO (p:Nat):List (Nat×List Ob)→Bool
 | []=>false
 | h::_=>decide (h.1=p+1)
def XT (x:Option (Nat×Nat)) (i:Nat) (o:Oper) (H:List (Nat×List Ob)):Bool:=match x with
 | none=>chainB o H
 | some (j,p)=>if i=j then pO p H else chainB o H
def AFw:Op→Bool
 | .alloc _=>true
 | _=>false
def zQ (ops:Array Oper):Option (Nat×Nat)→Bool
 | none=>true
 | some (j,p)=>match ops[j]? with
  | some o=>AFw o.op&&o.after.isEmpty&&o.guard.isNone&&o.dst.isSome&&decide (p<j)&&ops.toList.all fun o'=>!Be o' j||Be o' p
  | none=>false
def CallE (P:Program) (f:FuncId) (args:List AV) (K:List Res→Prop):Prop:=∃ rs,Ctr P f args rs∧K rs
def BorE (P:Program) (f:FuncId) (x:Option (List AV)) (K:List Res→Prop):Prop:=∃ args rs,x=some args∧rs.all Ji=true∧Ctr P f args rs∧K rs
def AFx (K:AV→List Ob→Prop) (st1:List Ob) (rs:List Res):Prop:=K (retA (Iw st1 rs).1) (Iw st1 rs).2
def InlE (P:Program) (f:FuncId) (st:List Ob) (args:List AV) (K:AV→List Ob→Prop):Prop:=∃ y st',InlS P f st args y st'∧K y st'
def AEI (P:Program) (f:FuncId) (K:AV→List Ob→Prop) (args:List AV) (st1:List Ob):Prop:=CallE P f args (AFx K st1)
def AEJ (P:Program) (s:MS) (o:Op) (K:AV→List Ob→Prop):Prop:=match o with
 | .call c=>match c.callee with
  | .value (.func f)=>PK (uz (XI s.st (c.args.toList.map (Ew s))) (AEI P f K)) (PK (BorE P f (Tf s.st (c.args.toList.map (Ew s))) (AFx K s.st)) (InlE P f s.st (c.args.toList.map (Ew s)) K))
  | _=>Ti (WZ P s (.call c)) K
 | op=>Ti (WZ P s op) K
def AFy (P:Program) (o:Oper) (s:MS) (H:List (Nat×List Ob)) (pd:List PE) (i:Nat) (V:List (Nat×List Ob)→List PE→MS→Prop) (y:AV) (st':List Ob):Prop:=
 XR P s.n o st' pd∧V ((i+1,st')::H) (UU o pd) (MS.put ⟨s.n,s.env,st'⟩ o.dst y)
def rdP (P:Program) (o:Oper) (s:MS) (H:List (Nat×List Ob)) (pd:List PE) (i:Nat) (V:List (Nat×List Ob)→List PE→MS→Prop) (r:AV):Prop:=
 XQ P s.n s.env o r H H∧V H (⟨i,o.op,s.env,r⟩::pd) (s.put o.dst r)
def AEK (P:Program) (x:Option (Nat×Nat)) (o:Oper) (s:MS) (H:List (Nat×List Ob)) (pd:List PE) (i:Nat) (V:List (Nat×List Ob)→List PE→MS→Prop) (e:Bool):Prop:=
 CondK e (CondK (XT x i o H) (AEJ P s o.op (AFy P o s H pd i V)) False) (DrK P s o.op (rdP P o s H pd i V))
def gE (P:Program) (x:Option (Nat×Nat)) (o:Oper) (s:MS) (H:List (Nat×List Ob)) (pd:List PE) (i:Nat) (V:List (Nat×List Ob)→List PE→MS→Prop) (b:Bool):Prop:=
 CondK b (AEK P x o s H pd i V (YO o.op)) (V H pd (s.put o.dst .undef))
def vpE (P:Program) (x:Option (Nat×Nat)) (ops:Array Oper) (K:MS→Prop):List Oper→Nat→List (Nat×List Ob)→List PE→MS→Prop
 | [],_,_,_,s=>K s
 | o::rest,i,H,pd,s=>Tj (pF ops s.env o.guard) (gE P x o s H pd i (vpE P x ops K rest (i+1)))
def AJg (P:Program) (ops:Array Oper) (s:MS) (K:MS→Prop):Prop:=∀ (w0:Bs) (St0 St:Nat→Nat→Prop) (β:Nat→Option Nat) (a:Act) (w:World),Core w0 St0 St β s a w →
 wpAny P .any ops (fun e a' w'=>e = .normal∧∃ s',K s'∧s'.n=s.n∧Sim w0 St0 s' a' w') ops.size (Array.replicate ops.size false) a { w with drawn:=w.drawn+1 }
def AEL (P:Program) (ops:Array Oper) (s:MS) (K:MS→Prop):Prop:=(∃ ls st',YN s.st ls=some st'∧vpD P ops K ops.toList ⟨s.n,s.env,st'⟩)∨(∃ x,zQ ops x=true∧vpE P x ops K ops.toList 0 [(0,s.st)] [] s)∨AJg P ops s K
def DrawX (P:Program):Nat→Array Oper→MS→(MS→Prop)→Prop
 | 0,ops,s,K=>AEL P ops s K
 | d+1,ops,s,K=>AEL P ops s K∨∃ (l:List Oper) (e1 e2:Nat) (σ1 σ2 js:List Nat),ops=l.toArray∧e1≠e2∧Tm s.n l σ1 e1 e2=true∧DrawX P d (II σ1 e1 e2 l).toArray s K∧((eP l e1 js=true∧js.getLast?=some e2)∨(Tm s.n l σ2 e2 e1=true∧DrawX P d (II σ2 e2 e1 l).toArray s K))
def DrawK (P:Program) (ops:Array Oper) (s:MS) (K:MS→Prop):Prop:=∃ d,DrawX P d ops s K
def ACM (id:Nat) (Q:Ex→MS→Prop):Ex→MS→Prop
 | .normal,s=>Q .normal s
 | .exit i,s=>if i=id then Q .normal s else Q (.exit i) s
 | .ret,s=>Q .ret s
def AEM (K:MS→Prop) (Q:Ex→MS→Prop):Ex→MS→Prop
 | .normal,s=>K s
 | .exit i,s=>Q (.exit i) s
 | .ret,s=>Q .ret s
def AJh (V:MS→(Ex→MS→Prop)→Prop) (Q:Ex→MS→Prop):Ex→MS→Prop
 | .normal,s=>V s Q
 | .exit i,s=>Q (.exit i) s
 | .ret,s=>Q .ret s
def cndM (V W:MS→(Ex→MS→Prop)→Prop) (s:MS) (Q:Ex→MS→Prop) (b:Bool):Prop:=CondK b (V s Q) (W s Q)
theorem ACN {V W:MS→(Ex→MS→Prop)→Prop} {s:MS} {Q:Ex→MS→Prop}:cndM V W s Q true=V s Q:=Kq
theorem zS {V W:MS→(Ex→MS→Prop)→Prop} {s:MS} {Q:Ex→MS→Prop}:cndM V W s Q false=W s Q:=Lh
theorem cndM.mk {V W:MS→(Ex→MS→Prop)→Prop} {s:MS} {Q:Ex→MS→Prop} {b:Bool} (h1:b=true→V s Q) (h2:b=false→W s Q):cndM V W s Q b:=AEw h1 h2
def AJi (V:MS→(Ex→MS→Prop)→Prop) (Q:Ex→MS→Prop) (s1:MS) (K:MS→Prop):Prop:=V s1 (AEM K Q)
def vp (P:Program):Code→MS→(Ex→MS→Prop)→Prop
 | .skip,s,Q=>Q .normal s
 | .region _ ops false,s,Q=>vpR P ops (Q .normal) s
 | .region _ ops true,s,Q=>DrawK P ops s (Q .normal)
 | .seq x y,s,Q=>vp P x s (AJh (vp P y) Q)
 | .cond c x y,s,Q=>AAx (Ew s c) (cndM (vp P x) (vp P y) s Q)
 | .block id x,s,Q=>vp P x s (ACM id Q)
 | .loop x,s,Q=>LoopK s (AJi (vp P x) Q)
 | .exit id,s,Q=>Q (.exit id) s
 | .scope x,s,Q=>vp P x s Q
 | .ret,s,Q=>Q .ret s
 | _,_,_=>False
def AGm (ops:Array Oper):Bool:=ops.toList.all fun o=>o.op.operands.toList.all Au
def codeOk (n:Nat):Code→Bool
 | .region _ ops false=>AGm ops
 | .region _ ops true=>AGm ops&&FP n ops
 | .seq x y=>codeOk n x&&codeOk n y
 | .cond c x y=>Au c&&codeOk n x&&codeOk n y
 | .block _ x=>codeOk n x
 | .loop x=>codeOk n x
 | .scope x=>codeOk n x
 | _=>true
def Ex.of:Ex→Exit
 | .normal=>.normal
 | .exit i=>.exit i
 | .ret=>.ret
def AJj (w0:Bs) (St0:Nat→Nat→Prop) (n:Nat) (Q:Ex→MS→Prop):Exit→Act→World→Prop:=fun e a w=>∃ x s,e=Ex.of x∧Q x s∧s.n=n∧Sim w0 St0 s a w
theorem YP (s:MS) (d:Option Nat) (v:AV):(s.put d v).n=s.n:=by
 cases d with
 | none=>rfl
 | some d=>simp only[MS.put]; split<;>rfl
theorem step_ok (h:Core w0 St0 St β s a w) (o:Oper) (hc:o.op.operands.toList.all Au=true) {K:MS→Prop} (hk:RH P o.op o.dst s K) (Q:Exit→Act→World→Prop) :
  o.wp P a w (fun a' w'=>∃ s',K s'∧s'.n=s.n∧Sim w0 St0 s' a' w') Q:=by
 have hD:∀ {y:AV} {st':List Ob},WZ P s o.op=some (y,st')→K (MS.put ⟨s.n,s.env,st'⟩ o.dst y)→o.wp P a w (fun a' w'=>∃ s',K s'∧s'.n=s.n∧Sim w0 St0 s' a' w') Q:=fun {y st'} he hK=>by
  obtain⟨nx,v,w',St',β',h1,h2,h3,h4⟩:=zI h o hc he
  unfold Oper.wp
  rw[h1]
  rcases h2 with rfl | ⟨rfl,rfl⟩
  ·exact⟨_,hK,YP _ _ _,St',β',h3.put o.dst h4⟩
  ·exact⟨_,hK,YP _ _ _,St',β',h3.put o.dst h4⟩
 have hF:∀ op,o.op=op→(∀ c,op≠ .call c)→RH P op o.dst s K→o.wp P a w (fun a' w'=>∃ s',K s'∧s'.n=s.n∧Sim w0 St0 s' a' w') Q:=fun op hop hnc hs=>by
  have hs':Ti (WZ P s op) (AEF s o.dst K):=by
   cases op with
   | call c=>exact absurd rfl (hnc c)
   | _=>exact hs
  unfold Ti at hs'
  split at hs'
  ·rename_i y st' he
   exact hD AOk hs'
  grind
 cases hop:o.op with
 | call c =>
  rw[hop] at hk
  simp only[RH,PK,uz,Ti,zO,AEF] at hk
  split at hk
  ·rename_i f hcl
   have hca:c.args.toList.all Au=true:=by
    rw[hop] at hc
    exact ALo
   rcases hk with hk | hk | hk | ⟨hin,hk⟩
   rotate_right
   ·have hcall:=hk w0 St0 St β a w _ h (Jv h c.args.toList hca)
    have ea:(c.args.toList.map a.eval).toArray=c.args.map a.eval:=APW
    rw[ea] at hcall
    unfold Oper.wp
    rw[NZ o c f hop hcl hin]
    simp only[Oper.upon]
    refine hcall.mono fun e w' hb=>?_
    obtain⟨u,rfl,s',x,e1,hK,St',β',h1,h2⟩:=hb
    exact⟨_,hK,(YP _ _ _).trans e1,St',β',h1.put o.dst h2⟩
   rotate_left
   ·obtain⟨args,rs,hf,hclo,hspec,hK⟩:=hk
    obtain⟨φ,hφ⟩:=h.own
    have hargs:=dY h hφ hf (Jv h c.args.toList hca)
    unfold Oper.wp
    rw[NZ o c f hop hcl hspec.1]
    simp only[Oper.upon]
    have hcall:=hspec.2 w _ (c.args.toList.map a.eval) (fun b o hb=>AllSt.lt h hφ hb) hargs
    have ea:(c.args.toList.map a.eval).toArray=c.args.map a.eval:=APW
    rw[ea] at hcall
    refine hcall.mono fun e w' hb=>?_
    obtain⟨us,bs,St2,hb⟩:=hb
    have hb:=hb.clo hclo h.stIn
    obtain⟨β',k1,k2⟩:=RD h hb
    have hwf:Yy rs:=by
     obtain⟨Φs,hr,_⟩:=hb.res
     exact hr.wf
    have e1:=hb.ret
    subst e1
    exact⟨_,hK hwf,YP _ _ _,St,β',k1.put o.dst (LD k2)⟩
   ·obtain⟨rest,g,zs,cl,Q',hargs,hg,ho,hv1,hspec,hK⟩:=hk
    obtain⟨φ,hφ⟩:=h.own
    have he:=Jv h c.args.toList hca
    rw[hargs] at he
    simp only[AVRs] at he
    obtain⟨u,vs,hvals,hu,hvs⟩:=he
    have hus:∃ us:List Value,u=mkV g us∧us.length=zs.length∧∀ (k:Nat) (c:Cl),zs[k]?=some c→∃ y,us[k]?=some y∧RdC w St s.st β c y:=by
     cases g with
     | true =>
      simp only[mkA,aX,AVR] at hu
      obtain⟨us,e1,e2,e3⟩:=hu
      exact⟨us,by simp only[mkV,aX]; exact e1,e2,e3⟩
     | false =>
      have hz1:zs.length=1:=by simpa using hg
      match zs,hz1 with
      | [z],_ =>
       simp only[mkA,aC,aW,AVR,List.headD_cons] at hu
       refine⟨[u],by simp[mkV],rfl,fun k c hk=>?_⟩
       grind
    obtain⟨us,rfl,hul,hur⟩:=hus
    have hrd:=AAy h hφ ho hul hur
    have hGf:∀ (k x:Nat),(∃ l,zs[k]?=some (Cl.ref l)∧Fp s.st β φ l x)→x<w.heap.size∧∀ o,¬ St x o:=fun k x ⟨l,q1,q2⟩=>by
     obtain⟨_,ob,p1,p2,_⟩:=OQ zs cl [] _ ho k l q1
     obtain⟨r1,r2,r3⟩:=Va h hφ q2 fun ob' hob'=>by
      grind [CS]
     grind
    have hcall:=hspec.2.2 w St us _ vs h.stIn hGf hrd (uo hv1 hvs)
    have ea:(mkV g us::vs).toArray=c.args.map a.eval:=by rw[← hvals]; apply abq; simp
    rw[ea] at hcall
    unfold Oper.wp
    rw[NZ o c f hop hcl hspec.1]
    simp only[Oper.upon]
    refine hcall.mono fun e w' hb=>?_
    obtain⟨cl',rs,rv,G',b0,b1,b2,b3,b3s,b7,b8,b9⟩:=hb
    obtain⟨⟨hv2,hsh⟩,hK⟩:=hK cl' rs b0
    subst b1
    have hcore:=AEC h hφ ho hur (fun k x hx=>hx) hsh b2 b3 b3s (fun _ _ h=>h) (fun _ _ h _=>h) (fun b o hb=>bP (h.stIn b o hb) b2.size) b8 (fun k x hx=>by
     rcases b9 k x hx with h9 | ⟨h9,h10⟩
     ·exact .inl h9
     ·exact .inr ⟨h9,h10,fun o ho=>by have:=h.stIn x o ho; omega⟩)
    refine⟨_,hK,YP _ _ _,St,β,hcore.put o.dst (LD ?_)⟩
    have key:∀ (xs:List AV) (us:List Value),RdAs w' St xs us→AVRs w' St (JI s.st zs cl') β xs us:=by
     intro xs
     induction xs with
     | nil=>intro us h; simp only[AVRs]; exact h
     | cons x xs ih =>
      intro us h
      obtain⟨y,ys,h1,h2,h3⟩:=h
      simp only[AVRs]
      exact⟨y,ys,h1,h2.toAVR,ih ys h3⟩
    exact key _ _ b7
   split at hk
   ·rename_i args st1 hf
    obtain⟨rs,hspec,hK⟩:=hk
    obtain⟨St1,q1,q2,q3⟩:=VV _ _ _ _ St h hf
    have hargs:=q3 _ (Jv h c.args.toList hca)
    unfold Oper.wp
    rw[NZ o c f hop hcl hspec.1]
    simp only[Oper.upon]
    have hcall:=hspec.2 w St1 (c.args.toList.map a.eval) q1.stIn hargs
    have ea:(c.args.toList.map a.eval).toArray=c.args.map a.eval:=APW
    exact ALj
   grind
  ·rename_i t hcl
   have hca:c.args.toList.all Au=true:=by
    rw[hop] at hc
    exact ALo
   unfold AJf at hk
   split at hk
   ·rename_i f xs args st1 hev hf
    obtain⟨rs,hspec,hK⟩:=hk
    obtain⟨St1,q1,q2,q3⟩:=VV _ _ _ _ St h hf
    have hargs:=q3 _ (Jv h c.args.toList hca)
    have he:AVR w St s.st β (unpin (Cb s.env t)) (a.eval (.tmp t)):=Cj h (.tmp t) (aP.1 hc _ (by rw[hop]; simp[Op.operands,Call.operands,hcl]))
    rw[hev] at he
    simp only[AVR] at he
    obtain⟨us0,hu0,hul,hur⟩:=he
    have hcap:RdAs w St1 (xs.map AV.ip) us0:=XJ hul fun k c hk=>by
     grind [RdL.mono]
    unfold Oper.wp
    rw[AAw o c f (.tmp t) us0.toArray hop hcl hu0 hspec.1]
    simp only[Oper.upon]
    have hcall:=hspec.2 w St1 (c.args.toList.map a.eval++us0) q1.stIn (dU hargs hcap)
    have ea:(c.args.toList.map a.eval++us0).toArray=c.args.map a.eval++us0.toArray:=APW
    exact ALj
   grind
  grind
 | _=>grind
theorem zT (ops:Array Oper) (Q:Exit→Act→World→Prop) (K:MS→Prop) (n:Nat):∀ (l:List Oper) (k:Nat),(∀ j,l[j]?=ops[k+j]?)→(l.all fun o=>o.op.operands.toList.all Au)=true →
  ∀ (s:MS) (a:Act) (w:World),s.n=n→Sim w0 St0 s a w→vpO P ops K l s→(∀ s' a' w',K s'→s'.n=n→Sim w0 St0 s' a' w'→Q .normal a' w')→wpList P ops Q l a w
 | [],_,_,_,s,a,w,hn,hs,hv,hQ=>hQ s a w hv hn hs
 | o::l,k,hl,hc,s,a,w,hn,hs,hv,hQ=>by
  obtain⟨St,β,h⟩:=hs
  simp only[bC,ay] at hc
  simp only[vpO,Tj,gO] at hv
  split at hv
  ·rename_i b hb
   have hw:=pG h hb
   have hl':∀ j,l[j]?=ops[k+1+j]?:=fun j=>by
    have:=hl (j+1)
    grind
   unfold wpList
   rw[hw]
   cases b with
   | true =>
    simp only[aX]
    left
    exact Oper.wp_mono (fun a' w' ⟨s',hK,hn',hs'⟩=>zT ops Q K n l (k+1) hl' hc.2 s' a' w' (hn'.trans hn) hs' hK hQ) (step_ok h o hc.1 (hv.1 rfl) Q)
   | false =>
    simp only[aC,aW]
    exact zT ops Q K n l (k+1) hl' hc.2 _ _ _ ((YP _ _ _).trans hn) ⟨St,β,h.put o.dst (by simp only[AVR])⟩ (hv.2 rfl) hQ
  grind
theorem eU:∀ (ls:List Nat) (st st':List Ob) (St:Nat→Nat→Prop),Core w0 St0 St β ⟨s.n,s.env,st⟩ a w→YN st ls=some st'→∃ St',Core w0 St0 St' β ⟨s.n,s.env,st'⟩ a w
 | [],st,st',St,h,hf=>by simp only[YN,ak] at hf; grind
 | l::ls,st,st',St,h,hf=>by
  simp only[YN] at hf
  split at hf
  ·rename_i ob hob
   split at hf
   ·rename_i hp
    obtain⟨St1,q1,_⟩:=h.freeze l hob hp
    exact eU ls _ st' St1 q1 hf
   ·cases hf
  ·cases hf
theorem AEN (keys:List Nat) (env:List (Nat×AV)) (i:Nat):Cb (keys.map fun k=>(k,Cb env k)) i=if i∈keys then Cb env i else .un:=by
 induction keys with
 | nil=>simp[Cb]
 | cons k keys ih =>
  simp only[YG,Cb,ih,dh]
  grind
theorem ACO {st:List Ob} {N l:Nat} {u:Value} (hl:l<N) (h:BN w st β l u):BN w (st.take N) β l u:=by
 unfold BN at h ⊢
 grind
theorem RI {st:List Ob} {N:Nat} {c:Cl} {u:Value} (hc:Jw N c=true) (h:RdC w St st β c u):RdC w St (st.take N) β c u:=by
 cases c with
 | ref l=>exact ACO (by simpa [Jw] using hc) h
 | ow ty sz xs=>simp[RdC,RdD] at h
 | v x=>exact h
 | sl xs=>exact h
mutual
theorem eX {st:List Ob} {N:Nat}:∀ (x:AV) (u:Value),Na N x=true→AVR w St st β x u→AVR w St (st.take N) β x u
 | .c x,u,hc,h=>by simp only[AVR] at h ⊢; exact RI AQA h
 | .agg xs,u,hc,h=>by
  simp only[AVR] at h ⊢
  simp only[Na] at hc
  grind [RI,aP,bF]
 | .lp l i off,u,hc,h=>by
  simp only[AVR] at h ⊢
  have hl:l<N:=AQA
  grind
 | .ip xs,u,_,h=>APi
 | .tup xs,u,hc,h=>by
  simp only[AVR] at h ⊢
  obtain⟨us,h1,h2⟩:=h
  exact⟨us,h1,kY xs us AQA h2⟩
 | .undef,u,_,h=>APi
 | .un,u,_,h=>by simp only[AVR]
 | .pin x u0,u,hc,h=>by
  simp only[AVR] at h ⊢
  exact⟨h.1,eX x u AQA h.2⟩
 | .clo f xs,u,_,h=>APi
theorem kY {st:List Ob} {N:Nat}:∀ (xs:List AV) (us:List Value),ZL N xs=true→AVRs w St st β xs us→AVRs w St (st.take N) β xs us
 | [],us,_,h=>APx
 | x::xs,us,hc,h=>by
  simp only[AVRs] at h ⊢
  simp only[ZL,ay] at hc
  obtain⟨y,ys,h1,h2,h3⟩:=h
  exact⟨y,ys,h1,eX x y hc.1 h2,kY xs ys hc.2 h3⟩
end
theorem AEO {st:List Ob} {N:Nat} {c:Cl} {u:Value} (hc:Jw N c=true) (h:RdB w St st β c u):RdB w St (st.take N) β c u:=by
 cases c with
 | ow ty sz xs=>exact h
 | v y=>exact RI (w:=w) (St:=St) (st:=st) (β:=β) (c:=.v y) hc h
 | sl y=>exact RI (w:=w) (St:=St) (st:=st) (β:=β) (c:=.sl y) hc h
 | ref y=>exact RI (w:=w) (St:=St) (st:=st) (β:=β) (c:=.ref y) hc h
theorem Core.trim (h:Core w0 St0 St β s a w) {N:Nat} {keys:List Nat} (ht:QB N keys s):Core w0 St0 St β (trim N keys s) a w:=by
 obtain⟨t1,t2⟩:=ht
 have hg:∀ l ob,(s.st.take N)[l]?=some ob→s.st[l]?=some ob:=fun l ob hl=>by
  rw[aaJ] at hl
  split at hl
  ·exact hl
  ·cases hl
 exact {
  defers:=h.defers
  size:=h.size
  lim:=h.lim
  env:=fun i=>by
   simp only[Go.Vm.trim,AEN]
   split
   ·rename_i hi
    exact eX _ _ (aP.1 t1 i hi) (h.env i)
   ·simp only[AVR]
  below:=h.below,st0:=h.st0,stOld:=h.stOld,stIn:=h.stIn
  obs:=fun l ob b hl hlive hβ=>by
   obtain⟨q1,q2,cs,g1,g2,g3⟩:=h.obs l ob b (hg l ob hl) hlive hβ
   refine⟨q1,q2,cs,g1,g2,fun k c hk=>?_⟩
   obtain⟨u,hu,hr⟩:=g3 k c hk
   refine⟨u,hu,AEO ?_ hr⟩
   have hno:=aP.1 t2 ob (bF hl)
   obtain⟨x,hx,hcx⟩:=aba.1 (bF hk)
   simp only[BD,qw] at hno
   rcases hno with hno | hno
   ·have:=aP.1 (aP.1 hno x hx) c hcx
    cases c<;>simp_all [AB,Jw]
   grind
  nil:=fun l ob hl=>h.nil l ob (hg l ob hl)
  inj:=fun l l' ob ob' b h1 h2=>h.inj l l' ob ob' b (hg l ob h1) (hg l' ob' h2)
  sep:=fun l ob b o hl=>h.sep l ob b o (hg l ob hl)
  own:=h.own.move id (fun x hx=>⟨⟨hx.1,hx.2.1,hx.2.2.1,hx.2.2.2.1,fun l ob hl=>hx.2.2.2.2 l ob (hg l ob hl)⟩,rfl⟩) (fun _ _ h=>h) (fun _ _ _=>rfl)
   (fun l ob b k c h1 h2 h3 h4 _=>⟨ob,b,hg l ob h1,h2,h3,h4,rfl⟩) (fun _ _ _ _ _ _ _ _ e=>e) }
theorem ACP (g:Nat→AV) (keys:List Nat) (i:Nat):Cb (keys.map fun k=>(k,g k)) i=if i∈keys then g i else .un:=by
 induction keys with
 | nil=>simp[Cb]
 | cons k ks ih =>
  simp only[YG,Cb,ih]
  grind
theorem AA1 {sel:List (Nat×Bool)} {l:Nat} (h:jR sel l=true):∃ r,sel[Em sel l]?=some (l,r):=by
 induction sel with
 | nil=>simp[jR] at h
 | cons x xs ih =>
  simp only[Em]
  by_cases e:x.1=l
  ·grind
  ·simp only[jR,e,abK,bT] at h
   grind
theorem AFz {sel:List (Nat×Bool)} {i:Nat} {e:Nat×Bool} (h:sel[i]?=some e):jR sel e.1=true:=by
 induction sel generalizing i with
 | nil=>simp at h
 | cons x xs ih =>
  simp only[jR,qw,bf]
  grind
theorem AA2 {sel:List (Nat×Bool)} (h:AFv sel=true):∀ {i j:Nat} {e e':Nat×Bool},sel[i]?=some e→sel[j]?=some e'→e.1=e'.1→i=j:=by
 induction sel with
 | nil=>grind
 | cons x xs ih =>
  simp only[AFv,ay,aa4] at h
  grind [aQ,ak,AFz]
theorem Vl (sel:List (Nat×Bool)) (st:List Ob):∀ (l:List (Nat×Bool)) (i:Nat),(Qb sel st l)[i]?=(l[i]?).map fun e=>match st[e.1]? with | some ob=>KF sel e.2 ob | none=>default
 | [],i=>by simp[Qb]
 | e::r,0=>by simp[Qb]
 | e::r,i+1=>by simp only[Qb,aaN]; exact Vl sel st r i
theorem Vo {sel:List (Nat×Bool)} {st:List Ob}:∀ {l:List (Nat×Bool)},Vk sel st l→∀ {i:Nat} {e:Nat×Bool},l[i]?=some e→∃ ob,st[e.1]?=some ob∧(if e.2=true then(ob.xs.all fun x=>x.all (inC sel)) else G5 ob.xs)=true
 | [],_,i,e,h=>AO_
 | x::r,ho,i,e,h=>by
  simp only[Vk] at ho
  cases i with
  | zero =>
   grind
  | succ i=>exact Vo ho.2 AO7
section
variable {sel:List (Nat×Bool)} {st:List Ob}
def Vp (sel:List (Nat×Bool)) (β:Nat→Option Nat) (i:Nat):Option Nat:=match sel[i]? with | some e=>β e.1 | none=>none
theorem AF0 (ho:Vk sel st sel) {l:Nat} {u:Value} (hl:jR sel l=true) (h:BN w st β l u):BN w (Qb sel st sel) (Vp sel β) (Em sel l) u:=by
 obtain⟨r,hr⟩:=AA1 hl
 obtain⟨ob,hob,_⟩:=Vo ho hr
 simp only at hob
 unfold BN at h ⊢
 rw[Vl,hr]
 simp only[bW,hob,Vp,hr] at h ⊢
 have e1:(KF sel r ob).live=ob.live:=APo
 have e2:(KF sel r ob).xs.length=ob.xs.length:=by unfold KF; split<;>simp
 have e3:(KF sel r ob).ty=ob.ty:=APo
 have e4:(KF sel r ob).sz=ob.sz:=APo
 grind
theorem vI (ho:Vk sel st sel) {c:Cl} {u:Value} (hc:inC sel c=true) (h:RdC w St st β c u):RdC w St (Qb sel st sel) (Vp sel β) (TU sel c) u:=by
 cases c with
 | ref l=>exact AF0 ho hc h
 | v x=>exact h
 | sl xs=>exact h
 | ow ty sz xs=>simp[RdC,RdD] at h
theorem AJk (ho:Vk sel st sel) {c:Cl} {u:Value} (hc:inC sel c=true) (h:RdB w St st β c u):RdB w St (Qb sel st sel) (Vp sel β) (TU sel c) u:=by
 cases c with
 | ow ty sz xs=>exact h
 | v y=>exact vI (w:=w) (St:=St) (β:=β) (c:=.v y) ho hc h
 | sl y=>exact vI (w:=w) (St:=St) (β:=β) (c:=.sl y) ho hc h
 | ref y=>exact vI (w:=w) (St:=St) (β:=β) (c:=.ref y) ho hc h
theorem AF1 {c:Cl}:Gi (TU sel c)=Gi c:=by cases c<;>rfl
theorem AHm {c:Cl} (h:Gi c=true):TU sel c=c:=by cases c<;>simp_all [Gi,TU]
mutual
theorem AEP (ho:Vk sel st sel):∀ (x:AV) (u:Value),inA sel x=true→AVR w St st β x u→AVR w St (Qb sel st sel) (Vp sel β) (rnA sel x) u
 | .c x,u,hc,h=>by simp only[AVR,rnA] at h ⊢; exact vI ho AP7 h
 | .agg xs,u,hc,h=>by
  simp only[AVR,rnA] at h ⊢
  simp only[inA] at hc
  grind [yx,vI,aP,bF]
 | .lp l i off,u,hc,h=>by
  simp only[AVR,rnA] at h ⊢
  obtain⟨r,hr⟩:=AA1 (sel:=sel) (l:=l) AP7
  obtain⟨ob,hob,_⟩:=Vo ho hr
  simp only at hob
  rw[Vl,hr]
  simp only[bW,hob,Vp,hr] at h ⊢
  have e1:(KF sel r ob).live=ob.live:=APo
  have e4:(KF sel r ob).sz=ob.sz:=APo
  grind
 | .ip xs,u,_,h=>APs
 | .tup xs,u,hc,h=>by
  simp only[AVR,rnA] at h ⊢
  obtain⟨us,h1,h2⟩:=h
  exact⟨us,h1,AEQ ho xs us AP7 h2⟩
 | .undef,u,_,h=>APs
 | .un,u,_,h=>by simp only[AVR,rnA]
 | .pin x u0,u,hc,h=>by
  simp only[AVR,rnA] at h ⊢
  exact⟨h.1,AEP ho x u AP7 h.2⟩
 | .clo f xs,u,_,h=>APs
theorem AEQ (ho:Vk sel st sel):∀ (xs:List AV) (us:List Value),AFu sel xs=true→AVRs w St st β xs us→AVRs w St (Qb sel st sel) (Vp sel β) (AEH sel xs) us
 | [],us,_,h=>by simp only[AVRs,AEH] at h ⊢; exact h
 | x::xs,us,hc,h=>by
  simp only[AVRs,AEH] at h ⊢
  simp only[AFu,ay] at hc
  obtain⟨y,ys,h1,h2,h3⟩:=h
  exact⟨y,ys,h1,AEP ho x y hc.1 h2,AEQ ho xs ys hc.2 h3⟩
end
end
theorem Core.rel (h:Core w0 St0 St β s a w) {sel:List (Nat×Bool)} {keys:List Nat} (ht:Tn sel keys s):Core w0 St0 St (Vp sel β) (rel sel keys s) a w:=by
 obtain⟨t0,t1,t2⟩:=ht
 have hg:∀ (i:Nat) (ob:Ob),(Qb sel s.st sel)[i]?=some ob→∃ (e:Nat×Bool) (ob0:Ob),sel[i]?=some e∧s.st[e.1]?=some ob0∧ob=KF sel e.2 ob0∧(if e.2=true then(ob0.xs.all fun x=>x.all (inC sel)) else G5 ob0.xs)=true:=by
  intro i ob hi
  rw[Vl] at hi
  obtain⟨e,he,h2⟩:=yx.1 hi
  obtain⟨ob0,hob,hp⟩:=Vo t2 he
  simp only[hob] at h2
  exact⟨e,ob0,he,hob,h2.symm,hp⟩
 have elive:∀ r ob,(KF sel r ob).live=ob.live:=APa
 have esz:∀ r ob,(KF sel r ob).sz=ob.sz:=APa
 have ety:∀ r ob,(KF sel r ob).ty=ob.ty:=APa
 have ewr:∀ r ob,(KF sel r ob).wr=ob.wr:=APa
 have elen:∀ r ob,(KF sel r ob).xs.length=ob.xs.length:=by intro r ob; unfold KF; split<;>simp
 have eβ:∀ {i:Nat} {e:Nat×Bool},sel[i]?=some e→Vp sel β i=β e.1:=by intro i e he; simp only[Vp,he]
 exact {
  defers:=h.defers
  size:=h.size
  lim:=h.lim
  env:=fun i=>by
   simp only[Go.Vm.rel,ACP]
   split
   ·rename_i hi
    exact AEP t2 _ _ (aP.1 t1 i hi) (h.env i)
   ·simp only[AVR]
  below:=h.below,st0:=h.st0,stOld:=h.stOld,stIn:=h.stIn
  obs:=fun i ob b hi hlive hβ=>by
   obtain⟨e,ob0,he,hob,rfl,hp⟩:=hg i ob hi
   rw[eβ he] at hβ
   rw[elive] at hlive
   obtain⟨q1,q2,cs,g1,g2,g3⟩:=h.obs e.1 ob0 b hob hlive hβ
   refine⟨q1,q2,cs,AOk, ?_, ?_⟩
   ·rw[esz]
    intro x hx
    unfold KF at hx
    grind
   ·intro k c hk
    unfold KF at hk
    split at hk
    ·rename_i hr
     simp only[hr,aX] at hp
     rw[← List.map_flatten,qp] at hk
     obtain⟨c0,hc0,rfl⟩:=yx.1 hk
     obtain⟨u,hu,hc⟩:=g3 k c0 hc0
     obtain⟨x,hx,hcx⟩:=aba.1 (bF hc0)
     exact⟨u,hu,AJk t2 (aP.1 (aP.1 hp x hx) c0 hcx) hc⟩
    ·rename_i hr
     simp only[hr,aW] at hp
     obtain⟨u,hu,hc⟩:=g3 k c hk
     obtain⟨x,hx,hcx⟩:=aba.1 (bF hk)
     have:=aP.1 (aP.1 hp x hx) c hcx
     refine⟨u,hu, ?_⟩
     cases c with
     | ref l=>simp[AB] at this
     | v x=>exact hc
     | sl xs=>exact hc
     | ow ty sz xs=>exact hc
  nil:=fun i ob hi hlive hβ=>by
   obtain⟨e,ob0,he,hob,rfl,hp⟩:=hg i ob hi
   rw[eβ he] at hβ
   rw[elive] at hlive
   have:=h.nil e.1 ob0 hob hlive hβ
   grind
  inj:=fun i j o1 o2 b h1 h2 h3 h4 h5 h6=>by
   obtain⟨e,ob0,he,hob,rfl,_⟩:=hg i o1 h1
   obtain⟨e',ob0',he',hob',rfl,_⟩:=hg j o2 h2
   rw[eβ he] at h5
   rw[eβ he'] at h6
   rw[elive] at h3 h4
   exact AA2 t0 he he' (h.inj _ _ _ _ b hob hob' h3 h4 h5 h6)
  sep:=fun i ob b o hi hlive hβ hbo=>by
   obtain⟨e,ob0,he,hob,rfl,_⟩:=hg i ob hi
   rw[eβ he] at hβ
   rw[elive] at hlive
   rw[ewr,elen,esz]
   exact h.sep e.1 ob0 b o hob hlive hβ hbo
  own:=by
   refine h.own.move (fun i=>((sel[i]?).getD (0,false)).1) (fun x hx=>⟨⟨hx.1,hx.2.1,hx.2.2.1,hx.2.2.2.1,fun i ob hi hlv=>?_⟩,rfl⟩) (fun _ _ h=>h) (fun _ _ _=>rfl) (fun i ob b k c hi hlive hβ hk hc=>?_) (fun i j o1 o2 h1 h2 _ _ e=>?_)
   ·obtain⟨e,ob0,he,hob,rfl,hp⟩:=hg i ob hi
    rw[eβ he]
    rw[elive] at hlv
    exact hx.2.2.2.2 e.1 ob0 hob hlv
   ·obtain⟨e,ob0,he,hob,rfl,hp⟩:=hg i ob hi
    rw[eβ he] at hβ
    rw[elive] at hlive
    refine⟨ob0,b,AOk,hlive,AOk, ?_,rfl⟩
    unfold KF at hk
    grind [yx,AF1,AHm]
   ·obtain⟨e1,ob1,he1,_⟩:=hg i o1 h1
    obtain⟨e2,ob2,he2,_⟩:=hg j o2 h2
    grind [AA2] }
theorem AAm {l:List Oper} {s:MS} {K:MS→Prop} (h:vpD P l.toArray K l s):DrawK P l.toArray s K:=⟨0,.inl ⟨[],s.st,rfl,h⟩⟩
theorem ABU {l:List Oper} {s:MS} {K:MS→Prop} (h:vpE P none l.toArray K l 0 [(0,s.st)] [] s):DrawK P l.toArray s K:=⟨0,.inr (.inl ⟨none,rfl,h⟩)⟩
theorem ADs {ops:Array Oper} {s:MS} {K:MS→Prop} (h:AJg P ops s K):DrawK P ops s K:=⟨0,.inr (.inr h)⟩
theorem AC5 {l:List Oper} {s:MS} {K:MS→Prop} (j p:Nat) (hf:zQ l.toArray (some (j,p))=true) (h:vpE P (some (j,p)) l.toArray K l 0 [(0,s.st)] [] s):DrawK P l.toArray s K:=⟨0,.inr (.inl ⟨_,hf,h⟩)⟩
theorem DrawX.up:∀ {d:Nat} {ops:Array Oper} {s:MS} {K:MS→Prop},DrawX P d ops s K→DrawX P (d+1) ops s K
 | 0,_,_,_,h=>.inl h
 | _+1,_,_,_,.inl h=>.inl h
 | _+1,_,_,_,.inr ⟨l,e1,e2,σ1,σ2,js,e,hne,h1,k1,.inl hp⟩=>.inr ⟨l,e1,e2,σ1,σ2,js,e,hne,h1,DrawX.up k1,.inl hp⟩
 | _+1,_,_,_,.inr ⟨l,e1,e2,σ1,σ2,js,e,hne,h1,k1,.inr ⟨h2,k2⟩⟩=>.inr ⟨l,e1,e2,σ1,σ2,js,e,hne,h1,DrawX.up k1,.inr ⟨h2,DrawX.up k2⟩⟩
theorem DrawX.le {d:Nat} {ops:Array Oper} {s:MS} {K:MS→Prop} (h:DrawX P d ops s K):∀ k,DrawX P (d+k) ops s K
 | 0=>h
 | k+1=>(DrawX.le h k).up
theorem AC1 {l:List Oper} {s:MS} {K:MS→Prop} (e1 e2:Nat) (σ1 σ2:List Nat) (hne:Nat.beq e1 e2=false) (h1:Tm s.n l σ1 e1 e2=true) (h2:Tm s.n l σ2 e2 e1=true)
  (k1:DrawK P (II σ1 e1 e2 l).toArray s K) (k2:DrawK P (II σ2 e2 e1 l).toArray s K):DrawK P l.toArray s K:=by
 obtain⟨d1,k1⟩:=k1
 obtain⟨d2,k2⟩:=k2
 have k2':=DrawX.le k2 d1
 rw[Nat.add_comm] at k2'
 exact⟨d1+d2+1,.inr ⟨l,e1,e2,σ1,σ2,[],rfl,abv hne,h1,k1.le d2,.inr ⟨h2,k2'⟩⟩⟩
theorem AC8 {l:List Oper} {s:MS} {K:MS→Prop} (e1 e2:Nat) (σ js:List Nat) (hne:Nat.beq e1 e2=false) (hp:eP l e1 js=true) (hl:js.getLast?=some e2) (h1:Tm s.n l σ e1 e2=true)
  (k1:DrawK P (II σ e1 e2 l).toArray s K):DrawK P l.toArray s K:=by
 obtain⟨d1,k1⟩:=k1
 exact⟨d1+1,.inr ⟨l,e1,e2,σ,σ,js,rfl,abv hne,h1,k1,.inl ⟨hp,hl⟩⟩⟩
theorem eY (h:Core w0 St0 St β s a w) (o:Oper) (hc:o.op.operands.toList.all Au=true) {y:AV} {st':List Ob} (he:Ez P s o.op y st') (Q:Exit→Act→World→Prop) :
  o.wp P a w (fun a' w'=>Sim w0 St0 (MS.put ⟨s.n,s.env,st'⟩ o.dst y) a' w') Q:=by
 have key:RH P o.op o.dst s (fun s'=>s'=MS.put ⟨s.n,s.env,st'⟩ o.dst y):=by
  cases hop:o.op with
  | call c =>
   rw[hop] at he
   simp only[Ez] at he
   split at he
   ·rename_i f hcl
    simp only[RH,hcl]
    rcases he with ⟨args,rs,st1,h1,h2,rfl,rfl⟩ | ⟨args,rs,h1,h2,h3,rfl,rfl⟩ | ⟨hin,hs⟩
    ·refine .inl ?_
     rw[h1]
     exact⟨rs,h2,fun _=>rfl⟩
    ·exact .inr (.inl ⟨args,rs,h1,h2,h3,fun _=>rfl⟩)
    ·exact .inr (.inr (.inr ⟨hin,fun w0 St0 St β a w us h1 h2=>(hs w0 St0 St β s a w us rfl h1 h2).mono fun e w' ⟨u,e1,St',β',q1,q2⟩=>⟨u,e1,⟨s.n,s.env,st'⟩,y,rfl,rfl,St',β',q1,q2⟩⟩))
   ·rename_i hne
    simp only[RH]
    split
    ·rename_i f hcl; exact absurd hcl (hne f)
    ·rename_i t hcl
     simp[WZ,hcl,Ip,same] at he
    ·rw[he]; rfl
  | _ =>
   rw[hop] at he
   simp only[Ez] at he
   simp only[RH]
   rw[he]; rfl
 grind [Oper.wp_mono,step_ok]
theorem Tq {s s':MS} (hst:s'.st=s.st) (o:Op) (heff:YO o=true) (h:∀ t,.tmp t∈o.operands.toList→Cb s'.env t=Cb s.env t) {y:AV} {st':List Ob} (hr:Ez P s o y st'):Ez P s' o y st':=by
 have he:∀ x,x∈o.operands.toList→Ew s' x=Ew s x:=fun x hx=>kW fun t ht=>h t AOk
 cases o with
 | call c =>
  have hargs:∀ x∈c.args.toList,Ew s' x=Ew s x:=fun x hx=>he x (by
   simp only[Op.operands,Call.operands,aaO,aaY]
   exact .inr hx)
  have hmap:c.args.toList.map (Ew s')=c.args.toList.map (Ew s):=aaM hargs
  simp only[Ez] at hr ⊢
  split at hr
  ·grind
  ·rename_i hne
   simp only[YO] at heff
   split at heff
   ·grind
   ·rename_i hcl
    simp only[WZ,hcl] at hr ⊢
    split at hr
    ·rename_i x y2 T T' hca hct
     rw[hargs x AOk,hargs y2 AOk]
     have ea:∀ T X Y,zG P s' T X Y=zG P s T X Y:=fun T X Y=>by simp only[zG,AD8,zF,hst]
     have es:∀ T T' X Y,zH P s' T T' X Y=zH P s T T' X Y:=fun T T' X Y=>by simp only[zH,hst]
     grind
    ·cases hr
   ·cases heff
 | alloc T=>simp only[Ez,WZ,P9,hst] at hr ⊢; exact hr
 | box T x=>simp only[Ez,WZ,ADw,hst] at hr ⊢; rw[he x AOo]; exact hr
 | store T p x=>simp only[Ez,WZ,dQ,hst] at hr ⊢; rw[he p AOo,he x AOo]; exact hr
 | makeSlice T l c=>simp only[Ez,WZ,ui,hst] at hr ⊢; rw[he l AOo,he c AOo]; exact hr
 | buildSlice T len ps =>
  have hps:∀ p∈ps.toList,Ew s' p.2=Ew s p.2:=fun p hp=>he p.2 (by
   simp only[Op.operands]
   grind)
  have key:∀ (l:List (Nat×Operand)),(∀ p∈l,Ew s' p.2=Ew s p.2)→Ih s' l=Ih s l:=by
   exact AMn
  simp only[Ez,WZ,Ld,key _ hps,hst] at hr ⊢
  exact hr
 | _=>simp[YO] at heff
def Bd (E:Nat→Bool) (q:Nat):Prop:=q=0∨∃ e,E e=true∧q=e+1
def Vq (P:Program) (n:Nat) (ops:Array Oper) (x:Option (Nat×Nat)) (env:List (Nat×AV)) (R:Nat→AV) (S:Nat→List Ob) (E:Nat→Bool) (m i:Nat) (o:Oper):Prop:=
 ∃ b,pF ops (Bi ops R env (fun _=>true) i) o.guard=some b∧(b=false→R i = .undef∧E i=false∧S (i+1)=S i) ∧
  (b=true→E i=true→YO o.op=true∧Ez P ⟨n,Bi ops R env (fun _=>true) i,S i⟩ o.op (R i) (S (i+1))∧∀ e,E e=true→e<i→(∀ e',e<e'→e'<i→E e'=false)→Be o e=true∨∃ p,x=some (i,p)∧E p=true∧e≤p) ∧
  (b=true→E i=false→S (i+1)=S i∧∀ q,Bd E q→q≤m→(∀ e,E e=true→Be o e=true→e<q)→(∀ e oe,e<m→ops[e]?=some oe→E e=true→Be oe i=true→q≤e) →
   CU P ⟨n,Bi ops R env (fun _=>true) i,S q⟩ o.op (R i))
theorem UV {ops:Array Oper} {env:List (Nat×AV)} {R1 R2:Nat→AV}:∀ (m:Nat),(∀ i,i<m→R1 i=R2 i)→Bi ops R1 env (fun _=>true) m=Bi ops R2 env (fun _=>true) m
 | 0,_=>rfl
 | m+1,hm=>by simp only[Bi,UV m (fun i hi=>hm i AOh),hm m AOh]
structure Ghost (P:Program) (w0:Bs) (St0:Nat→Nat→Prop) (T:TypeId) (wg:Bs) (b:Nat):Prop where
 may:w0.may b
 old:BelowB w0 wg.w
 lt:b<wg.heap.size
 own:∀ y,wg.own y↔(w0.may y∧y≠b)
 st:∀ o,¬ St0 b o
 gs:wg.gs=w0.gs
 cells:∃ (zs:List Value) (cs:Array Value),VQ P T=some (zs.map .v)∧y_ zs=true∧wg.heap[b]?=some (.cells cs T (0,0))∧cs.toList=zs
def eu (b:Nat):Value:=.pointer (some ⟨b,0,none⟩)
theorem AER (h:Core w0 St0 St β s a w) (o:Oper) (T:TypeId) (ho:o.op = .alloc T) {y:AV} {st1 st':List Ob} {n1:Nat} {env1:List (Nat×AV)} (hy:P9 P ⟨n1,env1,st1⟩ T=some (y,st')) (Q:Exit→Act→World→Prop) :
  o.wp P a w (fun a' w'=>∃ wg b,Ghost P w0 St0 T wg b∧Sim wg St0 (MS.put s o.dst (.pin .un (eu b))) a' w') Q:=by
 unfold P9 at hy
 split at hy
 ·rename_i cs0 hz0
  obtain⟨zs,hz,hwf,rfl⟩:=Q4 hz0
  obtain⟨z,hz1,hz2⟩:=VS hz w
  have hb:Below w.heap.size w (w.alloc (.cells z.cells T)):=YI w _
  have hc:Core w0 St0 St β s a (w.alloc (.cells z.cells T)):=h.grow hb (fun _ _ h=>h) (fun _ _ h _=>h) fun b o hbo=>bP (h.stIn b o hbo) hb.size
  have hN:Own w0 (fun x=>x=w.heap.size) (w.alloc (.cells z.cells T)) St s.st β:=h.own.grow hb (fun _ _ h=>h) (fun _ _ h _=>h) h.stIn (fun l ob b h1 h2 h3=>(h.obs l ob b h1 h2 h3).2.1) fun x hx e=>AOh
  have hw0:=h.below.size
  have hsz:w.heap.size<(w.alloc (.cells z.cells T)).heap.size:=AOi
  have hrun:(execOp a.eval o).run P w = .ok (.value (eu w.heap.size)) (w.alloc (.cells z.cells T)):=by simp[execOp,ho,Instr.alloc,hz1,newVar,newRow,eu]
  unfold Oper.wp
  rw[hrun]
  refine⟨⟨w.alloc (.cells z.cells T),fun y=>w0.may y∧y≠w.heap.size,w0.gs⟩,w.heap.size,⟨.inl hw0,hc.below,by simp only[Bs.heap]; omega,fun y=>Iff.rfl,fun o hso=>?_,rfl,zs,z.cells,hz0,hwf,alloc_at w _,hz2⟩,St,β, ?_⟩
  ·have:=h.stIn _ _ (h.st0 _ _ hso); omega
  ·refine Core.put (x:=.pin .un (eu w.heap.size)) (u:=eu w.heap.size) ?_ o.dst (by simp[AVR])
   exact {
    defers:=hc.defers
    size:=hc.size
    lim:=hc.lim
    env:=hc.env
    below:=BelowB.refl _ _
    st0:=hc.st0
    stOld:=fun b o hbo hlt hno=>by
     refine h.stOld b o hbo ?_ ?_
     ·rcases bQ b w0.heap.size with h' | h'
      ·exact h'
      ·exact absurd ⟨.inl h',by have:=h.stIn b o hbo; omega⟩ hno
     ·intro h'
      exact hno ⟨.inr h',by have:=h.stIn b o hbo; omega⟩
    stIn:=hc.stIn
    obs:=fun l ob b h1 h2 h3=>by
     obtain⟨q1,q2,q3⟩:=hc.obs l ob b h1 h2 h3
     have:=(h.obs l ob b h1 h2 h3).2.1
     exact⟨.inr ⟨q1,AOh⟩,q2,q3⟩
    nil:=hc.nil
    inj:=hc.inj
    sep:=hc.sep
    own:=by
     obtain⟨φ,o1,o2,o3⟩:=hN
     refine⟨φ,o1,fun l k x hx=>⟨(o2 l k x hx).1, ?_⟩,o3⟩
     obtain⟨q1,q2,q3⟩:=(o2 l k x hx).2
     exact⟨.inr ⟨q1,q2⟩,fun h=>h,q3⟩ }
 ·cases hy
theorem Ghost.adopt {T:TypeId} {wg:Bs} {b d:Nat} (g:Ghost P w0 St0 T wg b) (h:Core wg St0 St β s a w) {y:AV} {st':List Ob} {n1:Nat} {env1:List (Nat×AV)} (hy:P9 P ⟨n1,env1,s.st⟩ T=some (y,st')) (hp:a.tmps.getD d Go.undef=eu b) :
  ∃ β',Core w0 St0 St β' ⟨s.n,(d,y)::s.env,st'⟩ a w:=by
 have hno:¬ wg.own b:=fun h=>((g.own b).1 h).2 rfl
 have hblk:w.heap[b]?=wg.heap[b]?:=h.below.blk b g.lt hno
 have hw0:w0.heap.size≤wg.heap.size:=g.old.size
 have hwg:wg.heap.size≤w.heap.size:=h.below.size
 have hmay:∀ y,wg.may y→w0.may y∧y≠b:=fun y hy=>by
  rcases hy with hy | hy
  ·exact⟨.inl AOh,by have:=g.lt; omega⟩
  ·exact(g.own y).1 hy
 have hnown:∀ k,k<w0.heap.size→¬ w0.own k→¬ wg.own k:=fun k h1 h2 h3=>by
  rcases((g.own k).1 h3).1 with h' | h'
  ·omega
  grind
 have hSt:∀ o,¬ St b o:=fun o hbo=>g.st o (h.stOld b o hbo g.lt hno)
 have hN:Own w0 (fun x=>x=b) w St s.st β:=by
  obtain⟨φ,o1,o2,o3⟩:=h.own
  refine⟨φ,o1,fun l k x hx=>⟨(o2 l k x hx).1, ?_⟩,o3⟩
  obtain⟨q1,q2,q3⟩:=(o2 l k x hx).2
  exact⟨(hmay x q1).1,(hmay x q1).2,q3⟩
 have hc:Core w0 St0 St β s a w:={
  defers:=h.defers
  size:=h.size
  lim:=h.lim
  env:=fun i=>by have:=h.env i; unfold nm at this ⊢; rw[← g.gs]; exact this
  below:=g.old.step (n:=0) h.below.rest (fun k h1 h2=>h.below.blk k AOh (hnown k h1 h2)) fun k h1=>h.below.siz k AOh
  st0:=h.st0
  stOld:=fun x o hxo h1 h2=>h.stOld x o hxo AOh (hnown x h1 h2)
  stIn:=h.stIn
  obs:=fun l ob x h1 h2 h3=>by
   obtain⟨q1,q2,q3⟩:=h.obs l ob x h1 h2 h3
   grind
  nil:=h.nil
  inj:=h.inj
  sep:=h.sep
  own:=by
   obtain⟨φ,o1,o2,o3⟩:=hN
   refine⟨φ,o1,fun l k x hx=>⟨(o2 l k x hx).1, ?_⟩,o3⟩
   obtain⟨q1,q2,q3⟩:=(o2 l k x hx).2
   exact⟨q1,fun h=>h,q3⟩ }
 obtain⟨zs,cs,hz,hwf,hcs,hcl⟩:=g.cells
 unfold P9 at hy
 rw[hz] at hy
 simp only[ak,bK] at hy
 obtain⟨rfl,rfl⟩:=hy
 obtain⟨h1,h2,_⟩:=hc.addOb ⟨T,(zs.map Cl.v).length,[zs.map .v],true,true⟩ (some b) AOi (fun x hx=>by
  simp only[ak] at hx
  subst hx
  refine⟨g.may,AOk,fun l o2 p1 p2 p3=>?_,fun o hbo=>absurd hbo (hSt o),cs,AOk,AOi,fun k c hk=>?_⟩
  ·exact(hmay _ (h.obs l o2 _ p1 p2 p3).1).2 rfl
  ·simp only[dm,aaH,bI,qp,yx] at hk
   obtain⟨v,hv,rfl⟩:=hk
   refine⟨v,AOk, ?_⟩
   simp only[RdC,RdD,true_and]
   exact aP.1 hwf v (bF hv)) hN (fun x hx e=>hx.2.1 AOk)
 refine⟨_,{ h1 with env:=fun i=>?_ }⟩
 simp only[Cb]
 by_cases e:d=i
 ·subst e
  have hd:d<1000000:=by
   rcases bQ d a.tmps.size with h' | h'
   ·exact bP h' (by rw[h.size]; exact h.lim)
   ·simp[h',undef,eu] at hp
  simp only[aX]
  rw[Tc hd,hp]
  simp[AVR,eu]
 ·simp only[e,aW]
  exact h1.env i
def RJ (R:Nat→AV) (j b:Nat):Nat→AV:=fun i=>if i=j then .pin .un (eu b) else R i
def PhA (w0:Bs) (St0:Nat→Nat→Prop) (n:Nat) (ops:Array Oper) (env:List (Nat×AV)) (R:Nat→AV) (S:Nat→List Ob) (E:Nat→Bool) (listed:Array Bool) (a:Act) (w:World):Prop:=
 ∃ q,Bd E q∧(∀ e,E e=true→(listed.getD e false=true↔e<q))∧Sim w0 St0 ⟨n,Bi ops R env (fun i=>listed.getD i false) ops.size,S q⟩ a w
def PhB (P:Program) (w0:Bs) (St0:Nat→Nat→Prop) (n:Nat) (ops:Array Oper) (env:List (Nat×AV)) (R:Nat→AV) (S:Nat→List Ob) (E:Nat→Bool) (x:Option (Nat×Nat)) (listed:Array Bool) (a:Act) (w:World):Prop:=
 ∃ (j p q b:Nat) (wg:Bs) (T:TypeId) (oj:Oper),x=some (j,p)∧ops[j]?=some oj∧oj.op = .alloc T∧E j=true∧E p=true∧(∀ e,E e=true→e<j→e≤p)∧Bd E q∧q≤p∧listed.getD j false=true ∧
  (∀ e,E e=true→e≠j→(listed.getD e false=true↔e<q))∧Ghost P w0 St0 T wg b∧Sim wg St0 ⟨n,Bi ops (RJ R j b) env (fun i=>listed.getD i false) ops.size,S q⟩ a w
theorem pR {ops:Array Oper} {j p:Nat} (h:zQ ops (some (j,p))=true) {oj:Oper} (hoj:ops[j]?=some oj) :
  (∃ T,oj.op = .alloc T)∧oj.after = #[]∧oj.guard=none∧(∃ d,oj.dst=some d)∧p<j∧∀ (i:Nat) (o:Oper),ops[i]?=some o→Be o j=true→Be o p=true:=by
 simp only[zQ,hoj,ay,bf] at h
 obtain⟨⟨⟨⟨⟨h1,h2⟩,h3⟩,h4⟩,h5⟩,h6⟩:=h
 refine⟨?_,AOk,by simp_all,Option.isSome_iff_exists.1 h4,h5,fun i o ho hb=>?_⟩
 ·cases hop:oj.op with
  | alloc T=>grind
  | _=>rw[hop] at h1; cases h1
 grind
theorem ACQ {ops:Array Oper} {n:Nat} (hok:FP n ops=true) (hops:(ops.toList.all fun o=>o.op.operands.toList.all Au)=true) (env:List (Nat×AV)) (R:Nat→AV) (S:Nat→List Ob) (E:Nat→Bool) (x:Option (Nat×Nat)) (hx:zQ ops x=true)
  (hR:∀ (i:Nat) (o:Oper),ops[i]?=some o→Vq P n ops x env R S E ops.size i o) (hE:∀ e,E e=true→e<ops.size)
  (Q:Exit→Act→World→Prop) (hQ:∀ a w,Sim w0 St0 ⟨n,Bi ops R env (fun _=>true) ops.size,S ops.size⟩ a w→Q .normal a w) :
  ∀ (fuel:Nat) (listed:Array Bool) (a:Act) (w:World),listed.size=ops.size→listed.toList.countP (fun b=>!b)≤fuel →
   (∀ (i:Nat) (o:Oper),listed.getD i false=true→ops[i]?=some o→∀ e∈o.after,Region.binds .any e=true→listed.getD e.on false=true) →
   PhA w0 St0 n ops env R S E listed a w∨PhB P w0 St0 n ops env R S E x listed a w→wpAny P .any ops Q fuel listed a w:=by
 have hdst:=dw hok
 have hstay:∀ (d i:Nat),i+d≤ops.size→(∀ e,i≤e→e<i+d→E e=false)→S (i+d)=S i:=by
  intro d
  induction d with
  | zero=>intro i _ _; rfl
  | succ d ih =>
   intro i hi hno
   have hlt:i+d<ops.size:=AOh
   obtain⟨b,_,h1,h2,h3⟩:=hR (i+d) ops[i+d] (by simp[hlt])
   have hf:=hno (i+d) AOh AOh
   have e1:S (i+d+1)=S (i+d):=by
    cases b with
    | true=>exact(h3 rfl hf).1
    | false=>exact(h1 rfl).2.2
   rw[show i+(d+1)=i+d+1 from AOh,e1]
   exact ih i AOh fun e he1 he2=>hno e he1 AOh
 have hstay2:∀ i j,i≤j→j≤ops.size→(∀ e,i≤e→e<j→E e=false)→S j=S i:=fun i j h1 h2 h3=>by
  have:=hstay (j-i) i AOh (fun e he1 he2=>h3 e he1 AOh)
  rwa [show i+(j-i)=j from AOh] at this
 have hall:∀ (listed:Array Bool) (a:Act) (w:World),(∀ i,i<ops.size→listed.getD i false=true)→PhA w0 St0 n ops env R S E listed a w∨PhB P w0 St0 n ops env R S E x listed a w→Q .normal a w:=by
  rintro listed a w hl (⟨q,hb,hq,hs⟩ | ⟨j,p,q,b,wg,T,oj,hxx,hoj,hopj,hEj,hEp,hle,hb,hqp,hlj,hq,hg,hs⟩)
  ·have hqs:q≤ops.size:=by
    rcases hb with rfl | ⟨e,he,rfl⟩
    ·omega
    ·exact hE e he
   have eS:S ops.size=S q:=hstay2 q ops.size hqs (aT _) fun e h1 h2=>by
    cases hc:E e with
    | false=>rfl
    | true=>have:=(hq e hc).1 (hl e h2); omega
   refine hQ a w (hs.congr rfl eS fun t=>?_)
   exact ALi
  ·subst hxx
   have hpj:=(pR hx hoj).2.2.2.2.1
   have:=(hq p hEp AOh).1 (hl p (hE p hEp))
   omega
 have hready:∀ (listed:Array Bool),Region.ready .any ops listed = []→listed.size=ops.size→∀ i,i<ops.size→listed.getD i false=true:=by
  intro listed hr hsz i
  induction i using Nat.strongRecOn with
  | _ i ih =>
   intro hi
   cases hc:listed.getD i false with
   | true=>rfl
   | false =>
    exfalso
    have:i∈Region.ready .any ops listed:=by
     rw[mem_ready]
     refine⟨?_,ops[i],AP_,fun e he hb=>?_⟩
     ·have hi':i<listed.size:=by omega
      simp[hi'] at hc ⊢
      exact hc
     ·have:=(GL hok (i:=i) (o:=ops[i]) AP_).1 e he hb
      exact ih e.on this AOh
    rw[hr] at this
    cases this
 intro fuel
 induction fuel with
 | zero =>
  intro listed a w hsz hcnt hcl hs
  have hl:∀ i,i<ops.size→listed.getD i false=true:=by
   exact AL8
  refine⟨?_,hall listed a w hl hs⟩
  apply List.eq_nil_iff_forall_not_mem.2
  intro i hi
  rw[mem_ready] at hi
  obtain⟨h1,o,ho,_⟩:=hi
  have hi':i<ops.size:=(bJ.1 ho).1
  have h2:=hl i hi'
  have hi2:i<listed.size:=AOh
  simp[hi2] at h1 h2
  rw[h1] at h2; cases h2
 | succ fuel ih =>
  intro listed a w hsz hcnt hcl hs
  refine⟨fun hr=>hall listed a w (hready listed hr hsz) hs,fun i hi=>?_⟩
  rw[mem_ready] at hi
  obtain⟨hun,o,ho,hafter⟩:=hi
  have hi':i<ops.size:=(bJ.1 ho).1
  have hi2:i<listed.size:=AOh
  have hun':listed.getD i false=false:=by
   exact AOR
  have hread:∀ (R':Nat→AV),(∀ k,Be o k=true→R' k=R k)→∀ t∈RF ops o,Cb (Bi ops R' env (fun i=>listed.getD i false) ops.size) t=Cb (Bi ops R env (fun _=>true) i) t:=by
   intro R' hRR t ht
   by_cases hj:∃ (j:Nat),(ops[j]?).bind (·.dst)=some t
   ·obtain⟨j,hj⟩:=hj
    cases hoj:ops[j]? with
    | none=>simp[hoj] at hj
    | some oj =>
     have hjd:oj.dst=some t:=by simpa [hoj] using hj
     have hjs:j<ops.size:=(bJ.1 hoj).1
     rcases Nat.lt_trichotomy j i with h1 | h1 | h1
     ·have hb:=(OO hok hoj ho hjd ht AOh).1 h1
      have hl:=DZ hb hafter
      rw[Fb (X:=fun i=>listed.getD i false) hdst hj hl ops.size hjs,Fb (X:=fun _=>true) hdst hj rfl i h1]
      exact hRR j hb
     ·subst h1
      rw[BV (X:=fun i=>listed.getD i false) ops.size (fun k _ hk=>by have:=hdst k j t hk hj; subst this; exact hun'),
       BV (X:=fun _=>true) j (fun k hk hkd=>by have:=hdst k j t hkd hj; omega)]
     ·have hb:=(OO hok hoj ho hjd ht AOh).2 h1
      have hl:listed.getD j false=false:=by
       cases hc:listed.getD j false with
       | false=>rfl
       | true =>
        have:=DZ hb (hcl j oj hc hoj)
        rw[this] at hun'; cases hun'
      rw[BV (X:=fun i=>listed.getD i false) ops.size (fun k _ hk=>by have:=hdst k j t hk hj; subst this; exact hl),
       BV (X:=fun _=>true) i (fun k hk hkd=>by have:=hdst k j t hkd hj; omega)]
   ·rw[BV (X:=fun i=>listed.getD i false) ops.size (fun k _ hk=>(hj ⟨k,hk⟩).elim),BV (X:=fun _=>true) i (fun k _ hk=>(hj ⟨k,hk⟩).elim)]
  obtain⟨b,hb1,hb2,hb3,hb4⟩:=hR i o ho
  have hfin:∀ (a':Act) (w':World),PhA w0 St0 n ops env R S E (listed.setIfInBounds i true) a' w'∨PhB P w0 St0 n ops env R S E x (listed.setIfInBounds i true) a' w'→wpAny P .any ops Q fuel (listed.setIfInBounds i true) a' w':=by
   intro a' w' hph
   refine ih _ a' w' (by simpa using hsz) ?_ ?_ hph
   ·have hset:(listed.setIfInBounds i true).toList=listed.toList.set i true:=by simp
    rw[hset,List.countP_set (by simpa using hi2)]
    have hv:listed.toList[i]'(by simpa using hi2)=false:=by simpa [hi2] using hun'
    rw[hv]
    have hpos:0<listed.toList.countP (fun b=>!b):=List.countP_pos_iff.2 ⟨listed.toList[i]'(by simpa using hi2),ax _,by rw[hv]; rfl⟩
    simp only[aK,aX,aJ,aC,aW]
    omega
   ·intro j oj hj hoj e he hbd
    rw[Ij hi2] at hj ⊢
    by_cases e1:i=j
    ·subst e1
     rw[ho] at hoj
     simp only[ak] at hoj
     subst hoj
     have:=hafter e he hbd
     rw[this]; simp
    ·simp only[e1,aW] at hj
     have:=hcl j oj hj hoj e he hbd
     rw[this]; simp
  have hput:∀ (wb:Bs) (R':Nat→AV) (st:List Ob) (a':Act) (w':World),Sim wb St0 (MS.put ⟨n,Bi ops R' env (fun i=>listed.getD i false) ops.size,st⟩ o.dst (R' i)) a' w'→Sim wb St0 ⟨n,Bi ops R' env (fun j=>(listed.setIfInBounds i true).getD j false) ops.size,st⟩ a' w':=by
   intro wb R' st a' w' hsim
   refine hsim.congr ?_ ?_ fun t=>?_
   ·exact AMI
   ·exact AMI
   ·have hX:(fun j=>(listed.setIfInBounds i true).getD j false)=fun j=>if i=j then true else listed.getD j false:=funext fun j=>Ij hi2
    rw[hX]
    cases hd:o.dst with
    | none =>
     simp only[MS.put]
     by_cases hj:∃ (j:Nat),(ops[j]?).bind (·.dst)=some t
     ·obtain⟨j,hj⟩:=hj
      have hjs:j<ops.size:=by
       exact AOD
      have hne:i≠j:=fun e=>by subst e; simp[ho,hd] at hj
      exact AJW
     ·exact AMD
    | some d =>
     have hdn:=(GL hok ho).2 d hd
     have hid:(ops[i]?).bind (·.dst)=some d:=by simp[ho,hd]
     simp only[MS.put,hdn,aX,Cb]
     by_cases e1:d=t
     ·subst e1
      simp only[aX]
      rw[Fb (X:=fun j=>if i=j then true else listed.getD j false) hdst hid AOi ops.size hi']
     ·simp only[e1,aW]
      by_cases hj:∃ (j:Nat),(ops[j]?).bind (·.dst)=some t
      ·obtain⟨j,hj⟩:=hj
       have hjs:j<ops.size:=by
        exact AOD
       have hne:i≠j:=fun e=>by subst e; rw[hid] at hj; exact e1 (uV hj)
       exact AJW
      ·exact AMD
  have hset:∀ (q q':Nat),(∀ e,E e=true→(e<q'↔(e<q∨e=i)))→∀ e,E e=true→(listed.getD e false=true↔e<q)→((listed.setIfInBounds i true).getD e false=true↔e<q'):=by
   intro q q' hqq e he hq
   rw[Ij hi2,hqq e he,← hq]
   by_cases e1:i=e
   ·simp[e1]
   ·have e2:¬ e=i:=fun h=>e1 h.symm
    simp[e1,e2]
  have hkeep:∀ (q:Nat),E i=false→∀ e,E e=true→(listed.getD e false=true↔e<q)→((listed.setIfInBounds i true).getD e false=true↔e<q):=fun q hEi=>hset q q fun e he=>⟨.inl,fun h=>h.elim id fun h=>by subst h; rw[hEi] at he; cases he⟩
  have hmix:∀ (R':Nat→AV),(∀ k,Be o k=true→R' k=R k)→(∀ t,.tmp t∈o.op.operands.toList→Cb (Bi ops R' env (fun i=>listed.getD i false) ops.size) t=Cb (Bi ops R env (fun _=>true) i) t):=fun R' hRR t ht=>hread R' hRR t (by
   simp only[RF,aaY]
   left
   rw[List.mem_filterMap]
   exact⟨.tmp t,ht,rfl⟩)
  unfold wpOp
  rcases hs with ⟨q,hbd,hq,St,β,hcore⟩ | ⟨j,p,q,bg,wg,T,oj,hxx,hoj,hopj,hEj,hEp,hle,hbd,hqp,hlj,hq,hg,St,β,hcore⟩
  ·
   have hop:=hmix R fun _ _=>rfl
   have hg1:=hb1
   rw[← XN (hread R fun _ _=>rfl)] at hg1
   have hwant:=pG hcore (o:=o) hg1
   simp only[ho,hwant]
   cases b with
   | false =>
    simp only[aC,aW]
    obtain⟨g1,g2,g3⟩:=hb2 rfl
    refine hfin _ _ (.inl ⟨q,hbd,fun e he=>hkeep q g2 e he (hq e he),hput _ _ _ _ _ ⟨St,β,hcore.put o.dst ?_⟩⟩)
    rw[g1]
    simp only[AVR]
   | true =>
    simp only[aX]
    left
    cases hEi:E i with
    | false =>
     obtain⟨g1,g2⟩:=hb4 rfl hEi
     have hqs:q≤ops.size:=by
      exact AOa
     have hd:=g2 q hbd hqs (fun e he hbt=>(hq e he).1 (DZ hbt hafter)) (fun e oe _ hoe he hbt=>by
      rcases bQ e q with h' | h'
      ·have:=(hq e he).2 h'
       exact AOY
      ·exact h')
     have hstep:=P_ (P:=P) (s:=⟨n,Bi ops R env (fun _=>true) i,S q⟩) (s':=⟨n,Bi ops R env (fun i=>listed.getD i false) ops.size,S q⟩) rfl o.op hop (R i) hd
     exact Oper.wp_mono (fun a' w' hs=>hfin a' w' (.inl ⟨q,hbd,fun e he=>hkeep q hEi e he (hq e he),hput _ _ _ _ _ hs⟩)) (XM hcore o (Lj hops ho) hstep Q)
    | true =>
     obtain⟨g1,g2,g3⟩:=hb3 rfl hEi
     have hiq:q≤i:=by
      have:¬ i<q:=fun h'=>by have:=(hq i hEi).2 h'; rw[this] at hun'; cases hun'
      omega
     have heff:(∀ e,E e=true→e<i→e<q)→o.wp P a w (fun a' w'=>wpAny P .any ops Q fuel (listed.setIfInBounds i true) a' w') Q:=by
      intro hprev
      have eS:S i=S q:=hstay2 q i hiq AOh fun e x1 x2=>by
       exact AOU
      rw[eS] at g2
      have hstep:=Tq (P:=P) (s:=⟨n,Bi ops R env (fun _=>true) i,S q⟩) (s':=⟨n,Bi ops R env (fun i=>listed.getD i false) ops.size,S q⟩) rfl o.op g1 hop g2
      exact Oper.wp_mono (fun a' w' hs=>hfin a' w' (.inl ⟨i+1,.inr ⟨i,hEi,rfl⟩,fun e he=>hset q (i+1) (fun e he=>⟨fun h=>by
       rcases bQ e i with h' | h'
       ·exact .inl (hprev e he h')
       ·exact .inr AOh,fun h=>by
       rcases h with h | h
       ·omega
       ·omega⟩) e he (hq e he),hput _ _ _ _ _ hs⟩)) (eY hcore o (Lj hops ho) hstep Q)
     by_cases hxi:∃ p,x=some (i,p)∧E p=true∧(∀ e,E e=true→e<i→e≤p)∧¬ p<q
     ·
      obtain⟨p,hxx,hEp,hle,hpq⟩:=hxi
      subst hxx
      obtain⟨⟨T,hT⟩,_,_,_,hpi,_⟩:=pR hx ho
      rw[hT] at g2
      simp only[Ez,WZ] at g2
      refine Oper.wp_mono (fun a' w' hs=>?_) (AER hcore o T hT g2 Q)
      obtain⟨wg,bg,hgh,hsim⟩:=hs
      refine hfin a' w' (.inr ⟨i,p,q,bg,wg,T,o,rfl,ho,hT,hEi,hEp,hle,hbd,AOh,by rw[Ij hi2]; simp,fun e he hne=>?_,hgh, ?_⟩)
      ·rw[Ij hi2]
       have e1:¬ i=e:=fun h=>hne h.symm
       simp only[e1,aW]
       exact hq e he
      ·refine hput wg (RJ R i bg) (S q) a' w' ?_
       have e1:RJ R i bg i = .pin .un (eu bg):=by simp[RJ]
       rw[e1]
       refine hsim.congr ?_ ?_ fun t=>?_
       ·exact AMI
       ·exact AMI
       ·have e2:∀ m,Bi ops (RJ R i bg) env (fun i=>listed.getD i false) m=Bi ops R env (fun i=>listed.getD i false) m:=by
         intro m
         induction m with
         | zero=>rfl
         | succ m ihm =>
          simp only[Bi,ihm]
          by_cases hm:m=i
          ·subst hm
           simp only[hun',aC,aW]
          ·simp only[RJ,hm,aW]
        rw[e2]
     ·refine heff ?_
      have key:∀ d e,i-e≤d→E e=true→e<i→e<q:=by
       intro d
       induction d with
       | zero=>intro e h1 _ h3; omega
       | succ d ihd =>
        intro e h1 he hei
        by_cases hex:∃ e',e<e'∧e'<i∧E e'=true
        ·exact AOZ
        ·have hbt:=g3 e he hei fun e' x1 x2=>by
          exact AON
         rcases hbt with hbt | ⟨p,hp1,hp2,hp3⟩
         ·exact(hq e he).1 (DZ hbt hafter)
         ·have hpq:p<q:=by
           rcases bQ p q with h' | h'
           ·exact h'
           ·refine absurd ⟨p,hp1,hp2,fun e' he' hei'=>?_,AOh⟩ hxi
            have:e'≤e:=by
             rcases bQ e e' with h2 | h2
             ·exact absurd ⟨e',h2,hei',he'⟩ hex
             ·exact h2
            omega
          omega
      exact fun e he hei=>key (i-e) e (aT _) he hei
  ·
   subst hxx
   obtain⟨_,haft,_,⟨d,hd⟩,hpj,hbp⟩:=pR hx hoj
   have hnj:i≠j:=fun e=>by subst e; rw[hlj] at hun'; cases hun'
   have hpl:listed.getD p false=false:=by
    cases hc:listed.getD p false with
    | false=>rfl
    | true=>have:=(hq p hEp AOh).1 hc; omega
   have hnb:Be o j=false:=by
    cases hc:Be o j with
    | false=>rfl
    | true =>
     have:=DZ (hbp i o ho hc) hafter
     rw[this] at hpl; cases hpl
   have hRR:∀ k,Be o k=true→RJ R j bg k=R k:=fun k hk=>by
    have:¬ k=j:=fun e=>by subst e; rw[hnb] at hk; cases hk
    simp only[RJ,this,aW]
   have hop:=hmix (RJ R j bg) hRR
   have hRi:RJ R j bg i=R i:=by simp only[RJ,hnj,aW]
   have hg1:=hb1
   rw[← XN (hread (RJ R j bg) hRR)] at hg1
   have hwant:=pG hcore (o:=o) hg1
   have hlj':(listed.setIfInBounds i true).getD j false=true:=by rw[Ij hi2,hlj]; simp
   simp only[ho,hwant]
   cases b with
   | false =>
    simp only[aC,aW]
    obtain⟨g1,g2,g3⟩:=hb2 rfl
    refine hfin _ _ (.inr ⟨j,p,q,bg,wg,T,oj,rfl,hoj,hopj,hEj,hEp,hle,hbd,hqp,hlj',fun e he hne=>hkeep q g2 e he (hq e he hne),hg,hput _ _ _ _ _ ⟨St,β,hcore.put o.dst ?_⟩⟩)
    rw[hRi,g1]
    simp only[AVR]
   | true =>
    simp only[aX]
    left
    cases hEi:E i with
    | false =>
     obtain⟨g1,g2⟩:=hb4 rfl hEi
     have hqs:q≤ops.size:=by
      exact AOa
     have hd2:=g2 q hbd hqs (fun e he hbt=>(hq e he (fun h=>by subst h; rw[hnb] at hbt; cases hbt)).1 (DZ hbt hafter)) (fun e oe _ hoe he hbt=>by
      by_cases hej:e=j
      ·omega
      ·rcases bQ e q with h' | h'
       ·have:=(hq e he hej).2 h'
        exact AOY
       ·exact h')
     have hstep:=P_ (P:=P) (s:=⟨n,Bi ops R env (fun _=>true) i,S q⟩) (s':=⟨n,Bi ops (RJ R j bg) env (fun i=>listed.getD i false) ops.size,S q⟩) rfl o.op hop (R i) hd2
     exact Oper.wp_mono (fun a' w' hs=>hfin a' w' (.inr ⟨j,p,q,bg,wg,T,oj,rfl,hoj,hopj,hEj,hEp,hle,hbd,hqp,hlj',fun e he hne=>hkeep q hEi e he (hq e he hne),hg,hput _ _ _ _ _ (by rw[hRi]; exact hs)⟩)) (XM hcore o (Lj hops ho) hstep Q)
    | true =>
     obtain⟨g1,g2,g3⟩:=hb3 rfl hEi
     have hlisted:∀ e,E e=true→e<i→(∀ e',e<e'→e'<i→E e'=false)→listed.getD e false=true∧e≠j:=fun e he hei hno=>by
      rcases g3 e he hei hno with hbt | ⟨p',hp1,_,_⟩
      ·exact⟨DZ hbt hafter,fun h=>by subst h; rw[hnb] at hbt; cases hbt⟩
      ·simp only[ak,bK] at hp1
       exact absurd hp1.1.symm hnj
     have key:∀ d e,i-e≤d→E e=true→e<i→e<q:=by
      intro d
      induction d with
      | zero=>intro e h1 _ h3; omega
      | succ d ihd =>
       intro e h1 he hei
       by_cases hex:∃ e',e<e'∧e'<i∧E e'=true
       ·exact AOZ
       ·obtain⟨y1,y2⟩:=hlisted e he hei fun e' x1 x2=>by
         exact AON
        exact(hq e he y2).1 y1
     have hprev:∀ e,E e=true→e<i→e<q:=fun e he hei=>key (i-e) e (aT _) he hei
     have hij:i<j:=by
      rcases bQ i j with h' | h'
      ·exact h'
      ·have:=hprev j hEj AOh; omega
     have hip:i≤p:=hle i hEi hij
     have hiq:q≤i:=by
      have:¬ i<q:=fun h'=>by have:=(hq i hEi hnj).2 h'; rw[this] at hun'; cases hun'
      omega
     have eS:S i=S q:=hstay2 q i hiq AOh fun e x1 x2=>by
      exact AOU
     rw[eS] at g2
     have hstep:=Tq (P:=P) (s:=⟨n,Bi ops R env (fun _=>true) i,S q⟩) (s':=⟨n,Bi ops (RJ R j bg) env (fun i=>listed.getD i false) ops.size,S q⟩) rfl o.op g1 hop g2
     refine Oper.wp_mono (fun a' w' hs=>hfin a' w' ?_) (eY hcore o (Lj hops ho) hstep Q)
     have hs2:Sim wg St0 ⟨n,Bi ops (RJ R j bg) env (fun j=>(listed.setIfInBounds i true).getD j false) ops.size,S (i+1)⟩ a' w':=hput _ _ _ _ _ (by rw[hRi]; exact hs)
     have hq2:∀ e,E e=true→e≠j→((listed.setIfInBounds i true).getD e false=true↔e<i+1):=fun e he hne=>hset q (i+1) (fun e he=>⟨fun h=>by
      rcases bQ e i with h' | h'
      ·exact .inl (hprev e he h')
      ·exact .inr AOh,fun h=>by
      rcases h with h | h
      ·omega
      ·omega⟩) e he (hq e he hne)
     by_cases hpi:i=p
     ·
      left
      subst hpi
      obtain⟨bj,hj1,hj2,hj3,_⟩:=hR j oj hoj
      have hbj:bj=true:=by
       cases bj with
       | true=>rfl
       | false=>have:=(hj2 rfl).2.1; rw[hEj] at this; cases this
      obtain⟨_,k2,_⟩:=hj3 hbj hEj
      rw[hopj] at k2
      simp only[Ez,WZ] at k2
      have eSj:S j=S (i+1):=hstay2 (i+1) j AOh (Nat.le_of_lt (hE j hEj)) fun e x1 x2=>by
       cases hc:E e with
       | false=>rfl
       | true=>have:=hle e hc x2; omega
      rw[eSj] at k2
      obtain⟨St2,β2,hc2⟩:=hs2
      have hjd:(ops[j]?).bind (·.dst)=some d:=by simp[hoj,hd]
      have hpt:a'.tmps.getD d Go.undef=eu bg:=by
       have:=hc2.env d
       rw[Fb (X:=fun j=>(listed.setIfInBounds i true).getD j false) hdst hjd hlj' ops.size (hE j hEj)] at this
       simp only[RJ,aX,AVR] at this
       rw[← Tc (w0:=wg) (bP ((GL hok hoj).2 d hd) hc2.lim)]
       exact this.1
      obtain⟨β3,hc3⟩:=hg.adopt hc2 k2 hpt
      refine⟨j+1,.inr ⟨j,hEj,rfl⟩,fun e he=>?_,⟨St2,β3,hc3.congr rfl rfl fun t=>?_⟩⟩
      ·by_cases hej:e=j
       ·subst hej; rw[hlj']; simp
       ·rw[hq2 e he hej]
        constructor
        ·intro h; omega
        ·intro h
         have:=hle e he AOh
         omega
      ·simp only[Cb]
       by_cases e1:d=t
       ·subst e1
        simp only[aX]
        rw[Fb (X:=fun j=>(listed.setIfInBounds i true).getD j false) hdst hjd hlj' ops.size (hE j hEj)]
       ·simp only[e1,aW]
        by_cases hjx:∃ (k:Nat),(ops[k]?).bind (·.dst)=some t
        ·obtain⟨k,hk⟩:=hjx
         have hks:k<ops.size:=by
          cases hok2:ops[k]? with
          | none=>simp[hok2] at hk
          | some ok=>exact(bJ.1 hok2).1
         have hkj:¬ k=j:=fun e=>by subst e; rw[hjd] at hk; exact e1 (uV hk)
         cases hl:(listed.setIfInBounds i true).getD k false with
         | true =>
          rw[Fb (X:=fun j=>(listed.setIfInBounds i true).getD j false) hdst hk hl ops.size hks,Fb (X:=fun j=>(listed.setIfInBounds i true).getD j false) hdst hk hl ops.size hks]
          simp only[RJ,hkj,aW]
         | false =>
          rw[BV (X:=fun j=>(listed.setIfInBounds i true).getD j false) ops.size (fun m _ hm=>by have:=hdst m k t hm hk; subst this; exact hl),BV (X:=fun j=>(listed.setIfInBounds i true).getD j false) ops.size (fun m _ hm=>by have:=hdst m k t hm hk; subst this; exact hl)]
        ·rw[BV (X:=fun j=>(listed.setIfInBounds i true).getD j false) ops.size (fun m _ hm=>(hjx ⟨m,hm⟩).elim),BV (X:=fun j=>(listed.setIfInBounds i true).getD j false) ops.size (fun m _ hm=>(hjx ⟨m,hm⟩).elim)]
     ·right
      exact⟨j,p,i+1,bg,wg,T,oj,rfl,hoj,hopj,hEj,hEp,hle,.inr ⟨i,hEi,rfl⟩,AOh,hlj',hq2,hg,hs2⟩
structure InvE (P:Program) (n:Nat) (ops:Array Oper) (x:Option (Nat×Nat)) (env:List (Nat×AV)) (k:Nat) (R:Nat→AV) (S:Nat→List Ob) (E:Nat→Bool) (H:List (Nat×List Ob)) (pd:List PE):Prop where
 below:∀ e,E e=true→e<k
 hist:∀ q,Bd E q→(q,S q)∈H
 histB:∀ h∈H,Bd E h.1
 head:∃ q0 st0 H',H=(q0,st0)::H'∧∀ e,E e=true→e<q0
 pend:∀ (i:Nat) (o:Oper),i<k→ops[i]?=some o→pF ops (Bi ops R env (fun _=>true) i) o.guard=some true→E i=false→(∀ e oe,ops[e]?=some oe→E e=true→Be oe i=false)→(⟨i,o.op,Bi ops R env (fun _=>true) i,R i⟩:PE)∈pd
 spec:∀ (i:Nat) (o:Oper),i<k→ops[i]?=some o→Vq P n ops x env R S E k i o
theorem kZ {E:Nat→Bool} {o:Oper} {q:Nat} (hq:∀ e,E e=true→Be o e=true→e<q):∀ {H:List (Nat×List Ob)},(∀ h∈H,Bd E h.1)→XP o q H=true
 | [],_=>rfl
 | h::H,hB=>by
  simp only[XP,ay,qw,bf]
  refine⟨?_,kZ hq fun h' hh=>hB h' (by simp[hh])⟩
  rcases hB h AOi with h0 | ⟨e,he,h1⟩
  ·left; omega
  grind
theorem ku {n:Nat} {env:List (Nat×AV)} {o:Oper} {r:AV} {H:List (Nat×List Ob)}:∀ {G:List (Nat×List Ob)},XQ P n env o r H G→∀ h∈G,XP o h.1 H=true→CU P ⟨n,env,h.2⟩ o.op r
 | [],_,h,hh,_=>by simp at hh
 | g::G,hp,h,hh,ha=>by
  simp only[XQ,CondK] at hp
  rcases dh.1 hh with rfl | hh
  ·grind
  ·exact ku hp.2 h hh ha
theorem kw {n:Nat} {oe:Oper} {st':List Ob}:∀ {ps:List PE},XR P n oe st' ps→∀ p∈ps,Be oe p.i=false→CU P ⟨n,p.env,st'⟩ p.o p.r
 | [],_,p,hp,_=>by simp at hp
 | q::ps,h,p,hp,hb=>by
  simp only[XR,CondK] at h
  rcases dh.1 hp with rfl | hp
  ·grind
  ·exact kw h.2 p hp hb
theorem kz {oe:Oper}:∀ {ps:List PE} {p:PE},p∈ps→Be oe p.i=false→p∈UU oe ps
 | [],p,h,_=>AO_
 | q::ps,p,h,hb=>by
  simp only[UU]
  rcases dh.1 h with rfl | h
  ·rw[hb]; simp
  ·have:=kz h hb
   grind
theorem zU {n:Nat} {ops:Array Oper} {x:Option (Nat×Nat)} {K:MS→Prop} (hok:FP n ops=true) (env:List (Nat×AV)):∀ (l:List Oper) (k:Nat) (R:Nat→AV) (S:Nat→List Ob) (E:Nat→Bool) (H:List (Nat×List Ob)) (pd:List PE),(∀ j,l[j]?=ops[k+j]?)→k+l.length=ops.size →
  InvE P n ops x env k R S E H pd→vpE P x ops K l k H pd ⟨n,Bi ops R env (fun _=>true) k,S k⟩ →
  ∃ (R':Nat→AV) (S':Nat→List Ob) (E':Nat→Bool),K ⟨n,Bi ops R' env (fun _=>true) ops.size,S' ops.size⟩∧S' 0=S 0∧(∀ e,E' e=true→e<ops.size)∧∀ (i:Nat) (o:Oper),ops[i]?=some o→Vq P n ops x env R' S' E' ops.size i o:=by
 intro l
 induction l with
 | nil =>
  intro k R S E H pd hl hk hI h
  simp only[y7,abJ] at hk
  subst hk
  exact⟨R,S,E,h,rfl,hI.below,fun i o ho=>hI.spec i o (bJ.1 ho).1 ho⟩
 | cons o l ih =>
  intro k R S E H pd hl hk hI h
  have ho:ops[k]?=some o:=by simpa using(hl 0).symm
  have hks:k<ops.size:=(bJ.1 ho).1
  have hEk:∀ e,k≤e→E e=false:=fun e he=>by
   cases hc:E e with
   | false=>rfl
   | true=>have:=hI.below e hc; omega
  simp only[vpE,Tj,gE,AEK,CondK] at h
  have hSk:∀ st',(fun j=>if j≤k then S j else S k) (k+1)=(fun j=>if j≤k then S j else st') k:=fun st'=>by
   have h1:¬ k+1≤k:=AOh
   simp only[h1,aW,aT,aX]
  have put:∀ (r:AV) (st':List Ob),MS.put ⟨n,Bi ops R env (fun _=>true) k,st'⟩ o.dst r=⟨n,Bi ops (fun i=>if i=k then r else R i) env (fun _=>true) (k+1),st'⟩:=fun r st'=>by
   have e1:=UV (ops:=ops) (env:=env) (R1:=fun i=>if i=k then r else R i) (R2:=R) k (fun i hi=>AOj)
   simp only[Bi,ho,abu,e1]
   cases hd:o.dst with
   | none=>simp only[MS.put]
   | some d =>
    have:=(GL hok ho).2 d hd
    simp[MS.put,this]
  have go:∀ (r:AV) (st':List Ob) (eff:Bool) (H':List (Nat×List Ob)) (pd':List PE),vpE P x ops K l (k+1) H' pd' (MS.put ⟨n,Bi ops R env (fun _=>true) k,st'⟩ o.dst r) →
    InvE P n ops x env (k+1) (fun i=>if i=k then r else R i) (fun j=>if j≤k then S j else st') (fun i=>if i=k then eff else E i) H' pd' →
    ∃ (R':Nat→AV) (S':Nat→List Ob) (E':Nat→Bool),K ⟨n,Bi ops R' env (fun _=>true) ops.size,S' ops.size⟩∧S' 0=S 0∧(∀ e,E' e=true→e<ops.size)∧∀ (i:Nat) (o:Oper),ops[i]?=some o→Vq P n ops x env R' S' E' ops.size i o:=by
   intro r st' eff H' pd' hv hI'
   rw[put] at hv
   have e2:st'=(fun j=>if j≤k then S j else st') (k+1):=(aZ AOh).symm
   rw[e2] at hv
   obtain⟨R',S',E',x1,x2,x3,x4⟩:=ih (k+1) _ _ _ H' pd' (fun j=>by
    have:=hl (j+1)
    simpa [Nat.add_assoc,Nat.add_comm 1 j] using this) (by simp only[df] at hk; omega) hI' hv
   exact⟨R',S',E',x1,by simpa using x2,x3,x4⟩
  have hag:∀ (r:AV) (i:Nat),i≤k→Bi ops (fun i=>if i=k then r else R i) env (fun _=>true) i=Bi ops R env (fun _=>true) i:=fun r i hi=>UV i fun j hj=>AOj
  have keepSpec:∀ (r:AV) (st':List Ob) (eff:Bool),(eff=true→∀ (i:Nat) (oi:Oper),i<k→ops[i]?=some oi→pF ops (Bi ops R env (fun _=>true) i) oi.guard=some true→E i=false→(∀ e oe,ops[e]?=some oe→E e=true→Be oe i=false)→Be o i=false→CU P ⟨n,Bi ops R env (fun _=>true) i,st'⟩ oi.op (R i)) →
    ∀ (i:Nat) (oi:Oper),i<k→ops[i]?=some oi→Vq P n ops x env (fun i=>if i=k then r else R i) (fun j=>if j≤k then S j else st') (fun i=>if i=k then eff else E i) (k+1) i oi:=by
   intro r st' eff hnew i oi hi hoi
   obtain⟨b,s1,s2,s3,s4⟩:=hI.spec i oi hi hoi
   have hne:¬ i=k:=AOh
   have hle:i≤k:=AOh
   have hle1:i+1≤k:=AOh
   refine⟨b,by rw[hag r i hle]; exact s1,fun hb=>?_,fun hb he=>?_,fun hb he=>?_⟩
   ·simpa only[hne,aW,hle,hle1,aX] using s2 hb
   ·simp only[hne,aW] at he
    obtain⟨y1,y2,y3⟩:=s3 hb he
    refine⟨y1,by simp only[hne,aW,hle,hle1,aX]; rw[hag r i hle]; exact y2,fun e hee hei hno=>(y3 e ?_ hei fun e' z1 z2=>?_).imp id fun⟨p,hp1,hp2,hp3⟩=>⟨p,hp1, ?_,hp3⟩⟩
    ·have:¬ e=k:=by omega
     simpa only[this,aW] using hee
    ·have:=hno e' z1 z2
     have h2:¬ e'=k:=AOh
     simpa only[h2,aW] using this
    ·have:¬ p=k:=by have:=hI.below p hp2; omega
     simpa only[this,aW] using hp2
   ·simp only[hne,aW] at he
    obtain⟨y1,y2⟩:=s4 hb he
    refine⟨by simpa only[hle,hle1,aX] using y1,fun q hbd hq hpast hfut=>?_⟩
    simp only[hne,aW]
    rw[hag r i hle]
    have hpast':∀ e,E e=true→Be oi e=true→e<q:=fun e hee hbt=>hpast e (by
     have:¬ e=k:=by have:=hI.below e hee; omega
     simpa only[this,aW] using hee) hbt
    by_cases hqk:q≤k
    ·simp only[hqk,aX]
     refine y2 q ?_ hqk hpast' fun e oe hek hoe hee hbt=>hfut e oe AOh hoe (by
      have:¬ e=k:=AOh
      simpa only[this,aW] using hee) hbt
     rcases hbd with rfl | ⟨e,hee,rfl⟩
     ·exact .inl rfl
     ·have:¬ e=k:=by omega
      simp only[this,aW] at hee
      exact .inr ⟨e,hee,rfl⟩
    ·have hq2:q=k+1:=by omega
     subst hq2
     have hek:eff=true:=by
      rcases hbd with h0 | ⟨e,hee,h1⟩
      ·omega
      ·have:e=k:=by omega
       subst this
       simpa using hee
     simp only[hqk,aW]
     subst hb
     refine hnew hek i oi hi hoi s1 he (fun e oe hoe hee=>?_) ?_
     ·cases hc:Be oe i with
      | false=>rfl
      | true =>
       have h2:=hI.below e hee
       have:=hfut e oe AOh hoe (by
        have:¬ e=k:=AOh
        simpa only[this,aW] using hee) hc
       omega
     ·cases hc:Be o i with
      | false=>rfl
      | true =>
       have:=hfut k o AOh ho (by simpa using hek) hc
       omega
  have readInv:∀ (r:AV) (pd':List PE),(∀ p∈pd,p∈pd')→(pF ops (Bi ops R env (fun _=>true) k) o.guard=some true→(⟨k,o.op,Bi ops R env (fun _=>true) k,r⟩:PE)∈pd') →
    Vq P n ops x env (fun i=>if i=k then r else R i) (fun j=>if j≤k then S j else S k) (fun i=>if i=k then false else E i) (k+1) k o→InvE P n ops x env (k+1) (fun i=>if i=k then r else R i) (fun j=>if j≤k then S j else S k) (fun i=>if i=k then false else E i) H pd':=by
   intro r pd' hpd hnewp hs
   have hEE:∀ e,(if e=k then false else E e)=true↔E e=true:=fun e=>by
    by_cases h':e=k
    ·subst h'; simp[hEk e (aT _)]
    ·simp[h']
   have hBd:∀ q,Bd (fun i=>if i=k then false else E i) q↔Bd E q:=fun q=>by
    unfold Bd
    simp only[hEE]
   refine⟨fun e he=>?_,fun q hq=>?_,fun h hh=>(hBd _).2 (hI.histB h hh), ?_,fun i oi hi hoi hg hE0 hno=>?_,fun i oi hi hoi=>?_⟩
   ·have:=hI.below e ((hEE e).1 he); omega
   ·have hq':=(hBd q).1 hq
    have hqk:q≤k:=by
     rcases hq' with rfl | ⟨e,he,rfl⟩
     ·omega
     ·exact hI.below e he
    simp only[hqk,aX]
    exact hI.hist q hq'
   ·obtain⟨q0,st0,H',e1,e2⟩:=hI.head
    exact⟨q0,st0,H',e1,fun e he=>e2 e ((hEE e).1 he)⟩
   ·rcases bQ i k with h' | h'
    ·have hne:¬ i=k:=by omega
     simp only[hne,aW] at hE0 ⊢
     rw[hag r i AOh] at hg ⊢
     exact hpd _ (hI.pend i oi h' hoi hg hE0 fun e oe hoe hee=>hno e oe hoe ((hEE e).2 hee))
    ·have:i=k:=by omega
     subst this
     rw[ho] at hoi
     cases hoi
     rw[hag r i (aT _)] at hg ⊢
     simpa using hnewp hg
   ·rcases bQ i k with h' | h'
    ·exact keepSpec r (S k) false (fun h=>APk) i oi h' hoi
    ·have:i=k:=by omega
     subst this
     rw[ho] at hoi
     cases hoi
     exact hs
  split at h
  ·rename_i b hb
   cases b with
   | false =>
    refine go .undef (S k) false H pd (h.2 rfl) (readInv .undef pd (fun _ h=>h) (fun hg=>by rw[hb] at hg; cases hg) ?_)
    unfold Vq
    refine⟨false,by rw[hag _ k (aT _)]; exact hb,fun _=>⟨AOi,AOi,hSk (S k)⟩,fun h=>Bool.noConfusion h,fun h=>Bool.noConfusion h⟩
   | true =>
    have h1:=h.1 rfl
    cases heff:YO o.op with
    | false =>
     obtain⟨r,hr1,hr2,hr3⟩:=h1.2 heff
     refine go r (S k) false H _ hr3 (readInv r _ (fun p hp=>aa3 _ hp) (fun _=>abz ..) ?_)
     unfold Vq
     refine⟨true,by rw[hag _ k (aT _)]; exact hb,fun h=>Bool.noConfusion h,fun _ he=>by simp at he,fun _ _=>⟨hSk (S k),fun q hbd hq hpast hfut=>?_⟩⟩
     have hbd':Bd E q:=by
      rcases hbd with rfl | ⟨e,hee,rfl⟩
      ·exact .inl rfl
      ·by_cases h':e=k
       ·simp[h'] at hee
       ·simp only[h',aW] at hee
        exact .inr ⟨e,hee,rfl⟩
     have hqk:q≤k:=by
      rcases hbd' with rfl | ⟨e,he,rfl⟩
      ·omega
      ·exact hI.below e he
     have hpast':∀ e,E e=true→Be o e=true→e<q:=fun e hee hbt=>hpast e (by
      have:¬ e=k:=by have:=hI.below e hee; omega
      simpa only[this,aW] using hee) hbt
     simp only[hqk,aX]
     rw[hag r k (aT _)]
     exact ku hr2 (q,S q) (hI.hist q hbd') (kZ hpast' hI.histB)
    | true =>
     have h2:=h1.1 heff
     cases hch:XT x k o H with
     | false=>exact(h2.2 hch).elim
     | true =>
      have h3:=h2.1 hch
      have h4:∃ y st',Ez P ⟨n,Bi ops R env (fun _=>true) k,S k⟩ o.op y st'∧AFy P o ⟨n,Bi ops R env (fun _=>true) k,S k⟩ H pd k (vpE P x ops K l (k+1)) y st':=by
       generalize hop:o.op=op at h3
       cases op with
       | call c =>
        simp only[AEJ,PK,uz,Ti] at h3
        split at h3
        ·rename_i f hcl
         rcases h3 with h3 | h3 | ⟨y,st',h3,hk2⟩
         rotate_right
         ·refine⟨y,st', ?_,hk2⟩
          simp only[Ez,hcl]
          exact .inr (.inr h3)
         ·split at h3
          ·rename_i args st1 hf
           obtain⟨rs,hc,hk2⟩:=h3
           refine⟨_,_, ?_,hk2⟩
           simp only[Ez,hcl]
           exact .inl ⟨args,rs,st1,hf,hc,rfl,rfl⟩
          ·exact h3.elim
         ·obtain⟨args,rs,hf,hcl2,hc,hk2⟩:=h3
          refine⟨_,_, ?_,hk2⟩
          simp only[Ez,hcl]
          exact .inr (.inl ⟨args,rs,hf,hcl2,hc,rfl,rfl⟩)
        ·rename_i hne
         exact ANa
       | _ =>
        simp only[AEJ,Ti] at h3
        exact ANa
      obtain⟨y,st',g1,g2,g3⟩:=h4
      refine go y st' true _ _ g3 ?_
      have hEE:∀ e,(if e=k then true else E e)=true↔(E e=true∨e=k):=fun e=>by
       by_cases h':e=k
       ·simp[h']
       ·simp[h']
      refine⟨fun e he=>?_,fun q hq=>?_,fun h hh=>?_,⟨k+1,st',H,rfl,fun e he=>?_⟩,fun i oi hi hoi hg hE0 hno=>?_,fun i oi hi hoi=>?_⟩
      ·exact AOS
      ·rcases hq with rfl | ⟨e,he,rfl⟩
       ·simp only[az,aX]
        exact aa3 _ (hI.hist 0 (.inl rfl))
       ·rcases(hEE e).1 he with h' | h'
        ·have:=hI.below e h'
         have h2:e+1≤k:=AOh
         simp only[h2,aX]
         exact aa3 _ (hI.hist _ (.inr ⟨e,h',rfl⟩))
        ·subst h'
         have h2:¬ e+1≤e:=AOh
         simp only[h2,aW]
         exact abz ..
      ·rcases dh.1 hh with rfl | hh
       ·exact .inr ⟨k,AOi,rfl⟩
       ·rcases hI.histB h hh with h0 | ⟨e,he,h1⟩
        ·exact .inl h0
        ·exact .inr ⟨e,(hEE e).2 (.inl he),h1⟩
      ·exact AOS
      ·have hlt:i<k:=by
        rcases bQ i k with h' | h'
        ·exact h'
        ·have:i=k:=by omega
         subst this
         simp at hE0
       have hne:¬ i=k:=AOh
       simp only[hne,aW] at hE0 ⊢
       rw[hag y i AOh] at hg ⊢
       refine kz (hI.pend i oi hlt hoi hg hE0 fun e oe hoe hee=>hno e oe hoe ((hEE e).2 (.inl hee))) ?_
       exact hno k o ho AOi
      ·rcases bQ i k with h' | h'
       ·refine keepSpec y st' true (fun _ j oj hj hoj hg hE0 hno hbo=>?_) i oi h' hoi
        exact kw g2 _ (hI.pend j oj hj hoj hg hE0 hno) hbo
       ·have:i=k:=by omega
        subst this
        rw[ho] at hoi
        cases hoi
        unfold Vq
        refine⟨true,by rw[hag y i (aT _)]; exact hb,fun h=>Bool.noConfusion h,fun _ _=>⟨heff, ?_,fun e hee hei hno=>?_⟩,fun _ he=>by simp at he⟩
        ·have h2:¬ i+1≤i:=by omega
         simp only[aT,aX,h2,aW]
         rw[hag y i (aT _)]
         exact g1
        ·have hne:¬ e=i:=by omega
         simp only[hne,aW] at hee
         obtain⟨q0,st0,H',e1,e2⟩:=hI.head
         have hb0:=hI.histB (q0,st0) (by rw[e1]; exact abz ..)
         rw[e1] at hch
         rcases hb0 with h0 | ⟨e0,he0,h1⟩
         ·have:=e2 e hee
          simp only at h0
          omega
         ·simp only at h1
          have hlt:=e2 e hee
          have hi0:=hI.below e0 he0
          have hold:chainB o ((q0,st0)::H')=true→Be o e=true:=fun hch=>by
           by_cases heq:e=e0
           ·subst heq
            simp only[chainB,h1] at hch
            exact hch
           ·have:=hno e0 AOh hi0
            have hne0:¬ e0=i:=AOh
            simp only[hne0,aW] at this
            rw[he0] at this; cases this
          cases x with
          | none=>exact .inl (hold hch)
          | some jp =>
           obtain⟨j,p⟩:=jp
           simp only[XT] at hch
           by_cases hij:i=j
           ·subst hij
            simp only[aX,pO,bf] at hch
            have hp:e0=p:=AOh
            subst hp
            have hne0:¬ e0=i:=AOh
            exact .inr ⟨e0,rfl,by simp only[hne0,aW]; exact he0,AOh⟩
           ·rw[aZ hij] at hch
            exact .inl (hold hch)
  ·exact h.elim
theorem Vr {ops:Array Oper} {x:Option (Nat×Nat)} (hx:zQ ops x=true) (hok:FP s.n ops=true) (hops:(ops.toList.all fun o=>o.op.operands.toList.all Au)=true) (h:Core w0 St0 St β s a w) {K:MS→Prop} (hK:vpE P x ops K ops.toList 0 [(0,s.st)] [] s) :
  wpAny P .any ops (fun e a' w'=>e = .normal∧∃ s',K s'∧s'.n=s.n∧Sim w0 St0 s' a' w') ops.size (Array.replicate ops.size false) a { w with drawn:=w.drawn+1 }:=by
 have hI:InvE P s.n ops x s.env 0 (fun _=>.un) (fun _=>s.st) (fun _=>false) [(0,s.st)] []:=by
  refine⟨fun e he=>?_,fun q hq=>?_,fun h hh=>?_,⟨0,s.st,[],rfl,fun e he=>?_⟩,fun i o hi=>?_,fun i o hi=>?_⟩
  ·cases he
  ·rcases hq with rfl | ⟨e,he,_⟩
   ·simp
   ·cases he
  ·simp only[dh,List.not_mem_nil,or_false] at hh
   subst hh
   exact .inl rfl
  ·cases he
  ·omega
  ·omega
 obtain⟨R,S,E,hKs,hS0,hE,hR⟩:=zU (K:=K) hok s.env ops.toList 0 (fun _=>.un) (fun _=>s.st) (fun _=>false) [(0,s.st)] [] (fun j=>AOi) AOi hI (by simpa [Bi] using hK)
 have hgrow:Core w0 St0 St β s a { w with drawn:=w.drawn+1 }:=h.grow (w':={ w with drawn:=w.drawn+1 }) ⟨rfl,rfl,rfl,aT _,fun _ _=>rfl⟩ (fun _ _ h=>h) (fun _ _ h _=>h) h.stIn
 have hno:∀ i,(Array.replicate ops.size false).getD i false=false:=fun i=>by
  simp[aa1]
  split<;>rfl
 refine ACQ (P:=P) (n:=s.n) hok hops s.env R S E x hx hR hE _ (fun a w hs=>⟨rfl,_,hKs,rfl,hs⟩) ops.size (Array.replicate ops.size false) a _ AOi ?_ ?_ (.inl ⟨0,.inl rfl,fun e he=>?_, ?_⟩)
 ·grind
 ·grind
 ·grind
 ·refine⟨St,β,hgrow.congr rfl (by rw[hS0]) fun t=>?_⟩
  grind [BV]
theorem YQ {ops:Array Oper} (hok:FP s.n ops=true) (hops:(ops.toList.all fun o=>o.op.operands.toList.all Au)=true) (h:Core w0 St0 St β s a w) {K:MS→Prop} (hv:AEL P ops s K) :
  ∀ L,Hw ops (Array.replicate ops.size false) L→wpOps P ops (fun e a' w'=>e = .normal∧∃ s',K s'∧s'.n=s.n∧Sim w0 St0 s' a' w') L a { w with drawn:=w.drawn+1 }:=by
 intro L hL
 rcases hv with ⟨ls,st',hf,hv⟩ | ⟨x,hx,hv⟩ | hv
 ·obtain⟨St1,h1⟩:=eU ls s.st st' St h hf
  exact QA L _ _ _ _ (YM AOh hops h1 hv) hL
 ·exact QA L _ _ _ _ (Vr hx hok hops h hv) hL
 ·exact QA L _ _ _ _ (hv w0 St0 St β a w h) hL
theorem OT {K:MS→Prop} (h:Core w0 St0 St β s a w):∀ (d:Nat) (ops:Array Oper),FP s.n ops=true→(ops.toList.all fun o=>o.op.operands.toList.all Au)=true→DrawX P d ops s K →
  ∀ L,Hw ops (Array.replicate ops.size false) L→wpOps P ops (fun e a' w'=>e = .normal∧∃ s',K s'∧s'.n=s.n∧Sim w0 St0 s' a' w') L a { w with drawn:=w.drawn+1 }
 | 0,_,hok,hops,hv=>YQ hok hops h hv
 | _+1,_,hok,hops,.inl hv=>YQ hok hops h hv
 | d+1,_,hok,hops,.inr hx=>by
  obtain⟨l,e1,e2,σ1,σ2,js,e,hne,h1,k1,k2⟩:=hx
  subst e
  obtain⟨_,_,d1,o1⟩:=RG h1
  rcases k2 with ⟨hp,hl⟩ | ⟨h2,k2⟩
  ·exact AHl hne hok hp hl h1 (OT h d _ d1 o1 k1)
  ·obtain⟨_,_,d2,o2⟩:=RG h2
   exact split_ok hne hok h1 h2 (OT h d _ d1 o1 k1) (OT h d _ d2 o2 k2)
theorem AA3 (hm:P.follows .mixedOrders=true) (n:Nat):∀ (c:Code),codeOk n c=true→∀ (s:MS) (Q:Ex→MS→Prop) (a:Act) (w:World),s.n=n→vp P c s Q→Sim w0 St0 s a w→c.wp P (AJj w0 St0 n Q) a w:=by
 intro c
 induction c with
 | skip=>intro _ s Q a w hn hv hs; exact wp_skip ⟨.normal,s,rfl,hv,hn,hs⟩
 | region id ops draw =>
  intro hc s Q a w hn hv hs
  cases draw with
  | false =>
   simp only[vp] at hv
   simp only[codeOk] at hc
   exact wp_region_list (zT ops _ (Q .normal) n ops.toList 0 (fun j=>AOi) hc s a w hn hs hv fun s' a' w' hK hn' hs'=>⟨.normal,s',rfl,hK,hn',hs'⟩)
  | true =>
   simp only[vp] at hv
   simp only[codeOk,ay] at hc
   obtain⟨d,hv⟩:=hv
   obtain⟨St,β,h⟩:=hs
   refine wp_mono (Y0 hm (OT h d ops AOk hc.1 hv)) ?_
   rintro e a' w' ⟨rfl,s',hK,hn',hs'⟩
   exact⟨.normal,s',rfl,hK,hn'.trans hn,hs'⟩
 | seq x y ihx ihy =>
  intro hc s Q a w hn hv hs
  simp only[codeOk,ay] at hc
  simp only[vp] at hv
  refine wp_seq (wp_mono (ihx hc.1 s _ a w hn hv hs) ?_)
  rintro e a' w' ⟨ex,s',rfl,hq,hn',hs'⟩
  cases ex with
  | normal=>exact ihy hc.2 s' Q a' w' hn' hq hs'
  | exit i=>exact⟨.exit i,s',rfl,hq,hn',hs'⟩
  | ret=>exact⟨.ret,s',rfl,hq,hn',hs'⟩
 | cond c x y ihx ihy =>
  intro hc s Q a w hn hv hs
  simp only[codeOk,ay] at hc
  simp only[vp,AAx] at hv
  split at hv
  ·rename_i b hev
   obtain⟨St,β,h⟩:=hs
   have he:=Cj h c hc.1.1
   rw[hev] at he
   obtain⟨hval,_⟩:=PI he
   exact wp_cond_split hval (fun hb=>ihx hc.1.2 s Q a w hn (hv.1 hb) ⟨St,β,h⟩) (fun hb=>ihy hc.2 s Q a w hn (hv.2 hb) ⟨St,β,h⟩)
  grind
 | block id x ih =>
  intro hc s Q a w hn hv hs
  simp only[codeOk] at hc
  simp only[vp] at hv
  refine wp_block (wp_mono (ih hc s _ a w hn hv hs) ?_)
  rintro e a' w' ⟨ex,s',rfl,hq,hn',hs'⟩
  cases ex with
  | normal=>exact⟨.normal,s',rfl,hq,hn',hs'⟩
  | exit i =>
   simp only[Ex.of,Exit.inBlock]
   simp only[ACM] at hq
   by_cases e:i=id
   ·simp only[e,aX] at hq ⊢
    exact⟨.normal,s',rfl,hq,hn',hs'⟩
   ·simp only[e,aW] at hq ⊢
    exact⟨.exit i,s',rfl,hq,hn',hs'⟩
  | ret=>exact⟨.ret,s',rfl,hq,hn',hs'⟩
 | loop x ih =>
  intro hc s Q a w hn hv hs
  simp only[codeOk] at hc
  simp only[vp] at hv
  obtain⟨H1,H2,A,f,p,μ,hH,⟨x0,t1,t2,hp0⟩,hround⟩:=hv
  refine wp_loop_ghost (fun m a w=>∃ y,μ y=m∧p y∧(f y).n=n∧Sim w0 St0 (f y) a w) (μ x0) ⟨x0,rfl,hp0, ?_, ?_⟩ ?_
  ·exact(hH _ _ t1 t2).1.trans hn
  ·obtain⟨St,β,h⟩:=hs
   exact(hH _ _ t1 t2).2 _ _ _ _ _ _ h
  ·rintro m a w ⟨y,rfl,hp,hny,hsy⟩
   refine wp_mono (ih hc (f y) _ a w hny (hround y hp) hsy) ?_
   rintro e a' w' ⟨ex,s',rfl,hq,hn',hs'⟩
   cases ex with
   | normal =>
    obtain⟨z,u1,u2,u3,u4⟩:=hq
    obtain⟨St,β,h⟩:=hs'
    refine⟨μ z,u4,z,rfl,u3, ?_, ?_⟩
    ·exact(hH _ _ u1 u2).1.trans hn'
    ·exact(hH _ _ u1 u2).2 _ _ _ _ _ _ h
   | exit i=>exact⟨.exit i,s',rfl,hq,hn',hs'⟩
   | ret=>exact⟨.ret,s',rfl,hq,hn',hs'⟩
 | exit id=>intro _ s Q a w hn hv hs; exact wp_exit ⟨.exit id,s,rfl,hv,hn,hs⟩
 | scope x ih =>
  intro hc s Q a w hn hv hs
  simp only[codeOk] at hc
  simp only[vp] at hv
  refine wp_scope_straight (wp_mono (ih hc s Q a w hn hv hs) ?_)
  rintro e a' w' ⟨ex,s',rfl,hq,hn',hs'⟩
  cases ex with
  | normal=>exact⟨.normal,s',rfl,hq,hn',hs'⟩
  | exit i=>exact⟨.exit i,s',rfl,hq,hn',hs'⟩
  | ret=>exact⟨.ret,s',rfl,hq,hn',hs'⟩
 | ret=>intro _ s Q a w hn hv hs; exact wp_ret ⟨.ret,s,rfl,hv,hn,hs⟩
 | _=>intro _ s Q a w _ hv _; simp only[vp] at hv
end Go.Vm
