/- A part. -/
import Derived.Test.YtnfbaclikokapaaGreatVmSb
import Derived.Deep.LoopGhost
import Derived.Scope
set_option linter.unusedSimpArgs false
set_option linter.unusedVariables false
namespace Go.Vm
open Go.RowKit
variable {P:Program} {w0:Bs} {St0 St:Nat→Nat→Prop} {β:Nat→Option Nat} {s:MS} {a:Act} {w:World}
inductive Ex where
 | normal
 | exit (id:Nat)
 | ret
def CallK (P:Program) (f:FuncId) (args:List AV) (K:List Res→Prop):Prop:=∃ rs,Ctr P f args rs∧(Zl rs→K rs)
def ABF (s:MS) (dst:Option Nat) (K:MS→Prop) (y:AV) (st':List Ob):Prop:=K (MS.put ⟨s.n,s.env,st'⟩ dst y)
def ABG (s:MS) (dst:Option Nat) (K:MS→Prop) (st1:List Ob) (rs:List Res):Prop:=K (MS.put ⟨s.n,s.env,(Ii st1 rs).2⟩ dst (retA (Ii st1 rs).1))
def tu (P:Program) (f:FuncId) (s:MS) (dst:Option Nat) (K:MS→Prop) (args:List AV) (st1:List Ob):Prop:=CallK P f args (ABG s dst K st1)
def MutK (P:Program) (f:FuncId) (s:MS) (args:List AV) (dst:Option Nat) (K:MS→Prop):Prop:=∃ (rest:List AV) (g:Bool) (zs cl:List Cl) (Q:List Cl→List AV→Prop),args=mkA g zs::rest∧(g=true∨zs.length=1) ∧
 AU s.st zs cl [] (fun _=>True)∧rest.all yj=true∧MCtr P f g cl rest Q∧∀ cl' rs,Q cl' rs→(rs.all yh=true∧We cl cl')∧K (MS.put ⟨s.n,s.env,IJ s.st zs cl'⟩ dst (retA rs))
def PtrK (P:Program) (f:FuncId) (s:MS) (args:List AV) (dst:Option Nat) (K:MS→Prop):Prop:=∃ (l:Nat) (rest rest':List AV) (ob:Ob) (zs cl cl':List Cl) (st1 st2:List Ob) (rs:List AV),args = .lp l 0 0::rest∧CO s.st l=some ob∧ob.wr=true∧ob.xs = [zs] ∧
 fzL s.st zs=some (cl,st1)∧O6 st1 rest=some (rest',st2)∧CO st2 l=some ob∧PCtr P f ob.ty cl rest' cl' rs∧K (MS.put ⟨s.n,s.env,st2.set l ⟨ob.ty,ob.sz,[cl'],true,true⟩⟩ dst (retA rs))
def Head (s t:MS):Prop:=t.n=s.n∧∀ (w0:Bs) (St0 St:Nat→Nat→Prop) (β:Nat→Option Nat) (a:Act) (w:World),Core w0 St0 St β s a w→∃ St' β',Core w0 St0 St' β' t a w
def PtrM (P:Program) (f:FuncId) (s:MS) (as:MS→List AV) (dst:Option Nat) (K:MS→Prop):Prop:=∃ (t:MS) (l:Nat) (rest rest':List AV) (ob:Ob) (cl cl':List Cl) (st2:List Ob) (rs:List AV),Head s t∧as t = .lp l 0 0::rest∧CO t.st l=some ob∧ob.wr=true∧ob.xs = [cl]∧cl.all oK=true ∧
 O6 t.st rest=some (rest',st2)∧CO st2 l=some ob∧QCtr P f ob.ty cl rest' cl' rs∧∃ t',Head (MS.put ⟨t.n,t.env,st2.set l ⟨ob.ty,ob.sz,[cl'],true,true⟩⟩ dst (retA rs)) t'∧K t'
def Jy (A B:Prop):Prop:=A∨B
def BorK (P:Program) (f:FuncId) (s:MS) (x:Option (List AV)) (K:List Res→Prop):Prop:=∃ args rs,x=some args∧rs.all Pi=true∧Ctr P f args rs∧(Zl rs→K rs)
def AGN (P:Program) (x:AV) (y:Option (List AV×List Ob)) (s:MS) (dst:Option Nat) (K:MS→Prop):Prop:=match x,y with
 | .clo f xs,some (args,st1)=>CallK P f (args++xs.map AV.ip) (ABG s dst K st1)
 | _,_=>False
def InlK (P:Program) (f:FuncId) (s:MS) (args:List AV) (dst:Option Nat) (K:MS→Prop):Prop:=CallsIn P f∧∀ (w0:Bs) (St0 St:Nat→Nat→Prop) (β:Nat→Option Nat) (a:Act) (w:World) (us:List Value),Core w0 St0 St β s a w→AVRs w St s.st β args us →
 Calls P f us.toArray w fun e w'=>∃ u,e = .returned u∧∃ (s':MS) (x:AV),s'.n=s.n∧K (s'.put dst x)∧∃ St' β',Core w0 St0 St' β' s' a w'∧AVR w' St' s'.st β' x u
def Pn (P:Program) (op:Op) (dst:Option Nat) (s:MS) (K:MS→Prop):Prop:=match op with
 | .call c=>match c.callee with
  | .value (.func f)=>Jy (oH (O6 s.st (c.args.toList.map (EC s))) (tu P f s dst K)) (Jy (BorK P f s (Q8 s.st (c.args.toList.map (EC s))) (ABG s dst K s.st)) (Jy (MutK P f s (c.args.toList.map (EC s)) dst K) (Jy (PtrK P f s (c.args.toList.map (EC s)) dst K) (Jy (PtrM P f s (fun t=>c.args.toList.map (EC t)) dst K) (InlK P f s (c.args.toList.map (EC s)) dst K)))))
  | .value (.tmp t)=>AGN P (unpin (BZ s.env t)) (O6 s.st (c.args.toList.map (EC s))) s dst K
  | _=>Q9 (Uj P s (.call c)) (ABF s dst K)
 | op=>Q9 (Uj P s op) (ABF s dst K)
def gO (P:Program) (o:Oper) (K:MS→Prop) (s:MS) (b:Bool):Prop:=CondK b (Pn P o.op o.dst s K) (K (s.put o.dst .undef))
theorem ACt {P:Program} {o:Oper} {K:MS→Prop} {s:MS}:gO P o K s true=Pn P o.op o.dst s K:=JX
theorem ABH {P:Program} {o:Oper} {K:MS→Prop} {s:MS}:gO P o K s false=K (s.put o.dst .undef):=Jv
theorem gO.mk {P:Program} {o:Oper} {K:MS→Prop} {s:MS} {b:Bool} (h1:b=true→Pn P o.op o.dst s K) (h2:b=false→K (s.put o.dst .undef)):gO P o K s b:=CondK.mk h1 h2
def vpO (P:Program) (ops:Array Oper) (K:MS→Prop):List Oper→MS→Prop
 | [],s=>K s
 | o::rest,s=>Q_ (jP ops s.env o.guard) (gO P o (vpO P ops K rest) s)
def vpR (P:Program) (ops:Array Oper) (K:MS→Prop) (s:MS):Prop:=vpO P ops K ops.toList s
theorem ACu {P:Program} {l:List Oper} {K:MS→Prop} {s:MS}:vpR P l.toArray K s=vpO P l.toArray K l s:=rfl
def Vw (st:List Ob):List Nat→Option (List Ob)
 | []=>some st
 | l::ls=>match CO st l with
  | some ob=>if F5 ob.xs then Vw (O5 st l) ls else none
  | none=>none
def FT (N:Nat):Cl→Bool
 | .ref l=>decide (l<N)
 | _=>true
mutual
def Hm (N:Nat):AV→Bool
 | .c x=>FT N x
 | .agg xs=>xs.all (FT N)
 | .lp l _ _=>decide (l<N)
 | .tup xs=>Qd N xs
 | .pin x _=>Hm N x
 | _=>true
def Qd (N:Nat):List AV→Bool
 | []=>true
 | x::xs=>Hm N x&&Qd N xs
end
def Az (N:Nat) (ob:Ob):Bool:=F5 ob.xs||ob.xs.all fun x=>x.all (FT N)
def trim (N:Nat) (keys:List Nat) (s:MS):MS:=⟨s.n,keys.map fun k=>(k,BZ s.env k),s.st.take N⟩
def OU (N:Nat) (keys:List Nat) (s:MS):Prop:=(keys.all fun k=>Hm N (BZ s.env k))=true∧((s.st.take N).all (Az N))=true
def LoopK (s:MS) (body:MS→(MS→Prop)→Prop):Prop:=
 ∃ (H1:MS→Prop) (H2:MS→MS→Prop) (A:Type) (f:A→MS) (p:A→Prop) (μ:A→Nat),(∀ s t,H1 s→H2 s t→Head s t)∧(∃ x,H1 s∧H2 s (f x)∧p x) ∧
  ∀ x,p x→body (f x) fun s'=>∃ y,H1 s'∧H2 s' (f y)∧p y∧μ y<μ x
def D7:List (Nat×Bool)→Nat→Nat
 | [],_=>0
 | x::xs,l=>if x.1=l then 0 else D7 xs l+1
def Zm:List (Nat×Bool)→Nat→Bool
 | [],_=>false
 | x::xs,l=>decide (x.1=l)||Zm xs l
def Qy (sel:List (Nat×Bool)):Cl→Cl
 | .ref l=>.ref (D7 sel l)
 | c=>c
def wP (sel:List (Nat×Bool)):Cl→Bool
 | .ref l=>Zm sel l
 | _=>true
mutual
def y7 (sel:List (Nat×Bool)):AV→AV
 | .c x=>.c (Qy sel x)
 | .agg xs=>.agg (xs.map (Qy sel))
 | .lp l i off=>.lp (D7 sel l) i off
 | .tup xs=>.tup (ABJ sel xs)
 | .ip xs=>.ip xs
 | .undef=>.undef
 | .un=>.un
 | .pin x u=>.pin (y7 sel x) u
 | .clo f xs=>.clo f xs
def ABJ (sel:List (Nat×Bool)):List AV→List AV
 | []=>[]
 | x::xs=>y7 sel x::ABJ sel xs
end
mutual
def inA (sel:List (Nat×Bool)):AV→Bool
 | .c x=>wP sel x
 | .agg xs=>xs.all (wP sel)
 | .lp l _ _=>Zm sel l
 | .tup xs=>ACv sel xs
 | .pin x _=>inA sel x
 | _=>true
def ACv (sel:List (Nat×Bool)):List AV→Bool
 | []=>true
 | x::xs=>inA sel x&&ACv sel xs
end
def IW (sel:List (Nat×Bool)) (r:Bool) (ob:Ob):Ob:=if r=true then⟨ob.ty,ob.sz,ob.xs.map (fun x=>x.map (Qy sel)),ob.wr,ob.live⟩ else ob
def Oy (sel:List (Nat×Bool)) (st:List Ob):List (Nat×Bool)→List Ob
 | []=>[]
 | e::r=>(match st[e.1]? with | some ob=>IW sel e.2 ob | none=>default)::Oy sel st r
def rel (sel:List (Nat×Bool)) (keys:List Nat) (s:MS):MS:=⟨s.n,keys.map fun k=>(k,y7 sel (BZ s.env k)),Oy sel s.st sel⟩
def Tj (sel:List (Nat×Bool)) (st:List Ob):List (Nat×Bool)→Prop
 | []=>True
 | e::r=>(match st[e.1]? with | some ob=>(if e.2=true then(ob.xs.all fun x=>x.all (wP sel)) else F5 ob.xs)=true | none=>False)∧Tj sel st r
def ACw:List (Nat×Bool)→Bool
 | []=>true
 | x::xs=>!Zm xs x.1&&ACw xs
def RF (sel:List (Nat×Bool)) (keys:List Nat) (s:MS):Prop:=ACw sel=true∧(keys.all fun k=>inA sel (BZ s.env k))=true∧Tj sel s.st sel
def Vx:Op→Bool
 | .call c=>match c.callee with
  | .value (.func _)=>true
  | .builtin .append=>true
  | _=>false
 | .alloc _=>true
 | .box _ _=>true
 | .store _ _ _=>true
 | .makeSlice _ _ _=>true
 | .buildSlice _ _ _=>true
 | _=>false
def EF (P:Program) (s:MS) (o:Op) (y:AV) (st':List Ob):Prop:=match o with
 | .call c=>match c.callee with
  | .value (.func f)=>(∃ args rs st1,O6 s.st (c.args.toList.map (EC s))=some (args,st1)∧Ctr P f args rs∧y=retA (Ii st1 rs).1∧st'=(Ii st1 rs).2) ∨
    (∃ args rs,Q8 s.st (c.args.toList.map (EC s))=some args∧rs.all Pi=true∧Ctr P f args rs∧y=retA (Ii s.st rs).1∧st'=(Ii s.st rs).2)∨InlS P f s.st (c.args.toList.map (EC s)) y st'
  | _=>Uj P s (.call c)=some (y,st')
 | op=>Uj P s op=some (y,st')
structure PE where
 i:Nat
 o:Op
 env:List (Nat×AV)
 r:AV
def U8 (o:Oper) (q:Nat):List (Nat×List Ob)→Bool
 | []=>true
 | h::H=>(decide (h.1≤q) || !BO o (h.1-1))&&U8 o q H
def U9 (P:Program) (n:Nat) (env:List (Nat×AV)) (o:Oper) (r:AV) (H:List (Nat×List Ob)):List (Nat×List Ob)→Prop
 | []=>True
 | h::G=>CondK (U8 o h.1 H) (Bj P ⟨n,env,h.2⟩ o.op r) True∧U9 P n env o r H G
def U_ (P:Program) (n:Nat) (oe:Oper) (st':List Ob):List PE→Prop
 | []=>True
 | p::ps=>CondK (BO oe p.i) True (Bj P ⟨n,p.env,st'⟩ p.o p.r)∧U_ P n oe st' ps
def Rx (oe:Oper):List PE→List PE
 | []=>[]
 | p::ps=>match BO oe p.i with
  | true=>Rx oe ps
  | false=>p::Rx oe ps
def chainB (o:Oper):List (Nat×List Ob)→Bool
 | []=>false
 | h::_=>match h.1 with
  | 0=>true
  | q+1=>BO o q
def jT (p:Nat):List (Nat×List Ob)→Bool
 | []=>false
 | h::_=>decide (h.1=p+1)
def VA (x:Option (Nat×Nat)) (i:Nat) (o:Oper) (H:List (Nat×List Ob)):Bool:=match x with
 | none=>chainB o H
 | some (j,p)=>if i=j then jT p H else chainB o H
def ACx:Op→Bool
 | .alloc _=>true
 | _=>false
def y8 (ops:Array Oper):Option (Nat×Nat)→Bool
 | none=>true
 | some (j,p)=>match ops[j]? with
  | some o=>ACx o.op&&o.after.isEmpty&&o.guard.isNone&&o.dst.isSome&&decide (p<j)&&ops.toList.all fun o'=>!BO o' j||BO o' p
  | none=>false
def CallE (P:Program) (f:FuncId) (args:List AV) (K:List Res→Prop):Prop:=∃ rs,Ctr P f args rs∧K rs
def BorE (P:Program) (f:FuncId) (x:Option (List AV)) (K:List Res→Prop):Prop:=∃ args rs,x=some args∧rs.all Pi=true∧Ctr P f args rs∧K rs
def ACy (K:AV→List Ob→Prop) (st1:List Ob) (rs:List Res):Prop:=K (retA (Ii st1 rs).1) (Ii st1 rs).2
def InlE (P:Program) (f:FuncId) (st:List Ob) (args:List AV) (K:AV→List Ob→Prop):Prop:=∃ y st',InlS P f st args y st'∧K y st'
def ABK (P:Program) (f:FuncId) (K:AV→List Ob→Prop) (args:List AV) (st1:List Ob):Prop:=CallE P f args (ACy K st1)
def ABL (P:Program) (s:MS) (o:Op) (K:AV→List Ob→Prop):Prop:=match o with
 | .call c=>match c.callee with
  | .value (.func f)=>Jy (oH (O6 s.st (c.args.toList.map (EC s))) (ABK P f K)) (Jy (BorE P f (Q8 s.st (c.args.toList.map (EC s))) (ACy K s.st)) (InlE P f s.st (c.args.toList.map (EC s)) K))
  | _=>Q9 (Uj P s (.call c)) K
 | op=>Q9 (Uj P s op) K
def ACz (P:Program) (o:Oper) (s:MS) (H:List (Nat×List Ob)) (pd:List PE) (i:Nat) (V:List (Nat×List Ob)→List PE→MS→Prop) (y:AV) (st':List Ob):Prop:=
 U_ P s.n o st' pd∧V ((i+1,st')::H) (Rx o pd) (MS.put ⟨s.n,s.env,st'⟩ o.dst y)
def rdP (P:Program) (o:Oper) (s:MS) (H:List (Nat×List Ob)) (pd:List PE) (i:Nat) (V:List (Nat×List Ob)→List PE→MS→Prop) (r:AV):Prop:=
 U9 P s.n s.env o r H H∧V H (⟨i,o.op,s.env,r⟩::pd) (s.put o.dst r)
def ABM (P:Program) (x:Option (Nat×Nat)) (o:Oper) (s:MS) (H:List (Nat×List Ob)) (pd:List PE) (i:Nat) (V:List (Nat×List Ob)→List PE→MS→Prop) (e:Bool):Prop:=
 CondK e (CondK (VA x i o H) (ABL P s o.op (ACz P o s H pd i V)) False) (DrK P s o.op (rdP P o s H pd i V))
def gE (P:Program) (x:Option (Nat×Nat)) (o:Oper) (s:MS) (H:List (Nat×List Ob)) (pd:List PE) (i:Nat) (V:List (Nat×List Ob)→List PE→MS→Prop) (b:Bool):Prop:=
 CondK b (ABM P x o s H pd i V (Vx o.op)) (V H pd (s.put o.dst .undef))
def vpE (P:Program) (x:Option (Nat×Nat)) (ops:Array Oper) (K:MS→Prop):List Oper→Nat→List (Nat×List Ob)→List PE→MS→Prop
 | [],_,_,_,s=>K s
 | o::rest,i,H,pd,s=>Q_ (jP ops s.env o.guard) (gE P x o s H pd i (vpE P x ops K rest (i+1)))
def AHy (P:Program) (ops:Array Oper) (s:MS) (K:MS→Prop):Prop:=∀ (w0:Bs) (St0 St:Nat→Nat→Prop) (β:Nat→Option Nat) (a:Act) (w:World),Core w0 St0 St β s a w →
 wpAny P .any ops (fun e a' w'=>e = .normal∧∃ s',K s'∧s'.n=s.n∧Sim w0 St0 s' a' w') ops.size (Array.replicate ops.size false) a { w with drawn:=w.drawn+1 }
def ABN (P:Program) (ops:Array Oper) (s:MS) (K:MS→Prop):Prop:=(∃ ls st',Vw s.st ls=some st'∧vpD P ops K ops.toList ⟨s.n,s.env,st'⟩)∨(∃ x,y8 ops x=true∧vpE P x ops K ops.toList 0 [(0,s.st)] [] s)∨AHy P ops s K
def DrawX (P:Program):Nat→Array Oper→MS→(MS→Prop)→Prop
 | 0,ops,s,K=>ABN P ops s K
 | d+1,ops,s,K=>ABN P ops s K∨∃ (l:List Oper) (e1 e2:Nat) (σ1 σ2 js:List Nat),ops=l.toArray∧e1≠e2∧RD s.n l σ1 e1 e2=true∧DrawX P d (Gt σ1 e1 e2 l).toArray s K∧((YI l e1 js=true∧js.getLast?=some e2)∨(RD s.n l σ2 e2 e1=true∧DrawX P d (Gt σ2 e2 e1 l).toArray s K))
def DrawK (P:Program) (ops:Array Oper) (s:MS) (K:MS→Prop):Prop:=∃ d,DrawX P d ops s K
def y9 (id:Nat) (Q:Ex→MS→Prop):Ex→MS→Prop
 | .normal,s=>Q .normal s
 | .exit i,s=>if i=id then Q .normal s else Q (.exit i) s
 | .ret,s=>Q .ret s
def ABO (K:MS→Prop) (Q:Ex→MS→Prop):Ex→MS→Prop
 | .normal,s=>K s
 | .exit i,s=>Q (.exit i) s
 | .ret,s=>Q .ret s
def AGO (V:MS→(Ex→MS→Prop)→Prop) (Q:Ex→MS→Prop):Ex→MS→Prop
 | .normal,s=>V s Q
 | .exit i,s=>Q (.exit i) s
 | .ret,s=>Q .ret s
def cndM (V W:MS→(Ex→MS→Prop)→Prop) (s:MS) (Q:Ex→MS→Prop) (b:Bool):Prop:=CondK b (V s Q) (W s Q)
theorem y_ {V W:MS→(Ex→MS→Prop)→Prop} {s:MS} {Q:Ex→MS→Prop}:cndM V W s Q true=V s Q:=JX
theorem t_ {V W:MS→(Ex→MS→Prop)→Prop} {s:MS} {Q:Ex→MS→Prop}:cndM V W s Q false=W s Q:=Jv
theorem cndM.mk {V W:MS→(Ex→MS→Prop)→Prop} {s:MS} {Q:Ex→MS→Prop} {b:Bool} (h1:b=true→V s Q) (h2:b=false→W s Q):cndM V W s Q b:=CondK.mk h1 h2
def AGP (V:MS→(Ex→MS→Prop)→Prop) (Q:Ex→MS→Prop) (s1:MS) (K:MS→Prop):Prop:=V s1 (ABO K Q)
def vp (P:Program):Code→MS→(Ex→MS→Prop)→Prop
 | .skip,s,Q=>Q .normal s
 | .region _ ops false,s,Q=>vpR P ops (Q .normal) s
 | .region _ ops true,s,Q=>DrawK P ops s (Q .normal)
 | .seq x y,s,Q=>vp P x s (AGO (vp P y) Q)
 | .cond c x y,s,Q=>wM (EC s c) (cndM (vp P x) (vp P y) s Q)
 | .block id x,s,Q=>vp P x s (y9 id Q)
 | .loop x,s,Q=>LoopK s (AGP (vp P x) Q)
 | .exit id,s,Q=>Q (.exit id) s
 | .scope x,s,Q=>vp P x s Q
 | .ret,s,Q=>Q .ret s
 | _,_,_=>False
def ADm (ops:Array Oper):Bool:=ops.toList.all fun o=>o.op.operands.toList.all Ar
def codeOk (n:Nat):Code→Bool
 | .region _ ops false=>ADm ops
 | .region _ ops true=>ADm ops&&Eo n ops
 | .seq x y=>codeOk n x&&codeOk n y
 | .cond c x y=>Ar c&&codeOk n x&&codeOk n y
 | .block _ x=>codeOk n x
 | .loop x=>codeOk n x
 | .scope x=>codeOk n x
 | _=>true
def Ex.of:Ex→Exit
 | .normal=>.normal
 | .exit i=>.exit i
 | .ret=>.ret
def AGQ (w0:Bs) (St0:Nat→Nat→Prop) (n:Nat) (Q:Ex→MS→Prop):Exit→Act→World→Prop:=fun e a w=>∃ x s,e=Ex.of x∧Q x s∧s.n=n∧Sim w0 St0 s a w
theorem RG (s:MS) (d:Option Nat) (v:AV):(s.put d v).n=s.n:=by
 cases d with
 | none=>rfl
 | some d=>simp only[MS.put]; split<;>rfl
theorem step_ok (h:Core w0 St0 St β s a w) (o:Oper) (hc:o.op.operands.toList.all Ar=true) {K:MS→Prop} (hk:Pn P o.op o.dst s K) (Q:Exit→Act→World→Prop) :
  o.wp P a w (fun a' w'=>∃ s',K s'∧s'.n=s.n∧Sim w0 St0 s' a' w') Q:=by
 have hD:∀ {y:AV} {st':List Ob},Uj P s o.op=some (y,st')→K (MS.put ⟨s.n,s.env,st'⟩ o.dst y)→o.wp P a w (fun a' w'=>∃ s',K s'∧s'.n=s.n∧Sim w0 St0 s' a' w') Q:=fun {y st'} he hK=>by
  obtain⟨nx,v,w',St',β',h1,h2,h3,h4⟩:=tN h o hc he
  unfold Oper.wp
  rw[h1]
  rcases h2 with rfl | ⟨rfl,rfl⟩
  ·exact⟨_,hK,RG _ _ _,St',β',h3.put o.dst h4⟩
  ·exact⟨_,hK,RG _ _ _,St',β',h3.put o.dst h4⟩
 have hF:∀ op,o.op=op→(∀ c,op≠ .call c)→Pn P op o.dst s K→o.wp P a w (fun a' w'=>∃ s',K s'∧s'.n=s.n∧Sim w0 St0 s' a' w') Q:=fun op hop hnc hs=>by
  have hs':Q9 (Uj P s op) (ABF s o.dst K):=by
   cases op with
   | call c=>exact absurd rfl (hnc c)
   | _=>exact hs
  unfold Q9 at hs'
  split at hs'
  ·rename_i y st' he
   exact hD (by rw[hop]; exact he) hs'
  ·exact hs'.elim
 cases hop:o.op with
 | call c =>
  rw[hop] at hk
  simp only[Pn,Jy,oH,Q9,tu,ABF] at hk
  split at hk
  ·rename_i f hcl
   have hca:c.args.toList.all Ar=true:=by
    rw[hop] at hc
    simp only[Op.operands,Call.operands,aaO,Zi,ak] at hc
    exact hc.2
   rcases hk with hk | hk | hk | hk | hk | ⟨hin,hk⟩
   rotate_right
   ·have hcall:=hk w0 St0 St β a w _ h (Hw h c.args.toList hca)
    have ea:(c.args.toList.map a.eval).toArray=c.args.map a.eval:=by apply wC; simp
    rw[ea] at hcall
    unfold Oper.wp
    rw[I4 o c f hop hcl hin]
    simp only[Oper.upon]
    refine hcall.mono fun e w' hb=>?_
    obtain⟨u,rfl,s',x,e1,hK,St',β',h1,h2⟩:=hb
    exact⟨_,hK,(RG _ _ _).trans e1,St',β',h1.put o.dst h2⟩
   rotate_left
   ·obtain⟨args,rs,hf,hclo,hspec,hK⟩:=hk
    obtain⟨φ,hφ⟩:=h.own
    have hargs:=YB h hφ hf (Hw h c.args.toList hca)
    unfold Oper.wp
    rw[I4 o c f hop hcl hspec.1]
    simp only[Oper.upon]
    have hcall:=hspec.2 w _ (c.args.toList.map a.eval) (fun b o hb=>AllSt.lt h hφ hb) hargs
    have ea:(c.args.toList.map a.eval).toArray=c.args.map a.eval:=by apply wC; simp
    rw[ea] at hcall
    refine hcall.mono fun e w' hb=>?_
    obtain⟨us,bs,St2,hb⟩:=hb
    have hb:=hb.clo hclo h.stIn
    obtain⟨β',k1,k2⟩:=YD h hb
    have hwf:Zl rs:=by
     obtain⟨Φs,hr,_⟩:=hb.res
     exact hr.wf
    have e1:=hb.ret
    subst e1
    exact⟨_,hK hwf,RG _ _ _,St,β',k1.put o.dst (Ji k2)⟩
   ·obtain⟨rest,g,zs,cl,Q',hargs,hg,ho,hv1,hspec,hK⟩:=hk
    obtain⟨φ,hφ⟩:=h.own
    have he:=Hw h c.args.toList hca
    rw[hargs] at he
    simp only[AVRs] at he
    obtain⟨u,vs,hvals,hu,hvs⟩:=he
    have hus:∃ us:List Value,u=mkV g us∧us.length=zs.length∧∀ (k:Nat) (c:Cl),zs[k]?=some c→∃ y,us[k]?=some y∧RdC w St s.st β c y:=by
     cases g with
     | true =>
      simp only[mkA,bD,AVR] at hu
      obtain⟨us,e1,e2,e3⟩:=hu
      exact⟨us,by simp only[mkV,bD]; exact e1,e2,e3⟩
     | false =>
      have hz1:zs.length=1:=by simpa using hg
      match zs,hz1 with
      | [z],_ =>
       simp only[mkA,aC,aT,AVR,List.headD_cons] at hu
       refine⟨[u],by simp[mkV],rfl,fun k c hk=>?_⟩
       cases k with
       | zero=>simp only[aB,ah] at hk; subst hk; exact⟨u,rfl,hu⟩
       | succ k=>simp at hk
    obtain⟨us,rfl,hul,hur⟩:=hus
    have hrd:=wo h hφ ho hul hur
    have hGf:∀ (k x:Nat),(∃ l,zs[k]?=some (Cl.ref l)∧Fp s.st β φ l x)→x<w.heap.size∧∀ o,¬ St x o:=fun k x ⟨l,q1,q2⟩=>by
     obtain⟨_,ob,p1,p2,_⟩:=MW zs cl [] _ ho k l q1
     obtain⟨r1,r2,r3⟩:=Qb h hφ q2 fun ob' hob'=>by
      obtain⟨p3,_⟩:=Aw p1
      rw[p3] at hob'; cases hob'; exact p2
     exact⟨r2,r3⟩
    have hcall:=hspec.2.2 w St us _ vs h.stIn hGf hrd (n_ hv1 hvs)
    have ea:(mkV g us::vs).toArray=c.args.map a.eval:=by rw[← hvals]; apply wC; simp
    rw[ea] at hcall
    unfold Oper.wp
    rw[I4 o c f hop hcl hspec.1]
    simp only[Oper.upon]
    refine hcall.mono fun e w' hb=>?_
    obtain⟨cl',rs,rv,G',b0,b1,b2,b3,b3s,b7,b8,b9⟩:=hb
    obtain⟨⟨hv2,hsh⟩,hK⟩:=hK cl' rs b0
    subst b1
    have hcore:=ABd h hφ ho hur (fun k x hx=>hx) hsh b2 b3 b3s (fun _ _ h=>h) (fun _ _ h _=>h) (fun b o hb=>bn (h.stIn b o hb) b2.size) b8 (fun k x hx=>by
     rcases b9 k x hx with h9 | ⟨h9,h10⟩
     ·exact .inl h9
     ·exact .inr ⟨h9,h10,fun o ho=>by have:=h.stIn x o ho; omega⟩)
    refine⟨_,hK,RG _ _ _,St,β,hcore.put o.dst (Ji ?_)⟩
    have key:∀ (xs:List AV) (us:List Value),RdAs w' St xs us→AVRs w' St (IJ s.st zs cl') β xs us:=by
     intro xs
     induction xs with
     | nil=>intro us h; simp only[AVRs]; exact h
     | cons x xs ih =>
      intro us h
      obtain⟨y,ys,h1,h2,h3⟩:=h
      simp only[AVRs]
      exact⟨y,ys,h1,h2.toAVR,ih ys h3⟩
    exact key _ _ b7
   ·obtain⟨l,rest,rest',ob,zs,cl,cl',st1,st2,rs,hargs,hob,hwr,hxs,hfz,hfs,hob2,hspec,hK⟩:=hk
    have he:=Hw h c.args.toList hca
    rw[hargs] at he
    simp only[AVRs] at he
    obtain⟨u,vs,hvals,hu,hvs⟩:=he
    obtain⟨hl,hlive⟩:=Aw hob
    simp only[AVR,hl] at hu
    obtain⟨b,hβ,hu⟩:=hu hlive
    obtain⟨St1,q1,q2,q3,q4,q5⟩:=jB zs s.st cl st1 St h hfz
    have hvs':=AVRs.mono q2 (fun _ _ _=>rfl) q3 (LY fun l ob hl=>XD hfz hl) rest vs hvs
    obtain⟨St2,r1,r2,r3⟩:=MO rest rest' st1 st2 St1 q1 hfs
    obtain⟨_,_,cs,g1,g2,g3⟩:=h.obs l ob b hl hlive hβ
    obtain⟨hl2,hlive2⟩:=Aw hob2
    have hno:∀ o,¬ St2 b o:=fun o ho=>by
     have:=(r1.sep l ob b o hl2 hlive2 hβ ho).1
     rw[hwr] at this; cases this
    have hcells:∀ (k:Nat) (c:Cl),cl[k]?=some c→∃ y,cs[k]?=some y∧RdD w St2 c y:=fun k c hk=>by
     obtain⟨d,hd1,hd2⟩:=q5 k c hk
     obtain⟨y,hy,hr⟩:=g3 k d (by rw[hxs]; simpa using hd1)
     exact⟨y,hy,RdD.mono r2 (fun _ _ _=>rfl) _ _ (hd2 y hr)⟩
    have hcall:=hspec.2.2 w St2 b cs vs r1.stIn g1 hno hcells (r3 vs hvs')
    have hu':u = .pointer (some ⟨b,0,none⟩):=by simpa using hu
    subst hu'
    have ea:(Value.pointer (some ⟨b,0,none⟩)::vs).toArray=c.args.map a.eval:=by rw[← hvals]; apply wC; simp
    rw[ea] at hcall
    unfold Oper.wp
    rw[I4 o c f hop hcl hspec.1]
    simp only[Oper.upon]
    refine hcall.mono fun e w' hb=>?_
    obtain⟨rv,cs',St3,b1,b2,b3,b4,b5,b6,b7,b8,b9,b10⟩:=hb
    subst b1
    have hzl:zs.length=ob.sz:=g2 zs (by rw[hxs]; simp)
    have hcore:=ABe r1 hob2 hwr hβ g1 b2 b3 b4 b5 b6 b7 b8 b9 (by rw[hspec.2.1,q4,hzl]) (by rw[hxs]; rfl)
    refine⟨_,hK,RG _ _ _,St3,β,hcore.put o.dst (Ji ?_)⟩
    have key:∀ (xs:List AV) (us:List Value),RdAs w' St3 xs us→AVRs w' St3 (st2.set l ⟨ob.ty,ob.sz,[cl'],true,true⟩) β xs us:=by
     intro xs
     induction xs with
     | nil=>intro us h; simp only[AVRs]; exact h
     | cons x xs ih =>
      intro us h
      obtain⟨y,ys,h1,h2,h3⟩:=h
      simp only[AVRs]
      exact⟨y,ys,h1,h2.toAVR,ih ys h3⟩
    exact key _ _ b10
   ·obtain⟨t,l,rest,rest',ob,cl,cl',st2,rs,hh,hargs,hob,hwr,hxs,hclo,hfs,hob2,hspec,t',hh',hK⟩:=hk
    obtain⟨St1,β1,h1⟩:=hh.2 _ _ _ _ _ _ h
    have he:=Hw h1 c.args.toList hca
    simp only at hargs
    rw[hargs] at he
    simp only[AVRs] at he
    obtain⟨u,vs,hvals,hu,hvs⟩:=he
    obtain⟨hl,hlive⟩:=Aw hob
    simp only[AVR,hl] at hu
    obtain⟨b,hβ,hu⟩:=hu hlive
    obtain⟨St2,r1,r2,r3⟩:=MO rest rest' t.st st2 St1 h1 hfs
    obtain⟨hl2,hlive2⟩:=Aw hob2
    obtain⟨φ,hφ⟩:=r1.own
    obtain⟨cs,g1,g2,g3⟩:=dW r1 hφ hob2 hβ hxs hclo
    have hno:∀ o,¬ St2 b o:=fun o ho=>by
     have:=(r1.sep l ob b o hl2 hlive2 hβ ho).1
     rw[hwr] at this; cases this
    have hcall:=hspec.2.2.2 w St2 b cs (φ l) vs r1.stIn g1 hno (fun k x hx=>oM hφ hob2 hβ hx) (fun k k' x hx hx'=>(hφ.2.2 l l k k' x hx hx').2) g3 (r3 vs hvs)
    have hu':u = .pointer (some ⟨b,0,none⟩):=by simpa using hu
    subst hu'
    have ea:(Value.pointer (some ⟨b,0,none⟩)::vs).toArray=c.args.map a.eval:=by rw[← hvals]; apply wC; simp
    rw[ea] at hcall
    unfold Oper.wp
    rw[I4 o c f hop hcl hspec.1]
    simp only[Oper.upon]
    refine hcall.mono fun e w' hb=>?_
    obtain⟨rv,cs',St3,G',b1,b2,b3,b4,b5,b6,b7,b8,b9,b9d,b9g,b10⟩:=hb
    subst b1
    have hcore:=yw r1 hφ hob2 hwr hβ g1 b2 b3 b4 b5 b6 b7 b8 b9 (by rw[hspec.2.1,g2]) (by rw[hxs]; rfl) b9d b9g
    have hfin:=hcore.put o.dst (x:=retA rs) (u:=Nc rv) (Ji (by
     have key:∀ (xs:List AV) (us:List Value),RdAs w' St3 xs us→AVRs w' St3 (st2.set l ⟨ob.ty,ob.sz,[cl'],true,true⟩) β1 xs us:=by
      intro xs
      induction xs with
      | nil=>intro us h; simp only[AVRs]; exact h
      | cons x xs ih =>
       intro us h
       obtain⟨y,ys,h1,h2,h3⟩:=h
       simp only[AVRs]
       exact⟨y,ys,h1,h2.toAVR,ih ys h3⟩
     exact key _ _ b10))
    obtain⟨St4,β4,h4⟩:=hh'.2 _ _ _ _ _ _ hfin
    exact⟨_,hK,(hh'.1.trans (RG _ _ _)).trans hh.1,St4,β4,h4⟩
   split at hk
   ·rename_i args st1 hf
    obtain⟨rs,hspec,hK⟩:=hk
    obtain⟨St1,q1,q2,q3⟩:=MO _ _ _ _ St h hf
    have hargs:=q3 _ (Hw h c.args.toList hca)
    unfold Oper.wp
    rw[I4 o c f hop hcl hspec.1]
    simp only[Oper.upon]
    have hcall:=hspec.2 w St1 (c.args.toList.map a.eval) q1.stIn hargs
    have ea:(c.args.toList.map a.eval).toArray=c.args.map a.eval:=by apply wC; simp
    rw[ea] at hcall
    refine hcall.mono fun e w' hb=>?_
    obtain⟨us,bs,St2,hb⟩:=hb
    obtain⟨β',k1,k2⟩:=YD q1 hb
    have hwf:Zl rs:=by
     obtain⟨Φs,hr,_⟩:=hb.res
     exact hr.wf
    have e1:=hb.ret
    subst e1
    exact⟨_,hK hwf,RG _ _ _,St2,β',k1.put o.dst (Ji k2)⟩
   ·exact hk.elim
  ·rename_i t hcl
   have hca:c.args.toList.all Ar=true:=by
    rw[hop] at hc
    simp only[Op.operands,Call.operands,aaO,Zi,ak] at hc
    exact hc.2
   unfold AGN at hk
   split at hk
   ·rename_i f xs args st1 hev hf
    obtain⟨rs,hspec,hK⟩:=hk
    obtain⟨St1,q1,q2,q3⟩:=MO _ _ _ _ St h hf
    have hargs:=q3 _ (Hw h c.args.toList hca)
    have he:AVR w St s.st β (unpin (BZ s.env t)) (a.eval (.tmp t)):=Bl h (.tmp t) (aF.1 hc _ (by rw[hop]; simp[Op.operands,Call.operands,hcl]))
    rw[hev] at he
    simp only[AVR] at he
    obtain⟨us0,hu0,hul,hur⟩:=he
    have hcap:RdAs w St1 (xs.map AV.ip) us0:=U4 hul fun k c hk=>by
     obtain⟨b,off,hy,hr⟩:=hur k c hk
     exact⟨b,off,hy,RdL.mono q2 (fun _ _ _=>rfl) _ _ _ hr⟩
    unfold Oper.wp
    rw[wL o c f (.tmp t) us0.toArray hop hcl hu0 hspec.1]
    simp only[Oper.upon]
    have hcall:=hspec.2 w St1 (c.args.toList.map a.eval++us0) q1.stIn (X_ hargs hcap)
    have ea:(c.args.toList.map a.eval++us0).toArray=c.args.map a.eval++us0.toArray:=by apply wC; simp
    rw[ea] at hcall
    refine hcall.mono fun e w' hb=>?_
    obtain⟨us,bs,St2,hb⟩:=hb
    obtain⟨β',k1,k2⟩:=YD q1 hb
    have hwf:Zl rs:=by
     obtain⟨Φs,hr,_⟩:=hb.res
     exact hr.wf
    have e1:=hb.ret
    subst e1
    exact⟨_,hK hwf,RG _ _ _,St2,β',k1.put o.dst (Ji k2)⟩
   ·exact hk.elim
  ·split at hk
   ·rename_i y st' he
    exact hD (by rw[hop]; exact he) hk
   ·exact hk.elim
 | _=>exact hF _ hop (fun c=>by simp) (by rw[hop] at hk; exact hk)
theorem uA (ops:Array Oper) (Q:Exit→Act→World→Prop) (K:MS→Prop) (n:Nat):∀ (l:List Oper) (k:Nat),(∀ j,l[j]?=ops[k+j]?)→(l.all fun o=>o.op.operands.toList.all Ar)=true →
  ∀ (s:MS) (a:Act) (w:World),s.n=n→Sim w0 St0 s a w→vpO P ops K l s→(∀ s' a' w',K s'→s'.n=n→Sim w0 St0 s' a' w'→Q .normal a' w')→wpList P ops Q l a w
 | [],_,_,_,s,a,w,hn,hs,hv,hQ=>hQ s a w hv hn hs
 | o::l,k,hl,hc,s,a,w,hn,hs,hv,hQ=>by
  obtain⟨St,β,h⟩:=hs
  simp only[bK,ak] at hc
  simp only[vpO,Q_,gO] at hv
  split at hv
  ·rename_i b hb
   have hw:=jQ h hb
   have hl':∀ j,l[j]?=ops[k+1+j]?:=fun j=>by
    have:=hl (j+1)
    simpa [Nat.add_assoc,Nat.add_comm 1 j] using this
   unfold wpList
   rw[hw]
   cases b with
   | true =>
    simp only[bD]
    left
    exact Oper.wp_mono (fun a' w' ⟨s',hK,hn',hs'⟩=>uA ops Q K n l (k+1) hl' hc.2 s' a' w' (hn'.trans hn) hs' hK hQ) (step_ok h o hc.1 (hv.1 rfl) Q)
   | false =>
    simp only[aC,aT]
    exact uA ops Q K n l (k+1) hl' hc.2 _ _ _ ((RG _ _ _).trans hn) ⟨St,β,h.put o.dst (by simp only[AVR])⟩ (hv.2 rfl) hQ
  ·exact hv.elim
theorem YK:∀ (ls:List Nat) (st st':List Ob) (St:Nat→Nat→Prop),Core w0 St0 St β ⟨s.n,s.env,st⟩ a w→Vw st ls=some st'→∃ St',Core w0 St0 St' β ⟨s.n,s.env,st'⟩ a w
 | [],st,st',St,h,hf=>by simp only[Vw,ah] at hf; subst hf; exact⟨St,h⟩
 | l::ls,st,st',St,h,hf=>by
  simp only[Vw] at hf
  split at hf
  ·rename_i ob hob
   split at hf
   ·rename_i hp
    obtain⟨St1,q1,_⟩:=h.freeze l hob hp
    exact YK ls _ st' St1 q1 hf
   ·cases hf
  ·cases hf
theorem oU (keys:List Nat) (env:List (Nat×AV)) (i:Nat):BZ (keys.map fun k=>(k,BZ env k)) i=if i∈keys then BZ env i else .un:=by
 induction keys with
 | nil=>simp[BZ]
 | cons k keys ih =>
  simp only[XA,BZ,ih,cZ]
  by_cases e:k=i
  ·simp[e]
  ·have e':¬ i=k:=fun h=>e h.symm
   simp[e,e']
theorem zA {st:List Ob} {N l:Nat} {u:Value} (hl:l<N) (h:A_ w st β l u):A_ w (st.take N) β l u:=by
 unfold A_ at h ⊢
 rw[yS,bz hl]; exact h
theorem Po {st:List Ob} {N:Nat} {c:Cl} {u:Value} (hc:FT N c=true) (h:RdC w St st β c u):RdC w St (st.take N) β c u:=by
 cases c with
 | ref l=>exact zA (by simpa [FT] using hc) h
 | ow ty sz xs=>simp[RdC,RdD] at h
 | v x=>exact h
 | sl xs=>exact h
mutual
theorem YL {st:List Ob} {N:Nat}:∀ (x:AV) (u:Value),Hm N x=true→AVR w St st β x u→AVR w St (st.take N) β x u
 | .c x,u,hc,h=>by simp only[AVR] at h ⊢; exact Po (by simpa [Hm] using hc) h
 | .agg xs,u,hc,h=>by
  simp only[AVR] at h ⊢
  simp only[Hm] at hc
  obtain⟨us,h1,h2,h3⟩:=h
  refine⟨us,h1,h2,fun k c hk=>?_⟩
  obtain⟨y,hy,hr⟩:=h3 k c hk
  exact⟨y,hy,Po (aF.1 hc c (aY hk)) hr⟩
 | .lp l i off,u,hc,h=>by
  simp only[AVR] at h ⊢
  have hl:l<N:=by simpa [Hm] using hc
  rw[yS,bz hl]; exact h
 | .ip xs,u,_,h=>by simp only[AVR] at h ⊢; exact h
 | .tup xs,u,hc,h=>by
  simp only[AVR] at h ⊢
  obtain⟨us,h1,h2⟩:=h
  exact⟨us,h1,dY xs us (by simpa [Hm] using hc) h2⟩
 | .undef,u,_,h=>by simp only[AVR] at h ⊢; exact h
 | .un,u,_,h=>by simp only[AVR]
 | .pin x u0,u,hc,h=>by
  simp only[AVR] at h ⊢
  exact⟨h.1,YL x u (by simpa [Hm] using hc) h.2⟩
 | .clo f xs,u,_,h=>by simp only[AVR] at h ⊢; exact h
theorem dY {st:List Ob} {N:Nat}:∀ (xs:List AV) (us:List Value),Qd N xs=true→AVRs w St st β xs us→AVRs w St (st.take N) β xs us
 | [],us,_,h=>by simp only[AVRs] at h ⊢; exact h
 | x::xs,us,hc,h=>by
  simp only[AVRs] at h ⊢
  simp only[Qd,ak] at hc
  obtain⟨y,ys,h1,h2,h3⟩:=h
  exact⟨y,ys,h1,YL x y hc.1 h2,dY xs ys hc.2 h3⟩
end
theorem ABP {st:List Ob} {N:Nat} {c:Cl} {u:Value} (hc:FT N c=true) (h:RdB w St st β c u):RdB w St (st.take N) β c u:=by
 cases c with
 | ow ty sz xs=>exact h
 | v y=>exact Po (w:=w) (St:=St) (st:=st) (β:=β) (c:=.v y) hc h
 | sl y=>exact Po (w:=w) (St:=St) (st:=st) (β:=β) (c:=.sl y) hc h
 | ref y=>exact Po (w:=w) (St:=St) (st:=st) (β:=β) (c:=.ref y) hc h
theorem Core.trim (h:Core w0 St0 St β s a w) {N:Nat} {keys:List Nat} (ht:OU N keys s):Core w0 St0 St β (trim N keys s) a w:=by
 obtain⟨t1,t2⟩:=ht
 have hg:∀ l ob,(s.st.take N)[l]?=some ob→s.st[l]?=some ob:=fun l ob hl=>by
  rw[yS] at hl
  split at hl
  ·exact hl
  ·cases hl
 exact {
  defers:=h.defers
  size:=h.size
  lim:=h.lim
  env:=fun i=>by
   simp only[Go.Vm.trim,oU]
   split
   ·rename_i hi
    exact YL _ _ (aF.1 t1 i hi) (h.env i)
   ·simp only[AVR]
  below:=h.below,st0:=h.st0,stOld:=h.stOld,stIn:=h.stIn
  obs:=fun l ob b hl hlive hβ=>by
   obtain⟨q1,q2,cs,g1,g2,g3⟩:=h.obs l ob b (hg l ob hl) hlive hβ
   refine⟨q1,q2,cs,g1,g2,fun k c hk=>?_⟩
   obtain⟨u,hu,hr⟩:=g3 k c hk
   refine⟨u,hu,ABP ?_ hr⟩
   have hno:=aF.1 t2 ob (aY hl)
   obtain⟨x,hx,hcx⟩:=abd.1 (aY hk)
   simp only[Az,sV] at hno
   rcases hno with hno | hno
   ·have:=aF.1 (aF.1 hno x hx) c hcx
    cases c<;>simp_all [AO,FT]
   ·exact aF.1 (aF.1 hno x hx) c hcx
  nil:=fun l ob hl=>h.nil l ob (hg l ob hl)
  inj:=fun l l' ob ob' b h1 h2=>h.inj l l' ob ob' b (hg l ob h1) (hg l' ob' h2)
  sep:=fun l ob b o hl=>h.sep l ob b o (hg l ob hl)
  own:=h.own.move id (fun x hx=>⟨⟨hx.1,hx.2.1,hx.2.2.1,hx.2.2.2.1,fun l ob hl=>hx.2.2.2.2 l ob (hg l ob hl)⟩,rfl⟩) (fun _ _ h=>h) (fun _ _ _=>rfl)
   (fun l ob b k c h1 h2 h3 h4 _=>⟨ob,b,hg l ob h1,h2,h3,h4,rfl⟩) (fun _ _ _ _ _ _ _ _ e=>e) }
theorem zB (g:Nat→AV) (keys:List Nat) (i:Nat):BZ (keys.map fun k=>(k,g k)) i=if i∈keys then g i else .un:=by
 induction keys with
 | nil=>simp[BZ]
 | cons k ks ih =>
  simp only[XA,BZ,ih]
  by_cases e:k=i
  ·subst e; simp
  ·simp[e,Ne.symm e]
theorem wQ {sel:List (Nat×Bool)} {l:Nat} (h:Zm sel l=true):∃ r,sel[D7 sel l]?=some (l,r):=by
 induction sel with
 | nil=>simp[Zm] at h
 | cons x xs ih =>
  simp only[D7]
  by_cases e:x.1=l
  ·subst e; exact⟨x.2,by simp⟩
  ·simp only[Zm,e,abH,bQ] at h
   obtain⟨r,hr⟩:=ih h
   exact⟨r,by simpa [e] using hr⟩
theorem wR {sel:List (Nat×Bool)} {i:Nat} {e:Nat×Bool} (h:sel[i]?=some e):Zm sel e.1=true:=by
 induction sel generalizing i with
 | nil=>simp at h
 | cons x xs ih =>
  simp only[Zm,sV,bf]
  cases i with
  | zero=>simp at h; exact .inl (by rw[h])
  | succ i=>exact .inr (ih (by simpa using h))
theorem wS {sel:List (Nat×Bool)} (h:ACw sel=true):∀ {i j:Nat} {e e':Nat×Bool},sel[i]?=some e→sel[j]?=some e'→e.1=e'.1→i=j:=by
 induction sel with
 | nil=>intro i j e e' hi; simp at hi
 | cons x xs ih =>
  simp only[ACw,ak,aa3] at h
  intro i j e e' hi hj he
  cases i with
  | zero =>
   cases j with
   | zero=>rfl
   | succ j =>
    simp only[aB,ah] at hi
    have:=wR (sel:=xs) (by simpa using hj)
    rw[← he,← hi,h.1] at this
    cases this
  | succ i =>
   cases j with
   | zero =>
    simp only[aB,ah] at hj
    have:=wR (sel:=xs) (by simpa using hi)
    rw[he,← hj,h.1] at this
    cases this
   | succ j =>
    have:=ih h.2 (i:=i) (j:=j) (e:=e) (e':=e') (by simpa using hi) (by simpa using hj) he
    omega
theorem Tm (sel:List (Nat×Bool)) (st:List Ob):∀ (l:List (Nat×Bool)) (i:Nat),(Oy sel st l)[i]?=(l[i]?).map fun e=>match st[e.1]? with | some ob=>IW sel e.2 ob | none=>default
 | [],i=>by simp[Oy]
 | e::r,0=>by simp[Oy]
 | e::r,i+1=>by simp only[Oy,aaX]; exact Tm sel st r i
theorem Tn {sel:List (Nat×Bool)} {st:List Ob}:∀ {l:List (Nat×Bool)},Tj sel st l→∀ {i:Nat} {e:Nat×Bool},l[i]?=some e→∃ ob,st[e.1]?=some ob∧(if e.2=true then(ob.xs.all fun x=>x.all (wP sel)) else F5 ob.xs)=true
 | [],_,i,e,h=>by simp at h
 | x::r,ho,i,e,h=>by
  simp only[Tj] at ho
  cases i with
  | zero =>
   simp only[aB,ah] at h
   subst h
   have:=ho.1
   split at this
   ·rename_i ob hob; exact⟨ob,hob,this⟩
   ·exact this.elim
  | succ i=>exact Tn ho.2 (by simpa using h)
section
variable {sel:List (Nat×Bool)} {st:List Ob}
def Tq (sel:List (Nat×Bool)) (β:Nat→Option Nat) (i:Nat):Option Nat:=match sel[i]? with | some e=>β e.1 | none=>none
theorem AC0 (ho:Tj sel st sel) {l:Nat} {u:Value} (hl:Zm sel l=true) (h:A_ w st β l u):A_ w (Oy sel st sel) (Tq sel β) (D7 sel l) u:=by
 obtain⟨r,hr⟩:=wQ hl
 obtain⟨ob,hob,_⟩:=Tn ho hr
 simp only at hob
 unfold A_ at h ⊢
 rw[Tm,hr]
 simp only[bP,hob,Tq,hr] at h ⊢
 have e1:(IW sel r ob).live=ob.live:=by unfold IW; split<;>rfl
 have e2:(IW sel r ob).xs.length=ob.xs.length:=by unfold IW; split<;>simp
 have e3:(IW sel r ob).ty=ob.ty:=by unfold IW; split<;>rfl
 have e4:(IW sel r ob).sz=ob.sz:=by unfold IW; split<;>rfl
 have e5:ob.xs = []→(IW sel r ob).xs = []:=by intro hx; unfold IW; split<;>simp[hx]
 refine⟨h.1,fun hlive=>?_⟩
 have h2:=h.2 (e1▸hlive)
 cases hβ:β l with
 | none=>simp only[hβ] at h2 ⊢; exact⟨h2.1,e5 h2.2⟩
 | some b=>simp only[hβ] at h2 ⊢; simpa only[e2,e3,e4] using h2
theorem oV (ho:Tj sel st sel) {c:Cl} {u:Value} (hc:wP sel c=true) (h:RdC w St st β c u):RdC w St (Oy sel st sel) (Tq sel β) (Qy sel c) u:=by
 cases c with
 | ref l=>exact AC0 ho hc h
 | v x=>exact h
 | sl xs=>exact h
 | ow ty sz xs=>simp[RdC,RdD] at h
theorem AGR (ho:Tj sel st sel) {c:Cl} {u:Value} (hc:wP sel c=true) (h:RdB w St st β c u):RdB w St (Oy sel st sel) (Tq sel β) (Qy sel c) u:=by
 cases c with
 | ow ty sz xs=>exact h
 | v y=>exact oV (w:=w) (St:=St) (β:=β) (c:=.v y) ho hc h
 | sl y=>exact oV (w:=w) (St:=St) (β:=β) (c:=.sl y) ho hc h
 | ref y=>exact oV (w:=w) (St:=St) (β:=β) (c:=.ref y) ho hc h
theorem AC1 {c:Cl}:E8 (Qy sel c)=E8 c:=by cases c<;>rfl
theorem AEk {c:Cl} (h:E8 c=true):Qy sel c=c:=by cases c<;>simp_all [E8,Qy]
mutual
theorem ABQ (ho:Tj sel st sel):∀ (x:AV) (u:Value),inA sel x=true→AVR w St st β x u→AVR w St (Oy sel st sel) (Tq sel β) (y7 sel x) u
 | .c x,u,hc,h=>by simp only[AVR,y7] at h ⊢; exact oV ho (by simpa [inA] using hc) h
 | .agg xs,u,hc,h=>by
  simp only[AVR,y7] at h ⊢
  simp only[inA] at hc
  obtain⟨us,h1,h2,h3⟩:=h
  refine⟨us,h1,by simpa using h2,fun k c hk=>?_⟩
  rw[lD] at hk
  obtain⟨c0,hc0,rfl⟩:=yQ.1 hk
  obtain⟨y,hy,hr⟩:=h3 k c0 hc0
  exact⟨y,hy,oV ho (aF.1 hc c0 (aY hc0)) hr⟩
 | .lp l i off,u,hc,h=>by
  simp only[AVR,y7] at h ⊢
  obtain⟨r,hr⟩:=wQ (sel:=sel) (l:=l) (by simpa [inA] using hc)
  obtain⟨ob,hob,_⟩:=Tn ho hr
  simp only at hob
  rw[Tm,hr]
  simp only[bP,hob,Tq,hr] at h ⊢
  have e1:(IW sel r ob).live=ob.live:=by unfold IW; split<;>rfl
  have e4:(IW sel r ob).sz=ob.sz:=by unfold IW; split<;>rfl
  rw[e1,e4]
  exact h
 | .ip xs,u,_,h=>by simp only[AVR,y7] at h ⊢; exact h
 | .tup xs,u,hc,h=>by
  simp only[AVR,y7] at h ⊢
  obtain⟨us,h1,h2⟩:=h
  exact⟨us,h1,ABR ho xs us (by simpa [inA] using hc) h2⟩
 | .undef,u,_,h=>by simp only[AVR,y7] at h ⊢; exact h
 | .un,u,_,h=>by simp only[AVR,y7]
 | .pin x u0,u,hc,h=>by
  simp only[AVR,y7] at h ⊢
  exact⟨h.1,ABQ ho x u (by simpa [inA] using hc) h.2⟩
 | .clo f xs,u,_,h=>by simp only[AVR,y7] at h ⊢; exact h
theorem ABR (ho:Tj sel st sel):∀ (xs:List AV) (us:List Value),ACv sel xs=true→AVRs w St st β xs us→AVRs w St (Oy sel st sel) (Tq sel β) (ABJ sel xs) us
 | [],us,_,h=>by simp only[AVRs,ABJ] at h ⊢; exact h
 | x::xs,us,hc,h=>by
  simp only[AVRs,ABJ] at h ⊢
  simp only[ACv,ak] at hc
  obtain⟨y,ys,h1,h2,h3⟩:=h
  exact⟨y,ys,h1,ABQ ho x y hc.1 h2,ABR ho xs ys hc.2 h3⟩
end
end
theorem Core.rel (h:Core w0 St0 St β s a w) {sel:List (Nat×Bool)} {keys:List Nat} (ht:RF sel keys s):Core w0 St0 St (Tq sel β) (rel sel keys s) a w:=by
 obtain⟨t0,t1,t2⟩:=ht
 have hg:∀ (i:Nat) (ob:Ob),(Oy sel s.st sel)[i]?=some ob→∃ (e:Nat×Bool) (ob0:Ob),sel[i]?=some e∧s.st[e.1]?=some ob0∧ob=IW sel e.2 ob0∧(if e.2=true then(ob0.xs.all fun x=>x.all (wP sel)) else F5 ob0.xs)=true:=by
  intro i ob hi
  rw[Tm] at hi
  obtain⟨e,he,h2⟩:=yQ.1 hi
  obtain⟨ob0,hob,hp⟩:=Tn t2 he
  simp only[hob] at h2
  exact⟨e,ob0,he,hob,h2.symm,hp⟩
 have elive:∀ r ob,(IW sel r ob).live=ob.live:=by intro r ob; unfold IW; split<;>rfl
 have esz:∀ r ob,(IW sel r ob).sz=ob.sz:=by intro r ob; unfold IW; split<;>rfl
 have ety:∀ r ob,(IW sel r ob).ty=ob.ty:=by intro r ob; unfold IW; split<;>rfl
 have ewr:∀ r ob,(IW sel r ob).wr=ob.wr:=by intro r ob; unfold IW; split<;>rfl
 have elen:∀ r ob,(IW sel r ob).xs.length=ob.xs.length:=by intro r ob; unfold IW; split<;>simp
 have eβ:∀ {i:Nat} {e:Nat×Bool},sel[i]?=some e→Tq sel β i=β e.1:=by intro i e he; simp only[Tq,he]
 exact {
  defers:=h.defers
  size:=h.size
  lim:=h.lim
  env:=fun i=>by
   simp only[Go.Vm.rel,zB]
   split
   ·rename_i hi
    exact ABQ t2 _ _ (aF.1 t1 i hi) (h.env i)
   ·simp only[AVR]
  below:=h.below,st0:=h.st0,stOld:=h.stOld,stIn:=h.stIn
  obs:=fun i ob b hi hlive hβ=>by
   obtain⟨e,ob0,he,hob,rfl,hp⟩:=hg i ob hi
   rw[eβ he] at hβ
   rw[elive] at hlive
   obtain⟨q1,q2,cs,g1,g2,g3⟩:=h.obs e.1 ob0 b hob hlive hβ
   refine⟨q1,q2,cs,by rw[ety]; exact g1, ?_, ?_⟩
   ·rw[esz]
    intro x hx
    unfold IW at hx
    split at hx
    ·obtain⟨y,hy,rfl⟩:=WY.1 hx
     rw[ae]; exact g2 y hy
    ·exact g2 x hx
   ·intro k c hk
    unfold IW at hk
    split at hk
    ·rename_i hr
     simp only[hr,bD] at hp
     rw[← List.map_flatten,lD] at hk
     obtain⟨c0,hc0,rfl⟩:=yQ.1 hk
     obtain⟨u,hu,hc⟩:=g3 k c0 hc0
     obtain⟨x,hx,hcx⟩:=abd.1 (aY hc0)
     exact⟨u,hu,AGR t2 (aF.1 (aF.1 hp x hx) c0 hcx) hc⟩
    ·rename_i hr
     simp only[hr,aT] at hp
     obtain⟨u,hu,hc⟩:=g3 k c hk
     obtain⟨x,hx,hcx⟩:=abd.1 (aY hk)
     have:=aF.1 (aF.1 hp x hx) c hcx
     refine⟨u,hu, ?_⟩
     cases c with
     | ref l=>simp[AO] at this
     | v x=>exact hc
     | sl xs=>exact hc
     | ow ty sz xs=>exact hc
  nil:=fun i ob hi hlive hβ=>by
   obtain⟨e,ob0,he,hob,rfl,hp⟩:=hg i ob hi
   rw[eβ he] at hβ
   rw[elive] at hlive
   have:=h.nil e.1 ob0 hob hlive hβ
   unfold IW
   split<;>simp[this]
  inj:=fun i j o1 o2 b h1 h2 h3 h4 h5 h6=>by
   obtain⟨e,ob0,he,hob,rfl,_⟩:=hg i o1 h1
   obtain⟨e',ob0',he',hob',rfl,_⟩:=hg j o2 h2
   rw[eβ he] at h5
   rw[eβ he'] at h6
   rw[elive] at h3 h4
   exact wS t0 he he' (h.inj _ _ _ _ b hob hob' h3 h4 h5 h6)
  sep:=fun i ob b o hi hlive hβ hbo=>by
   obtain⟨e,ob0,he,hob,rfl,_⟩:=hg i ob hi
   rw[eβ he] at hβ
   rw[elive] at hlive
   rw[ewr,elen,esz]
   exact h.sep e.1 ob0 b o hob hlive hβ hbo
  own:=by
   refine h.own.move (fun i=>((sel[i]?).getD (0,false)).1) (fun x hx=>⟨⟨hx.1,hx.2.1,hx.2.2.1,hx.2.2.2.1,fun i ob hi hlv=>?_⟩,rfl⟩) (fun _ _ h=>h) (fun _ _ _=>rfl) (fun i ob b k c hi hlive hβ hk hc=>?_) (fun i j o1 o2 h1 h2 _ _ e=>?_)
   ·obtain⟨e,ob0,he,hob,rfl,hp⟩:=hg i ob hi
    rw[eβ he]
    rw[elive] at hlv
    exact hx.2.2.2.2 e.1 ob0 hob hlv
   ·obtain⟨e,ob0,he,hob,rfl,hp⟩:=hg i ob hi
    rw[eβ he] at hβ
    rw[elive] at hlive
    refine⟨ob0,b,by simpa [he] using hob,hlive,by simpa [he] using hβ, ?_,rfl⟩
    unfold IW at hk
    split at hk
    ·rw[← List.map_flatten,lD] at hk
     obtain⟨c0,hc0,rfl⟩:=yQ.1 hk
     rw[AC1] at hc
     rw[AEk hc]
     exact hc0
    ·exact hk
   ·obtain⟨e1,ob1,he1,_⟩:=hg i o1 h1
    obtain⟨e2,ob2,he2,_⟩:=hg j o2 h2
    simp only[he1,he2,aJ] at e
    exact wS t0 he1 he2 e }
theorem DrawK.mk {l:List Oper} {s:MS} {K:MS→Prop} (h:vpD P l.toArray K l s):DrawK P l.toArray s K:=⟨0,.inl ⟨[],s.st,rfl,h⟩⟩
theorem DrawK.mkE {l:List Oper} {s:MS} {K:MS→Prop} (h:vpE P none l.toArray K l 0 [(0,s.st)] [] s):DrawK P l.toArray s K:=⟨0,.inr (.inl ⟨none,rfl,h⟩)⟩
theorem DrawK.mkA {l:List Oper} {s:MS} {K:MS→Prop} (j p:Nat) (hf:y8 l.toArray (some (j,p))=true) (h:vpE P (some (j,p)) l.toArray K l 0 [(0,s.st)] [] s):DrawK P l.toArray s K:=⟨0,.inr (.inl ⟨_,hf,h⟩)⟩
theorem DrawX.up:∀ {d:Nat} {ops:Array Oper} {s:MS} {K:MS→Prop},DrawX P d ops s K→DrawX P (d+1) ops s K
 | 0,_,_,_,h=>.inl h
 | _+1,_,_,_,.inl h=>.inl h
 | _+1,_,_,_,.inr ⟨l,e1,e2,σ1,σ2,js,e,hne,h1,k1,.inl hp⟩=>.inr ⟨l,e1,e2,σ1,σ2,js,e,hne,h1,DrawX.up k1,.inl hp⟩
 | _+1,_,_,_,.inr ⟨l,e1,e2,σ1,σ2,js,e,hne,h1,k1,.inr ⟨h2,k2⟩⟩=>.inr ⟨l,e1,e2,σ1,σ2,js,e,hne,h1,DrawX.up k1,.inr ⟨h2,DrawX.up k2⟩⟩
theorem DrawX.le {d:Nat} {ops:Array Oper} {s:MS} {K:MS→Prop} (h:DrawX P d ops s K):∀ k,DrawX P (d+k) ops s K
 | 0=>h
 | k+1=>(DrawX.le h k).up
theorem DrawK.split {l:List Oper} {s:MS} {K:MS→Prop} (e1 e2:Nat) (σ1 σ2:List Nat) (hne:Nat.beq e1 e2=false) (h1:RD s.n l σ1 e1 e2=true) (h2:RD s.n l σ2 e2 e1=true)
  (k1:DrawK P (Gt σ1 e1 e2 l).toArray s K) (k2:DrawK P (Gt σ2 e2 e1 l).toArray s K):DrawK P l.toArray s K:=by
 obtain⟨d1,k1⟩:=k1
 obtain⟨d2,k2⟩:=k2
 have k2':=DrawX.le k2 d1
 rw[Nat.add_comm] at k2'
 exact⟨d1+d2+1,.inr ⟨l,e1,e2,σ1,σ2,[],rfl,abw hne,h1,k1.le d2,.inr ⟨h2,k2'⟩⟩⟩
theorem DrawK.edge {l:List Oper} {s:MS} {K:MS→Prop} (e1 e2:Nat) (σ js:List Nat) (hne:Nat.beq e1 e2=false) (hp:YI l e1 js=true) (hl:js.getLast?=some e2) (h1:RD s.n l σ e1 e2=true)
  (k1:DrawK P (Gt σ e1 e2 l).toArray s K):DrawK P l.toArray s K:=by
 obtain⟨d1,k1⟩:=k1
 exact⟨d1+1,.inr ⟨l,e1,e2,σ,σ,js,rfl,abw hne,h1,k1,.inl ⟨hp,hl⟩⟩⟩
theorem YM (h:Core w0 St0 St β s a w) (o:Oper) (hc:o.op.operands.toList.all Ar=true) {y:AV} {st':List Ob} (he:EF P s o.op y st') (Q:Exit→Act→World→Prop) :
  o.wp P a w (fun a' w'=>Sim w0 St0 (MS.put ⟨s.n,s.env,st'⟩ o.dst y) a' w') Q:=by
 have key:Pn P o.op o.dst s (fun s'=>s'=MS.put ⟨s.n,s.env,st'⟩ o.dst y):=by
  cases hop:o.op with
  | call c =>
   rw[hop] at he
   simp only[EF] at he
   split at he
   ·rename_i f hcl
    simp only[Pn,hcl]
    rcases he with ⟨args,rs,st1,h1,h2,rfl,rfl⟩ | ⟨args,rs,h1,h2,h3,rfl,rfl⟩ | ⟨hin,hs⟩
    ·refine .inl ?_
     rw[h1]
     exact⟨rs,h2,fun _=>rfl⟩
    ·exact .inr (.inl ⟨args,rs,h1,h2,h3,fun _=>rfl⟩)
    ·exact .inr (.inr (.inr (.inr (.inr ⟨hin,fun w0 St0 St β a w us h1 h2=>(hs w0 St0 St β s a w us rfl h1 h2).mono fun e w' ⟨u,e1,St',β',q1,q2⟩=>⟨u,e1,⟨s.n,s.env,st'⟩,y,rfl,rfl,St',β',q1,q2⟩⟩))))
   ·rename_i hne
    simp only[Pn]
    split
    ·rename_i f hcl; exact absurd hcl (hne f)
    ·rename_i t hcl
     simp[Uj,hcl,Hr,same] at he
    ·rw[he]; rfl
  | _ =>
   rw[hop] at he
   simp only[EF] at he
   simp only[Pn]
   rw[he]; rfl
 exact Oper.wp_mono (fun a' w' ⟨s',e,_,hs⟩=>by rw[← e]; exact hs) (step_ok h o hc key Q)
theorem RH {s s':MS} (hst:s'.st=s.st) (o:Op) (heff:Vx o=true) (h:∀ t,.tmp t∈o.operands.toList→BZ s'.env t=BZ s.env t) {y:AV} {st':List Ob} (hr:EF P s o y st'):EF P s' o y st':=by
 have he:∀ x,x∈o.operands.toList→EC s' x=EC s x:=fun x hx=>dV fun t ht=>h t (by rw[← ht]; exact hx)
 cases o with
 | call c =>
  have hargs:∀ x∈c.args.toList,EC s' x=EC s x:=fun x hx=>he x (by
   simp only[Op.operands,Call.operands,aaO,yU]
   exact .inr hx)
  have hmap:c.args.toList.map (EC s')=c.args.toList.map (EC s):=aaM hargs
  simp only[EF] at hr ⊢
  split at hr
  ·rw[hmap,hst]; exact hr
  ·rename_i hne
   simp only[Vx] at heff
   split at heff
   ·rename_i f hcl; exact absurd hcl (hne f)
   ·rename_i hcl
    simp only[Uj,hcl] at hr ⊢
    split at hr
    ·rename_i x y2 T T' hca hct
     rw[hargs x (by rw[hca]; simp),hargs y2 (by rw[hca]; simp)]
     have ea:∀ T X Y,uG P s' T X Y=uG P s T X Y:=fun T X Y=>by simp only[uG,ABc,tJ,hst]
     have es:∀ T T' X Y,tK P s' T T' X Y=tK P s T T' X Y:=fun T T' X Y=>by simp only[tK,hst]
     rw[ea,es]; exact hr
    ·cases hr
   ·cases heff
 | alloc T=>simp only[EF,Uj,OO,hst] at hr ⊢; exact hr
 | box T x=>simp only[EF,Uj,AAx,hst] at hr ⊢; rw[he x (by simp[Op.operands])]; exact hr
 | store T p x=>simp only[EF,Uj,X8,hst] at hr ⊢; rw[he p (by simp[Op.operands]),he x (by simp[Op.operands])]; exact hr
 | makeSlice T l c=>simp only[EF,Uj,nY,hst] at hr ⊢; rw[he l (by simp[Op.operands]),he c (by simp[Op.operands])]; exact hr
 | buildSlice T len ps =>
  have hps:∀ p∈ps.toList,EC s' p.2=EC s p.2:=fun p hp=>he p.2 (by
   simp only[Op.operands]
   simp only[WY]
   exact⟨p,hp,rfl⟩)
  have key:∀ (l:List (Nat×Operand)),(∀ p∈l,EC s' p.2=EC s p.2)→He s' l=He s l:=by
   intro l
   induction l with
   | nil=>intro _; rfl
   | cons p l ih=>intro hl; simp only[He,hl p (by simp),ih (fun q hq=>hl q (by simp[hq]))]
  simp only[EF,Uj,Ju,key _ hps,hst] at hr ⊢
  exact hr
 | _=>simp[Vx] at heff
def Bd (E:Nat→Bool) (q:Nat):Prop:=q=0∨∃ e,E e=true∧q=e+1
def Tt (P:Program) (n:Nat) (ops:Array Oper) (x:Option (Nat×Nat)) (env:List (Nat×AV)) (R:Nat→AV) (S:Nat→List Ob) (E:Nat→Bool) (m i:Nat) (o:Oper):Prop:=
 ∃ b,jP ops (BV ops R env (fun _=>true) i) o.guard=some b∧(b=false→R i = .undef∧E i=false∧S (i+1)=S i) ∧
  (b=true→E i=true→Vx o.op=true∧EF P ⟨n,BV ops R env (fun _=>true) i,S i⟩ o.op (R i) (S (i+1))∧∀ e,E e=true→e<i→(∀ e',e<e'→e'<i→E e'=false)→BO o e=true∨∃ p,x=some (i,p)∧E p=true∧e≤p) ∧
  (b=true→E i=false→S (i+1)=S i∧∀ q,Bd E q→q≤m→(∀ e,E e=true→BO o e=true→e<q)→(∀ e oe,e<m→ops[e]?=some oe→E e=true→BO oe i=true→q≤e) →
   Bj P ⟨n,BV ops R env (fun _=>true) i,S q⟩ o.op (R i))
theorem Ry {ops:Array Oper} {env:List (Nat×AV)} {R1 R2:Nat→AV}:∀ (m:Nat),(∀ i,i<m→R1 i=R2 i)→BV ops R1 env (fun _=>true) m=BV ops R2 env (fun _=>true) m
 | 0,_=>rfl
 | m+1,hm=>by simp only[BV,Ry m (fun i hi=>hm i (by omega)),hm m (by omega)]
structure Ghost (P:Program) (w0:Bs) (St0:Nat→Nat→Prop) (T:TypeId) (wg:Bs) (b:Nat):Prop where
 may:w0.may b
 old:BelowB w0 wg.w
 lt:b<wg.heap.size
 own:∀ y,wg.own y↔(w0.may y∧y≠b)
 st:∀ o,¬ St0 b o
 gs:wg.gs=w0.gs
 cells:∃ (zs:List Value) (cs:Array Value),TQ P T=some (zs.map .v)∧sZ zs=true∧wg.heap[b]?=some (.cells cs T (0,0))∧cs.toList=zs
def YN (b:Nat):Value:=.pointer (some ⟨b,0,none⟩)
theorem ABS (h:Core w0 St0 St β s a w) (o:Oper) (T:TypeId) (ho:o.op = .alloc T) {y:AV} {st1 st':List Ob} {n1:Nat} {env1:List (Nat×AV)} (hy:OO P ⟨n1,env1,st1⟩ T=some (y,st')) (Q:Exit→Act→World→Prop) :
  o.wp P a w (fun a' w'=>∃ wg b,Ghost P w0 St0 T wg b∧Sim wg St0 (MS.put s o.dst (.pin .un (YN b))) a' w') Q:=by
 unfold OO at hy
 split at hy
 ·rename_i cs0 hz0
  obtain⟨zs,hz,hwf,rfl⟩:=PW hz0
  obtain⟨z,hz1,hz2⟩:=TS hz w
  have hb:Below w.heap.size w (w.alloc (.cells z.cells T)):=Vr w _
  have hc:Core w0 St0 St β s a (w.alloc (.cells z.cells T)):=h.grow hb (fun _ _ h=>h) (fun _ _ h _=>h) fun b o hbo=>bn (h.stIn b o hbo) hb.size
  have hN:Own w0 (fun x=>x=w.heap.size) (w.alloc (.cells z.cells T)) St s.st β:=h.own.grow hb (fun _ _ h=>h) (fun _ _ h _=>h) h.stIn (fun l ob b h1 h2 h3=>(h.obs l ob b h1 h2 h3).2.1) fun x hx e=>by omega
  have hw0:=h.below.size
  have hsz:w.heap.size<(w.alloc (.cells z.cells T)).heap.size:=by simp
  have hrun:(execOp a.eval o).run P w = .ok (.value (YN w.heap.size)) (w.alloc (.cells z.cells T)):=by simp[execOp,ho,Instr.alloc,hz1,newVar,newRow,YN]
  unfold Oper.wp
  rw[hrun]
  refine⟨⟨w.alloc (.cells z.cells T),fun y=>w0.may y∧y≠w.heap.size,w0.gs⟩,w.heap.size,⟨.inl hw0,hc.below,by simp only[Bs.heap]; omega,fun y=>Iff.rfl,fun o hso=>?_,rfl,zs,z.cells,hz0,hwf,alloc_at w _,hz2⟩,St,β, ?_⟩
  ·have:=h.stIn _ _ (h.st0 _ _ hso); omega
  ·refine Core.put (x:=.pin .un (YN w.heap.size)) (u:=YN w.heap.size) ?_ o.dst (by simp[AVR])
   exact {
    defers:=hc.defers
    size:=hc.size
    lim:=hc.lim
    env:=hc.env
    below:=BelowB.refl _ _
    st0:=hc.st0
    stOld:=fun b o hbo hlt hno=>by
     refine h.stOld b o hbo ?_ ?_
     ·rcases bI b w0.heap.size with h' | h'
      ·exact h'
      ·exact absurd ⟨.inl h',by have:=h.stIn b o hbo; omega⟩ hno
     ·intro h'
      exact hno ⟨.inr h',by have:=h.stIn b o hbo; omega⟩
    stIn:=hc.stIn
    obs:=fun l ob b h1 h2 h3=>by
     obtain⟨q1,q2,q3⟩:=hc.obs l ob b h1 h2 h3
     have:=(h.obs l ob b h1 h2 h3).2.1
     exact⟨.inr ⟨q1,by omega⟩,q2,q3⟩
    nil:=hc.nil
    inj:=hc.inj
    sep:=hc.sep
    own:=by
     obtain⟨φ,o1,o2,o3⟩:=hN
     refine⟨φ,o1,fun l k x hx=>⟨(o2 l k x hx).1, ?_⟩,o3⟩
     obtain⟨q1,q2,q3⟩:=(o2 l k x hx).2
     exact⟨.inr ⟨q1,q2⟩,fun h=>h,q3⟩ }
 ·cases hy
theorem Ghost.adopt {T:TypeId} {wg:Bs} {b d:Nat} (g:Ghost P w0 St0 T wg b) (h:Core wg St0 St β s a w) {y:AV} {st':List Ob} {n1:Nat} {env1:List (Nat×AV)} (hy:OO P ⟨n1,env1,s.st⟩ T=some (y,st')) (hp:a.tmps.getD d Go.undef=YN b) :
  ∃ β',Core w0 St0 St β' ⟨s.n,(d,y)::s.env,st'⟩ a w:=by
 have hno:¬ wg.own b:=fun h=>((g.own b).1 h).2 rfl
 have hblk:w.heap[b]?=wg.heap[b]?:=h.below.blk b g.lt hno
 have hw0:w0.heap.size≤wg.heap.size:=g.old.size
 have hwg:wg.heap.size≤w.heap.size:=h.below.size
 have hmay:∀ y,wg.may y→w0.may y∧y≠b:=fun y hy=>by
  rcases hy with hy | hy
  ·exact⟨.inl (by omega),by have:=g.lt; omega⟩
  ·exact(g.own y).1 hy
 have hnown:∀ k,k<w0.heap.size→¬ w0.own k→¬ wg.own k:=fun k h1 h2 h3=>by
  rcases((g.own k).1 h3).1 with h' | h'
  ·omega
  ·exact h2 h'
 have hSt:∀ o,¬ St b o:=fun o hbo=>g.st o (h.stOld b o hbo g.lt hno)
 have hN:Own w0 (fun x=>x=b) w St s.st β:=by
  obtain⟨φ,o1,o2,o3⟩:=h.own
  refine⟨φ,o1,fun l k x hx=>⟨(o2 l k x hx).1, ?_⟩,o3⟩
  obtain⟨q1,q2,q3⟩:=(o2 l k x hx).2
  exact⟨(hmay x q1).1,(hmay x q1).2,q3⟩
 have hc:Core w0 St0 St β s a w:={
  defers:=h.defers
  size:=h.size
  lim:=h.lim
  env:=fun i=>by have:=h.env i; unfold nm at this ⊢; rw[← g.gs]; exact this
  below:=g.old.step (n:=0) h.below.rest (fun k h1 h2=>h.below.blk k (by omega) (hnown k h1 h2)) fun k h1=>h.below.siz k (by omega)
  st0:=h.st0
  stOld:=fun x o hxo h1 h2=>h.stOld x o hxo (by omega) (hnown x h1 h2)
  stIn:=h.stIn
  obs:=fun l ob x h1 h2 h3=>by
   obtain⟨q1,q2,q3⟩:=h.obs l ob x h1 h2 h3
   exact⟨(hmay x q1).1,q2,q3⟩
  nil:=h.nil
  inj:=h.inj
  sep:=h.sep
  own:=by
   obtain⟨φ,o1,o2,o3⟩:=hN
   refine⟨φ,o1,fun l k x hx=>⟨(o2 l k x hx).1, ?_⟩,o3⟩
   obtain⟨q1,q2,q3⟩:=(o2 l k x hx).2
   exact⟨q1,fun h=>h,q3⟩ }
 obtain⟨zs,cs,hz,hwf,hcs,hcl⟩:=g.cells
 unfold OO at hy
 rw[hz] at hy
 simp only[ah,bJ] at hy
 obtain⟨rfl,rfl⟩:=hy
 obtain⟨h1,h2,_⟩:=hc.addOb ⟨T,(zs.map Cl.v).length,[zs.map .v],true,true⟩ (some b) (by simp) (fun x hx=>by
  simp only[ah] at hx
  subst hx
  refine⟨g.may,by have:=g.lt; omega,fun l o2 p1 p2 p3=>?_,fun o hbo=>absurd hbo (hSt o),cs,by rw[hblk]; exact hcs,by simp,fun k c hk=>?_⟩
  ·exact(hmay _ (h.obs l o2 _ p1 p2 p3).1).2 rfl
  ·simp only[bT,Zh,bF,lD,yQ] at hk
   obtain⟨v,hv,rfl⟩:=hk
   refine⟨v,by rw[← Array.getElem?_toList,hcl]; exact hv, ?_⟩
   simp only[RdC,RdD,true_and]
   exact aF.1 hwf v (aY hv)) hN (fun x hx e=>hx.2.1 (by simp only[ah] at e; exact e.symm))
 refine⟨_,{ h1 with env:=fun i=>?_ }⟩
 simp only[BZ]
 by_cases e:d=i
 ·subst e
  have hd:d<1000000:=by
   rcases bI d a.tmps.size with h' | h'
   ·exact bn h' (by rw[h.size]; exact h.lim)
   ·simp[h',undef,YN] at hp
  simp only[bD]
  rw[PU hd,hp]
  simp[AVR,YN]
 ·simp only[e,aT]
  exact h1.env i
def Pq (R:Nat→AV) (j b:Nat):Nat→AV:=fun i=>if i=j then .pin .un (YN b) else R i
def PhA (w0:Bs) (St0:Nat→Nat→Prop) (n:Nat) (ops:Array Oper) (env:List (Nat×AV)) (R:Nat→AV) (S:Nat→List Ob) (E:Nat→Bool) (listed:Array Bool) (a:Act) (w:World):Prop:=
 ∃ q,Bd E q∧(∀ e,E e=true→(listed.getD e false=true↔e<q))∧Sim w0 St0 ⟨n,BV ops R env (fun i=>listed.getD i false) ops.size,S q⟩ a w
def PhB (P:Program) (w0:Bs) (St0:Nat→Nat→Prop) (n:Nat) (ops:Array Oper) (env:List (Nat×AV)) (R:Nat→AV) (S:Nat→List Ob) (E:Nat→Bool) (x:Option (Nat×Nat)) (listed:Array Bool) (a:Act) (w:World):Prop:=
 ∃ (j p q b:Nat) (wg:Bs) (T:TypeId) (oj:Oper),x=some (j,p)∧ops[j]?=some oj∧oj.op = .alloc T∧E j=true∧E p=true∧(∀ e,E e=true→e<j→e≤p)∧Bd E q∧q≤p∧listed.getD j false=true ∧
  (∀ e,E e=true→e≠j→(listed.getD e false=true↔e<q))∧Ghost P w0 St0 T wg b∧Sim wg St0 ⟨n,BV ops (Pq R j b) env (fun i=>listed.getD i false) ops.size,S q⟩ a w
theorem jU {ops:Array Oper} {j p:Nat} (h:y8 ops (some (j,p))=true) {oj:Oper} (hoj:ops[j]?=some oj) :
  (∃ T,oj.op = .alloc T)∧oj.after = #[]∧oj.guard=none∧(∃ d,oj.dst=some d)∧p<j∧∀ (i:Nat) (o:Oper),ops[i]?=some o→BO o j=true→BO o p=true:=by
 simp only[y8,hoj,ak,bf] at h
 obtain⟨⟨⟨⟨⟨h1,h2⟩,h3⟩,h4⟩,h5⟩,h6⟩:=h
 refine⟨?_,by simpa using h2,by simpa using h3,Option.isSome_iff_exists.1 h4,h5,fun i o ho hb=>?_⟩
 ·cases hop:oj.op with
  | alloc T=>exact⟨T,rfl⟩
  | _=>rw[hop] at h1; cases h1
 ·have hm:o∈ops.toList:=by
   have:=(bH.1 ho)
   obtain⟨hlt,rfl⟩:=this
   exact Array.getElem_mem_toList hlt
  have:=aF.1 h6 o hm
  simpa [hb] using this
theorem zC {ops:Array Oper} {n:Nat} (hok:Eo n ops=true) (hops:(ops.toList.all fun o=>o.op.operands.toList.all Ar)=true) (env:List (Nat×AV)) (R:Nat→AV) (S:Nat→List Ob) (E:Nat→Bool) (x:Option (Nat×Nat)) (hx:y8 ops x=true)
  (hR:∀ (i:Nat) (o:Oper),ops[i]?=some o→Tt P n ops x env R S E ops.size i o) (hE:∀ e,E e=true→e<ops.size)
  (Q:Exit→Act→World→Prop) (hQ:∀ a w,Sim w0 St0 ⟨n,BV ops R env (fun _=>true) ops.size,S ops.size⟩ a w→Q .normal a w) :
  ∀ (fuel:Nat) (listed:Array Bool) (a:Act) (w:World),listed.size=ops.size→listed.toList.countP (fun b=>!b)≤fuel →
   (∀ (i:Nat) (o:Oper),listed.getD i false=true→ops[i]?=some o→∀ e∈o.after,Region.binds .any e=true→listed.getD e.on false=true) →
   PhA w0 St0 n ops env R S E listed a w∨PhB P w0 St0 n ops env R S E x listed a w→wpAny P .any ops Q fuel listed a w:=by
 have hdst:=YE hok
 have hstay:∀ (d i:Nat),i+d≤ops.size→(∀ e,i≤e→e<i+d→E e=false)→S (i+d)=S i:=by
  intro d
  induction d with
  | zero=>intro i _ _; rfl
  | succ d ih =>
   intro i hi hno
   have hlt:i+d<ops.size:=by omega
   obtain⟨b,_,h1,h2,h3⟩:=hR (i+d) ops[i+d] (by simp[hlt])
   have hf:=hno (i+d) (by omega) (by omega)
   have e1:S (i+d+1)=S (i+d):=by
    cases b with
    | true=>exact(h3 rfl hf).1
    | false=>exact(h1 rfl).2.2
   rw[show i+(d+1)=i+d+1 by omega,e1]
   exact ih i (by omega) fun e he1 he2=>hno e he1 (by omega)
 have hstay2:∀ i j,i≤j→j≤ops.size→(∀ e,i≤e→e<j→E e=false)→S j=S i:=fun i j h1 h2 h3=>by
  have:=hstay (j-i) i (by omega) (fun e he1 he2=>h3 e he1 (by omega))
  rwa [show i+(j-i)=j by omega] at this
 have hall:∀ (listed:Array Bool) (a:Act) (w:World),(∀ i,i<ops.size→listed.getD i false=true)→PhA w0 St0 n ops env R S E listed a w∨PhB P w0 St0 n ops env R S E x listed a w→Q .normal a w:=by
  rintro listed a w hl (⟨q,hb,hq,hs⟩ | ⟨j,p,q,b,wg,T,oj,hxx,hoj,hopj,hEj,hEp,hle,hb,hqp,hlj,hq,hg,hs⟩)
  ·have hqs:q≤ops.size:=by
    rcases hb with rfl | ⟨e,he,rfl⟩
    ·omega
    ·exact hE e he
   have eS:S ops.size=S q:=hstay2 q ops.size hqs (aN _) fun e h1 h2=>by
    cases hc:E e with
    | false=>rfl
    | true=>have:=(hq e hc).1 (hl e h2); omega
   refine hQ a w (hs.congr rfl eS fun t=>?_)
   have key:∀ m,m≤ops.size→BV ops R env (fun _=>true) m=BV ops R env (fun i=>listed.getD i false) m:=by
    intro m
    induction m with
    | zero=>intro _; rfl
    | succ m ih=>intro hm; simp only[BV,ih (by omega),hl m (by omega)]
   rw[key ops.size (aN _)]
  ·subst hxx
   have hpj:=(jU hx hoj).2.2.2.2.1
   have:=(hq p hEp (by omega)).1 (hl p (hE p hEp))
   omega
 have hready:∀ (listed:Array Bool),Region.ready .any ops listed = []→listed.size=ops.size→∀ i,i<ops.size→listed.getD i false=true:=by
  intro listed hr hsz i
  induction i using Nat.strongRecOn with
  | _ i ih =>
   intro hi
   cases hc:listed.getD i false with
   | true=>rfl
   | false =>
    exfalso
    have:i∈Region.ready .any ops listed:=by
     rw[mem_ready]
     refine⟨?_,ops[i],by simp[hi],fun e he hb=>?_⟩
     ·have hi':i<listed.size:=by omega
      simp[hi'] at hc ⊢
      exact hc
     ·have:=(E_ hok (i:=i) (o:=ops[i]) (by simp[hi])).1 e he hb
      exact ih e.on this (by omega)
    rw[hr] at this
    cases this
 intro fuel
 induction fuel with
 | zero =>
  intro listed a w hsz hcnt hcl hs
  have hl:∀ i,i<ops.size→listed.getD i false=true:=by
   intro i hi
   have h0:listed.toList.countP (fun b=>!b)=0:=by omega
   rw[List.countP_eq_zero] at h0
   have hi':i<listed.size:=by omega
   have:=h0 listed[i] (by simp)
   simp[hi'] at this ⊢
   exact this
  refine⟨?_,hall listed a w hl hs⟩
  apply List.eq_nil_iff_forall_not_mem.2
  intro i hi
  rw[mem_ready] at hi
  obtain⟨h1,o,ho,_⟩:=hi
  have hi':i<ops.size:=(bH.1 ho).1
  have h2:=hl i hi'
  have hi2:i<listed.size:=by omega
  simp[hi2] at h1 h2
  rw[h1] at h2; cases h2
 | succ fuel ih =>
  intro listed a w hsz hcnt hcl hs
  refine⟨fun hr=>hall listed a w (hready listed hr hsz) hs,fun i hi=>?_⟩
  rw[mem_ready] at hi
  obtain⟨hun,o,ho,hafter⟩:=hi
  have hi':i<ops.size:=(bH.1 ho).1
  have hi2:i<listed.size:=by omega
  have hun':listed.getD i false=false:=by
   simp[hi2] at hun ⊢
   exact hun
  have hread:∀ (R':Nat→AV),(∀ k,BO o k=true→R' k=R k)→∀ t∈Pj ops o,BZ (BV ops R' env (fun i=>listed.getD i false) ops.size) t=BZ (BV ops R env (fun _=>true) i) t:=by
   intro R' hRR t ht
   by_cases hj:∃ (j:Nat),(ops[j]?).bind (·.dst)=some t
   ·obtain⟨j,hj⟩:=hj
    cases hoj:ops[j]? with
    | none=>simp[hoj] at hj
    | some oj =>
     have hjd:oj.dst=some t:=by simpa [hoj] using hj
     have hjs:j<ops.size:=(bH.1 hoj).1
     rcases Nat.lt_trichotomy j i with h1 | h1 | h1
     ·have hb:=(MR hok hoj ho hjd ht (by omega)).1 h1
      have hl:=CX hb hafter
      rw[Eb (X:=fun i=>listed.getD i false) hdst hj hl ops.size hjs,Eb (X:=fun _=>true) hdst hj rfl i h1]
      exact hRR j hb
     ·subst h1
      rw[BM (X:=fun i=>listed.getD i false) ops.size (fun k _ hk=>by have:=hdst k j t hk hj; subst this; exact hun'),
       BM (X:=fun _=>true) j (fun k hk hkd=>by have:=hdst k j t hkd hj; omega)]
     ·have hb:=(MR hok hoj ho hjd ht (by omega)).2 h1
      have hl:listed.getD j false=false:=by
       cases hc:listed.getD j false with
       | false=>rfl
       | true =>
        have:=CX hb (hcl j oj hc hoj)
        rw[this] at hun'; cases hun'
      rw[BM (X:=fun i=>listed.getD i false) ops.size (fun k _ hk=>by have:=hdst k j t hk hj; subst this; exact hl),
       BM (X:=fun _=>true) i (fun k hk hkd=>by have:=hdst k j t hkd hj; omega)]
   ·rw[BM (X:=fun i=>listed.getD i false) ops.size (fun k _ hk=>(hj ⟨k,hk⟩).elim),BM (X:=fun _=>true) i (fun k _ hk=>(hj ⟨k,hk⟩).elim)]
  obtain⟨b,hb1,hb2,hb3,hb4⟩:=hR i o ho
  have hfin:∀ (a':Act) (w':World),PhA w0 St0 n ops env R S E (listed.setIfInBounds i true) a' w'∨PhB P w0 St0 n ops env R S E x (listed.setIfInBounds i true) a' w'→wpAny P .any ops Q fuel (listed.setIfInBounds i true) a' w':=by
   intro a' w' hph
   refine ih _ a' w' (by simpa using hsz) ?_ ?_ hph
   ·have hset:(listed.setIfInBounds i true).toList=listed.toList.set i true:=by simp
    rw[hset,List.countP_set (by simpa using hi2)]
    have hv:listed.toList[i]'(by simpa using hi2)=false:=by simpa [hi2] using hun'
    rw[hv]
    have hpos:0<listed.toList.countP (fun b=>!b):=List.countP_pos_iff.2 ⟨listed.toList[i]'(by simpa using hi2),aj _,by rw[hv]; rfl⟩
    simp only[aO,bD,aQ,aC,aT]
    omega
   ·intro j oj hj hoj e he hbd
    rw[Hg hi2] at hj ⊢
    by_cases e1:i=j
    ·subst e1
     rw[ho] at hoj
     simp only[ah] at hoj
     subst hoj
     have:=hafter e he hbd
     rw[this]; simp
    ·simp only[e1,aT] at hj
     have:=hcl j oj hj hoj e he hbd
     rw[this]; simp
  have hput:∀ (wb:Bs) (R':Nat→AV) (st:List Ob) (a':Act) (w':World),Sim wb St0 (MS.put ⟨n,BV ops R' env (fun i=>listed.getD i false) ops.size,st⟩ o.dst (R' i)) a' w'→Sim wb St0 ⟨n,BV ops R' env (fun j=>(listed.setIfInBounds i true).getD j false) ops.size,st⟩ a' w':=by
   intro wb R' st a' w' hsim
   refine hsim.congr ?_ ?_ fun t=>?_
   ·cases o.dst<;>simp[MS.put]; split<;>rfl
   ·cases o.dst<;>simp[MS.put]; split<;>rfl
   ·have hX:(fun j=>(listed.setIfInBounds i true).getD j false)=fun j=>if i=j then true else listed.getD j false:=funext fun j=>Hg hi2
    rw[hX]
    cases hd:o.dst with
    | none =>
     simp only[MS.put]
     by_cases hj:∃ (j:Nat),(ops[j]?).bind (·.dst)=some t
     ·obtain⟨j,hj⟩:=hj
      have hjs:j<ops.size:=by
       cases hoj:ops[j]? with
       | none=>simp[hoj] at hj
       | some oj=>exact(bH.1 hoj).1
      have hne:i≠j:=fun e=>by subst e; simp[ho,hd] at hj
      cases hl:listed.getD j false with
      | true=>rw[Eb (X:=fun j=>if i=j then true else listed.getD j false) hdst hj (by simp only[hne,aT]; exact hl) ops.size hjs,Eb (X:=fun j=>listed.getD j false) hdst hj hl ops.size hjs]
      | false=>rw[BM (X:=fun j=>if i=j then true else listed.getD j false) ops.size (fun k _ hk=>by have:=hdst k j t hk hj; subst this; simp only[hne,aT]; exact hl),BM (X:=fun j=>listed.getD j false) ops.size (fun k _ hk=>by have:=hdst k j t hk hj; subst this; exact hl)]
     ·rw[BM (X:=fun j=>if i=j then true else listed.getD j false) ops.size (fun k _ hk=>(hj ⟨k,hk⟩).elim),BM (X:=fun j=>listed.getD j false) ops.size (fun k _ hk=>(hj ⟨k,hk⟩).elim)]
    | some d =>
     have hdn:=(E_ hok ho).2 d hd
     have hid:(ops[i]?).bind (·.dst)=some d:=by simp[ho,hd]
     simp only[MS.put,hdn,bD,BZ]
     by_cases e1:d=t
     ·subst e1
      simp only[bD]
      rw[Eb (X:=fun j=>if i=j then true else listed.getD j false) hdst hid (by simp) ops.size hi']
     ·simp only[e1,aT]
      by_cases hj:∃ (j:Nat),(ops[j]?).bind (·.dst)=some t
      ·obtain⟨j,hj⟩:=hj
       have hjs:j<ops.size:=by
        cases hoj:ops[j]? with
        | none=>simp[hoj] at hj
        | some oj=>exact(bH.1 hoj).1
       have hne:i≠j:=fun e=>by subst e; rw[hid] at hj; exact e1 (rC hj)
       cases hl:listed.getD j false with
       | true=>rw[Eb (X:=fun j=>if i=j then true else listed.getD j false) hdst hj (by simp only[hne,aT]; exact hl) ops.size hjs,Eb (X:=fun j=>listed.getD j false) hdst hj hl ops.size hjs]
       | false=>rw[BM (X:=fun j=>if i=j then true else listed.getD j false) ops.size (fun k _ hk=>by have:=hdst k j t hk hj; subst this; simp only[hne,aT]; exact hl),BM (X:=fun j=>listed.getD j false) ops.size (fun k _ hk=>by have:=hdst k j t hk hj; subst this; exact hl)]
      ·rw[BM (X:=fun j=>if i=j then true else listed.getD j false) ops.size (fun k _ hk=>(hj ⟨k,hk⟩).elim),BM (X:=fun j=>listed.getD j false) ops.size (fun k _ hk=>(hj ⟨k,hk⟩).elim)]
  have hset:∀ (q q':Nat),(∀ e,E e=true→(e<q'↔(e<q∨e=i)))→∀ e,E e=true→(listed.getD e false=true↔e<q)→((listed.setIfInBounds i true).getD e false=true↔e<q'):=by
   intro q q' hqq e he hq
   rw[Hg hi2,hqq e he,← hq]
   by_cases e1:i=e
   ·simp[e1]
   ·have e2:¬ e=i:=fun h=>e1 h.symm
    simp[e1,e2]
  have hkeep:∀ (q:Nat),E i=false→∀ e,E e=true→(listed.getD e false=true↔e<q)→((listed.setIfInBounds i true).getD e false=true↔e<q):=fun q hEi=>hset q q fun e he=>⟨.inl,fun h=>h.elim id fun h=>by subst h; rw[hEi] at he; cases he⟩
  have hmix:∀ (R':Nat→AV),(∀ k,BO o k=true→R' k=R k)→(∀ t,.tmp t∈o.op.operands.toList→BZ (BV ops R' env (fun i=>listed.getD i false) ops.size) t=BZ (BV ops R env (fun _=>true) i) t):=fun R' hRR t ht=>hread R' hRR t (by
   simp only[Pj,yU]
   left
   rw[List.mem_filterMap]
   exact⟨.tmp t,ht,rfl⟩)
  unfold wpOp
  rcases hs with ⟨q,hbd,hq,St,β,hcore⟩ | ⟨j,p,q,bg,wg,T,oj,hxx,hoj,hopj,hEj,hEp,hle,hbd,hqp,hlj,hq,hg,St,β,hcore⟩
  ·
   have hop:=hmix R fun _ _=>rfl
   have hg1:=hb1
   rw[← U7 (hread R fun _ _=>rfl)] at hg1
   have hwant:=jQ hcore (o:=o) hg1
   simp only[ho,hwant]
   cases b with
   | false =>
    simp only[aC,aT]
    obtain⟨g1,g2,g3⟩:=hb2 rfl
    refine hfin _ _ (.inl ⟨q,hbd,fun e he=>hkeep q g2 e he (hq e he),hput _ _ _ _ _ ⟨St,β,hcore.put o.dst ?_⟩⟩)
    rw[g1]
    simp only[AVR]
   | true =>
    simp only[bD]
    left
    cases hEi:E i with
    | false =>
     obtain⟨g1,g2⟩:=hb4 rfl hEi
     have hqs:q≤ops.size:=by
      rcases hbd with rfl | ⟨e,he,rfl⟩
      ·omega
      ·exact hE e he
     have hd:=g2 q hbd hqs (fun e he hbt=>(hq e he).1 (CX hbt hafter)) (fun e oe _ hoe he hbt=>by
      rcases bI e q with h' | h'
      ·have:=(hq e he).2 h'
       have:=CX hbt (hcl e oe this hoe)
       rw[this] at hun'; cases hun'
      ·exact h')
     have hstep:=OQ (P:=P) (s:=⟨n,BV ops R env (fun _=>true) i,S q⟩) (s':=⟨n,BV ops R env (fun i=>listed.getD i false) ops.size,S q⟩) rfl o.op hop (R i) hd
     exact Oper.wp_mono (fun a' w' hs=>hfin a' w' (.inl ⟨q,hbd,fun e he=>hkeep q hEi e he (hq e he),hput _ _ _ _ _ hs⟩)) (U6 hcore o (Jw hops ho) hstep Q)
    | true =>
     obtain⟨g1,g2,g3⟩:=hb3 rfl hEi
     have hiq:q≤i:=by
      have:¬ i<q:=fun h'=>by have:=(hq i hEi).2 h'; rw[this] at hun'; cases hun'
      omega
     have heff:(∀ e,E e=true→e<i→e<q)→o.wp P a w (fun a' w'=>wpAny P .any ops Q fuel (listed.setIfInBounds i true) a' w') Q:=by
      intro hprev
      have eS:S i=S q:=hstay2 q i hiq (by omega) fun e x1 x2=>by
       cases hc:E e with
       | false=>rfl
       | true=>have:=hprev e hc x2; omega
      rw[eS] at g2
      have hstep:=RH (P:=P) (s:=⟨n,BV ops R env (fun _=>true) i,S q⟩) (s':=⟨n,BV ops R env (fun i=>listed.getD i false) ops.size,S q⟩) rfl o.op g1 hop g2
      exact Oper.wp_mono (fun a' w' hs=>hfin a' w' (.inl ⟨i+1,.inr ⟨i,hEi,rfl⟩,fun e he=>hset q (i+1) (fun e he=>⟨fun h=>by
       rcases bI e i with h' | h'
       ·exact .inl (hprev e he h')
       ·exact .inr (by omega),fun h=>by
       rcases h with h | h
       ·omega
       ·omega⟩) e he (hq e he),hput _ _ _ _ _ hs⟩)) (YM hcore o (Jw hops ho) hstep Q)
     by_cases hxi:∃ p,x=some (i,p)∧E p=true∧(∀ e,E e=true→e<i→e≤p)∧¬ p<q
     ·
      obtain⟨p,hxx,hEp,hle,hpq⟩:=hxi
      subst hxx
      obtain⟨⟨T,hT⟩,_,_,_,hpi,_⟩:=jU hx ho
      rw[hT] at g2
      simp only[EF,Uj] at g2
      refine Oper.wp_mono (fun a' w' hs=>?_) (ABS hcore o T hT g2 Q)
      obtain⟨wg,bg,hgh,hsim⟩:=hs
      refine hfin a' w' (.inr ⟨i,p,q,bg,wg,T,o,rfl,ho,hT,hEi,hEp,hle,hbd,by omega,by rw[Hg hi2]; simp,fun e he hne=>?_,hgh, ?_⟩)
      ·rw[Hg hi2]
       have e1:¬ i=e:=fun h=>hne h.symm
       simp only[e1,aT]
       exact hq e he
      ·refine hput wg (Pq R i bg) (S q) a' w' ?_
       have e1:Pq R i bg i = .pin .un (YN bg):=by simp[Pq]
       rw[e1]
       refine hsim.congr ?_ ?_ fun t=>?_
       ·cases o.dst<;>simp[MS.put]; split<;>rfl
       ·cases o.dst<;>simp[MS.put]; split<;>rfl
       ·have e2:∀ m,BV ops (Pq R i bg) env (fun i=>listed.getD i false) m=BV ops R env (fun i=>listed.getD i false) m:=by
         intro m
         induction m with
         | zero=>rfl
         | succ m ihm =>
          simp only[BV,ihm]
          by_cases hm:m=i
          ·subst hm
           simp only[hun',aC,aT]
          ·simp only[Pq,hm,aT]
        rw[e2]
     ·refine heff ?_
      have key:∀ d e,i-e≤d→E e=true→e<i→e<q:=by
       intro d
       induction d with
       | zero=>intro e h1 _ h3; omega
       | succ d ihd =>
        intro e h1 he hei
        by_cases hex:∃ e',e<e'∧e'<i∧E e'=true
        ·obtain⟨e',x1,x2,x3⟩:=hex
         have:=ihd e' (by omega) x3 x2
         omega
        ·have hbt:=g3 e he hei fun e' x1 x2=>by
          cases hc:E e' with
          | false=>rfl
          | true=>exact absurd ⟨e',x1,x2,hc⟩ hex
         rcases hbt with hbt | ⟨p,hp1,hp2,hp3⟩
         ·exact(hq e he).1 (CX hbt hafter)
         ·have hpq:p<q:=by
           rcases bI p q with h' | h'
           ·exact h'
           ·refine absurd ⟨p,hp1,hp2,fun e' he' hei'=>?_,by omega⟩ hxi
            have:e'≤e:=by
             rcases bI e e' with h2 | h2
             ·exact absurd ⟨e',h2,hei',he'⟩ hex
             ·exact h2
            omega
          omega
      exact fun e he hei=>key (i-e) e (aN _) he hei
  ·
   subst hxx
   obtain⟨_,haft,_,⟨d,hd⟩,hpj,hbp⟩:=jU hx hoj
   have hnj:i≠j:=fun e=>by subst e; rw[hlj] at hun'; cases hun'
   have hpl:listed.getD p false=false:=by
    cases hc:listed.getD p false with
    | false=>rfl
    | true=>have:=(hq p hEp (by omega)).1 hc; omega
   have hnb:BO o j=false:=by
    cases hc:BO o j with
    | false=>rfl
    | true =>
     have:=CX (hbp i o ho hc) hafter
     rw[this] at hpl; cases hpl
   have hRR:∀ k,BO o k=true→Pq R j bg k=R k:=fun k hk=>by
    have:¬ k=j:=fun e=>by subst e; rw[hnb] at hk; cases hk
    simp only[Pq,this,aT]
   have hop:=hmix (Pq R j bg) hRR
   have hRi:Pq R j bg i=R i:=by simp only[Pq,hnj,aT]
   have hg1:=hb1
   rw[← U7 (hread (Pq R j bg) hRR)] at hg1
   have hwant:=jQ hcore (o:=o) hg1
   have hlj':(listed.setIfInBounds i true).getD j false=true:=by rw[Hg hi2,hlj]; simp
   simp only[ho,hwant]
   cases b with
   | false =>
    simp only[aC,aT]
    obtain⟨g1,g2,g3⟩:=hb2 rfl
    refine hfin _ _ (.inr ⟨j,p,q,bg,wg,T,oj,rfl,hoj,hopj,hEj,hEp,hle,hbd,hqp,hlj',fun e he hne=>hkeep q g2 e he (hq e he hne),hg,hput _ _ _ _ _ ⟨St,β,hcore.put o.dst ?_⟩⟩)
    rw[hRi,g1]
    simp only[AVR]
   | true =>
    simp only[bD]
    left
    cases hEi:E i with
    | false =>
     obtain⟨g1,g2⟩:=hb4 rfl hEi
     have hqs:q≤ops.size:=by
      rcases hbd with rfl | ⟨e,he,rfl⟩
      ·omega
      ·exact hE e he
     have hd2:=g2 q hbd hqs (fun e he hbt=>(hq e he (fun h=>by subst h; rw[hnb] at hbt; cases hbt)).1 (CX hbt hafter)) (fun e oe _ hoe he hbt=>by
      by_cases hej:e=j
      ·omega
      ·rcases bI e q with h' | h'
       ·have:=(hq e he hej).2 h'
        have:=CX hbt (hcl e oe this hoe)
        rw[this] at hun'; cases hun'
       ·exact h')
     have hstep:=OQ (P:=P) (s:=⟨n,BV ops R env (fun _=>true) i,S q⟩) (s':=⟨n,BV ops (Pq R j bg) env (fun i=>listed.getD i false) ops.size,S q⟩) rfl o.op hop (R i) hd2
     exact Oper.wp_mono (fun a' w' hs=>hfin a' w' (.inr ⟨j,p,q,bg,wg,T,oj,rfl,hoj,hopj,hEj,hEp,hle,hbd,hqp,hlj',fun e he hne=>hkeep q hEi e he (hq e he hne),hg,hput _ _ _ _ _ (by rw[hRi]; exact hs)⟩)) (U6 hcore o (Jw hops ho) hstep Q)
    | true =>
     obtain⟨g1,g2,g3⟩:=hb3 rfl hEi
     have hlisted:∀ e,E e=true→e<i→(∀ e',e<e'→e'<i→E e'=false)→listed.getD e false=true∧e≠j:=fun e he hei hno=>by
      rcases g3 e he hei hno with hbt | ⟨p',hp1,_,_⟩
      ·exact⟨CX hbt hafter,fun h=>by subst h; rw[hnb] at hbt; cases hbt⟩
      ·simp only[ah,bJ] at hp1
       exact absurd hp1.1.symm hnj
     have key:∀ d e,i-e≤d→E e=true→e<i→e<q:=by
      intro d
      induction d with
      | zero=>intro e h1 _ h3; omega
      | succ d ihd =>
       intro e h1 he hei
       by_cases hex:∃ e',e<e'∧e'<i∧E e'=true
       ·obtain⟨e',x1,x2,x3⟩:=hex
        have:=ihd e' (by omega) x3 x2
        omega
       ·obtain⟨y1,y2⟩:=hlisted e he hei fun e' x1 x2=>by
         cases hc:E e' with
         | false=>rfl
         | true=>exact absurd ⟨e',x1,x2,hc⟩ hex
        exact(hq e he y2).1 y1
     have hprev:∀ e,E e=true→e<i→e<q:=fun e he hei=>key (i-e) e (aN _) he hei
     have hij:i<j:=by
      rcases bI i j with h' | h'
      ·exact h'
      ·have:=hprev j hEj (by omega); omega
     have hip:i≤p:=hle i hEi hij
     have hiq:q≤i:=by
      have:¬ i<q:=fun h'=>by have:=(hq i hEi hnj).2 h'; rw[this] at hun'; cases hun'
      omega
     have eS:S i=S q:=hstay2 q i hiq (by omega) fun e x1 x2=>by
      cases hc:E e with
      | false=>rfl
      | true=>have:=hprev e hc x2; omega
     rw[eS] at g2
     have hstep:=RH (P:=P) (s:=⟨n,BV ops R env (fun _=>true) i,S q⟩) (s':=⟨n,BV ops (Pq R j bg) env (fun i=>listed.getD i false) ops.size,S q⟩) rfl o.op g1 hop g2
     refine Oper.wp_mono (fun a' w' hs=>hfin a' w' ?_) (YM hcore o (Jw hops ho) hstep Q)
     have hs2:Sim wg St0 ⟨n,BV ops (Pq R j bg) env (fun j=>(listed.setIfInBounds i true).getD j false) ops.size,S (i+1)⟩ a' w':=hput _ _ _ _ _ (by rw[hRi]; exact hs)
     have hq2:∀ e,E e=true→e≠j→((listed.setIfInBounds i true).getD e false=true↔e<i+1):=fun e he hne=>hset q (i+1) (fun e he=>⟨fun h=>by
      rcases bI e i with h' | h'
      ·exact .inl (hprev e he h')
      ·exact .inr (by omega),fun h=>by
      rcases h with h | h
      ·omega
      ·omega⟩) e he (hq e he hne)
     by_cases hpi:i=p
     ·
      left
      subst hpi
      obtain⟨bj,hj1,hj2,hj3,_⟩:=hR j oj hoj
      have hbj:bj=true:=by
       cases bj with
       | true=>rfl
       | false=>have:=(hj2 rfl).2.1; rw[hEj] at this; cases this
      obtain⟨_,k2,_⟩:=hj3 hbj hEj
      rw[hopj] at k2
      simp only[EF,Uj] at k2
      have eSj:S j=S (i+1):=hstay2 (i+1) j (by omega) (Nat.le_of_lt (hE j hEj)) fun e x1 x2=>by
       cases hc:E e with
       | false=>rfl
       | true=>have:=hle e hc x2; omega
      rw[eSj] at k2
      obtain⟨St2,β2,hc2⟩:=hs2
      have hjd:(ops[j]?).bind (·.dst)=some d:=by simp[hoj,hd]
      have hpt:a'.tmps.getD d Go.undef=YN bg:=by
       have:=hc2.env d
       rw[Eb (X:=fun j=>(listed.setIfInBounds i true).getD j false) hdst hjd hlj' ops.size (hE j hEj)] at this
       simp only[Pq,bD,AVR] at this
       rw[← PU (w0:=wg) (bn ((E_ hok hoj).2 d hd) hc2.lim)]
       exact this.1
      obtain⟨β3,hc3⟩:=hg.adopt hc2 k2 hpt
      refine⟨j+1,.inr ⟨j,hEj,rfl⟩,fun e he=>?_,⟨St2,β3,hc3.congr rfl rfl fun t=>?_⟩⟩
      ·by_cases hej:e=j
       ·subst hej; rw[hlj']; simp
       ·rw[hq2 e he hej]
        constructor
        ·intro h; omega
        ·intro h
         have:=hle e he (by omega)
         omega
      ·simp only[BZ]
       by_cases e1:d=t
       ·subst e1
        simp only[bD]
        rw[Eb (X:=fun j=>(listed.setIfInBounds i true).getD j false) hdst hjd hlj' ops.size (hE j hEj)]
       ·simp only[e1,aT]
        by_cases hjx:∃ (k:Nat),(ops[k]?).bind (·.dst)=some t
        ·obtain⟨k,hk⟩:=hjx
         have hks:k<ops.size:=by
          cases hok2:ops[k]? with
          | none=>simp[hok2] at hk
          | some ok=>exact(bH.1 hok2).1
         have hkj:¬ k=j:=fun e=>by subst e; rw[hjd] at hk; exact e1 (rC hk)
         cases hl:(listed.setIfInBounds i true).getD k false with
         | true =>
          rw[Eb (X:=fun j=>(listed.setIfInBounds i true).getD j false) hdst hk hl ops.size hks,Eb (X:=fun j=>(listed.setIfInBounds i true).getD j false) hdst hk hl ops.size hks]
          simp only[Pq,hkj,aT]
         | false =>
          rw[BM (X:=fun j=>(listed.setIfInBounds i true).getD j false) ops.size (fun m _ hm=>by have:=hdst m k t hm hk; subst this; exact hl),BM (X:=fun j=>(listed.setIfInBounds i true).getD j false) ops.size (fun m _ hm=>by have:=hdst m k t hm hk; subst this; exact hl)]
        ·rw[BM (X:=fun j=>(listed.setIfInBounds i true).getD j false) ops.size (fun m _ hm=>(hjx ⟨m,hm⟩).elim),BM (X:=fun j=>(listed.setIfInBounds i true).getD j false) ops.size (fun m _ hm=>(hjx ⟨m,hm⟩).elim)]
     ·right
      exact⟨j,p,i+1,bg,wg,T,oj,rfl,hoj,hopj,hEj,hEp,hle,.inr ⟨i,hEi,rfl⟩,by omega,hlj',hq2,hg,hs2⟩
structure InvE (P:Program) (n:Nat) (ops:Array Oper) (x:Option (Nat×Nat)) (env:List (Nat×AV)) (k:Nat) (R:Nat→AV) (S:Nat→List Ob) (E:Nat→Bool) (H:List (Nat×List Ob)) (pd:List PE):Prop where
 below:∀ e,E e=true→e<k
 hist:∀ q,Bd E q→(q,S q)∈H
 histB:∀ h∈H,Bd E h.1
 head:∃ q0 st0 H',H=(q0,st0)::H'∧∀ e,E e=true→e<q0
 pend:∀ (i:Nat) (o:Oper),i<k→ops[i]?=some o→jP ops (BV ops R env (fun _=>true) i) o.guard=some true→E i=false→(∀ e oe,ops[e]?=some oe→E e=true→BO oe i=false)→(⟨i,o.op,BV ops R env (fun _=>true) i,R i⟩:PE)∈pd
 spec:∀ (i:Nat) (o:Oper),i<k→ops[i]?=some o→Tt P n ops x env R S E k i o
theorem dZ {E:Nat→Bool} {o:Oper} {q:Nat} (hq:∀ e,E e=true→BO o e=true→e<q):∀ {H:List (Nat×List Ob)},(∀ h∈H,Bd E h.1)→U8 o q H=true
 | [],_=>rfl
 | h::H,hB=>by
  simp only[U8,ak,sV,bf]
  refine⟨?_,dZ hq fun h' hh=>hB h' (by simp[hh])⟩
  rcases hB h (by simp) with h0 | ⟨e,he,h1⟩
  ·left; omega
  ·cases hc:BO o e with
   | true=>left; have:=hq e he hc; omega
   | false=>right; rw[h1]; simp[hc]
theorem dw {n:Nat} {env:List (Nat×AV)} {o:Oper} {r:AV} {H:List (Nat×List Ob)}:∀ {G:List (Nat×List Ob)},U9 P n env o r H G→∀ h∈G,U8 o h.1 H=true→Bj P ⟨n,env,h.2⟩ o.op r
 | [],_,h,hh,_=>by simp at hh
 | g::G,hp,h,hh,ha=>by
  simp only[U9,CondK] at hp
  rcases cZ.1 hh with rfl | hh
  ·exact hp.1.1 ha
  ·exact dw hp.2 h hh ha
theorem d_ {n:Nat} {oe:Oper} {st':List Ob}:∀ {ps:List PE},U_ P n oe st' ps→∀ p∈ps,BO oe p.i=false→Bj P ⟨n,p.env,st'⟩ p.o p.r
 | [],_,p,hp,_=>by simp at hp
 | q::ps,h,p,hp,hb=>by
  simp only[U_,CondK] at h
  rcases cZ.1 hp with rfl | hp
  ·exact h.1.2 hb
  ·exact d_ h.2 p hp hb
theorem eF {oe:Oper}:∀ {ps:List PE} {p:PE},p∈ps→BO oe p.i=false→p∈Rx oe ps
 | [],p,h,_=>by simp at h
 | q::ps,p,h,hb=>by
  simp only[Rx]
  rcases cZ.1 h with rfl | h
  ·rw[hb]; simp
  ·have:=eF h hb
   split
   ·exact this
   ·exact abf _ this
theorem uB {n:Nat} {ops:Array Oper} {x:Option (Nat×Nat)} {K:MS→Prop} (hok:Eo n ops=true) (env:List (Nat×AV)):∀ (l:List Oper) (k:Nat) (R:Nat→AV) (S:Nat→List Ob) (E:Nat→Bool) (H:List (Nat×List Ob)) (pd:List PE),(∀ j,l[j]?=ops[k+j]?)→k+l.length=ops.size →
  InvE P n ops x env k R S E H pd→vpE P x ops K l k H pd ⟨n,BV ops R env (fun _=>true) k,S k⟩ →
  ∃ (R':Nat→AV) (S':Nat→List Ob) (E':Nat→Bool),K ⟨n,BV ops R' env (fun _=>true) ops.size,S' ops.size⟩∧S' 0=S 0∧(∀ e,E' e=true→e<ops.size)∧∀ (i:Nat) (o:Oper),ops[i]?=some o→Tt P n ops x env R' S' E' ops.size i o:=by
 intro l
 induction l with
 | nil =>
  intro k R S E H pd hl hk hI h
  simp only[X5,abB] at hk
  subst hk
  exact⟨R,S,E,h,rfl,hI.below,fun i o ho=>hI.spec i o (bH.1 ho).1 ho⟩
 | cons o l ih =>
  intro k R S E H pd hl hk hI h
  have ho:ops[k]?=some o:=by simpa using(hl 0).symm
  have hks:k<ops.size:=(bH.1 ho).1
  have hEk:∀ e,k≤e→E e=false:=fun e he=>by
   cases hc:E e with
   | false=>rfl
   | true=>have:=hI.below e hc; omega
  simp only[vpE,Q_,gE,ABM,CondK] at h
  have hSk:∀ st',(fun j=>if j≤k then S j else S k) (k+1)=(fun j=>if j≤k then S j else st') k:=fun st'=>by
   have h1:¬ k+1≤k:=by omega
   simp only[h1,aT,aN,bD]
  have put:∀ (r:AV) (st':List Ob),MS.put ⟨n,BV ops R env (fun _=>true) k,st'⟩ o.dst r=⟨n,BV ops (fun i=>if i=k then r else R i) env (fun _=>true) (k+1),st'⟩:=fun r st'=>by
   have e1:=Ry (ops:=ops) (env:=env) (R1:=fun i=>if i=k then r else R i) (R2:=R) k (fun i hi=>by simp; omega)
   simp only[BV,ho,abu,e1]
   cases hd:o.dst with
   | none=>simp only[MS.put]
   | some d =>
    have:=(E_ hok ho).2 d hd
    simp[MS.put,this]
  have go:∀ (r:AV) (st':List Ob) (eff:Bool) (H':List (Nat×List Ob)) (pd':List PE),vpE P x ops K l (k+1) H' pd' (MS.put ⟨n,BV ops R env (fun _=>true) k,st'⟩ o.dst r) →
    InvE P n ops x env (k+1) (fun i=>if i=k then r else R i) (fun j=>if j≤k then S j else st') (fun i=>if i=k then eff else E i) H' pd' →
    ∃ (R':Nat→AV) (S':Nat→List Ob) (E':Nat→Bool),K ⟨n,BV ops R' env (fun _=>true) ops.size,S' ops.size⟩∧S' 0=S 0∧(∀ e,E' e=true→e<ops.size)∧∀ (i:Nat) (o:Oper),ops[i]?=some o→Tt P n ops x env R' S' E' ops.size i o:=by
   intro r st' eff H' pd' hv hI'
   rw[put] at hv
   have e2:st'=(fun j=>if j≤k then S j else st') (k+1):=(aV (by omega)).symm
   rw[e2] at hv
   obtain⟨R',S',E',x1,x2,x3,x4⟩:=ih (k+1) _ _ _ H' pd' (fun j=>by
    have:=hl (j+1)
    simpa [Nat.add_assoc,Nat.add_comm 1 j] using this) (by simp only[bU] at hk; omega) hI' hv
   exact⟨R',S',E',x1,by simpa using x2,x3,x4⟩
  have hag:∀ (r:AV) (i:Nat),i≤k→BV ops (fun i=>if i=k then r else R i) env (fun _=>true) i=BV ops R env (fun _=>true) i:=fun r i hi=>Ry i fun j hj=>by simp; omega
  have keepSpec:∀ (r:AV) (st':List Ob) (eff:Bool),(eff=true→∀ (i:Nat) (oi:Oper),i<k→ops[i]?=some oi→jP ops (BV ops R env (fun _=>true) i) oi.guard=some true→E i=false→(∀ e oe,ops[e]?=some oe→E e=true→BO oe i=false)→BO o i=false→Bj P ⟨n,BV ops R env (fun _=>true) i,st'⟩ oi.op (R i)) →
    ∀ (i:Nat) (oi:Oper),i<k→ops[i]?=some oi→Tt P n ops x env (fun i=>if i=k then r else R i) (fun j=>if j≤k then S j else st') (fun i=>if i=k then eff else E i) (k+1) i oi:=by
   intro r st' eff hnew i oi hi hoi
   obtain⟨b,s1,s2,s3,s4⟩:=hI.spec i oi hi hoi
   have hne:¬ i=k:=by omega
   have hle:i≤k:=by omega
   have hle1:i+1≤k:=by omega
   refine⟨b,by rw[hag r i hle]; exact s1,fun hb=>?_,fun hb he=>?_,fun hb he=>?_⟩
   ·simpa only[hne,aT,hle,hle1,bD] using s2 hb
   ·simp only[hne,aT] at he
    obtain⟨y1,y2,y3⟩:=s3 hb he
    refine⟨y1,by simp only[hne,aT,hle,hle1,bD]; rw[hag r i hle]; exact y2,fun e hee hei hno=>(y3 e ?_ hei fun e' z1 z2=>?_).imp id fun⟨p,hp1,hp2,hp3⟩=>⟨p,hp1, ?_,hp3⟩⟩
    ·have:¬ e=k:=by omega
     simpa only[this,aT] using hee
    ·have:=hno e' z1 z2
     have h2:¬ e'=k:=by omega
     simpa only[h2,aT] using this
    ·have:¬ p=k:=by have:=hI.below p hp2; omega
     simpa only[this,aT] using hp2
   ·simp only[hne,aT] at he
    obtain⟨y1,y2⟩:=s4 hb he
    refine⟨by simpa only[hle,hle1,bD] using y1,fun q hbd hq hpast hfut=>?_⟩
    simp only[hne,aT]
    rw[hag r i hle]
    have hpast':∀ e,E e=true→BO oi e=true→e<q:=fun e hee hbt=>hpast e (by
     have:¬ e=k:=by have:=hI.below e hee; omega
     simpa only[this,aT] using hee) hbt
    by_cases hqk:q≤k
    ·simp only[hqk,bD]
     refine y2 q ?_ hqk hpast' fun e oe hek hoe hee hbt=>hfut e oe (by omega) hoe (by
      have:¬ e=k:=by omega
      simpa only[this,aT] using hee) hbt
     rcases hbd with rfl | ⟨e,hee,rfl⟩
     ·exact .inl rfl
     ·have:¬ e=k:=by omega
      simp only[this,aT] at hee
      exact .inr ⟨e,hee,rfl⟩
    ·have hq2:q=k+1:=by omega
     subst hq2
     have hek:eff=true:=by
      rcases hbd with h0 | ⟨e,hee,h1⟩
      ·omega
      ·have:e=k:=by omega
       subst this
       simpa using hee
     simp only[hqk,aT]
     subst hb
     refine hnew hek i oi hi hoi s1 he (fun e oe hoe hee=>?_) ?_
     ·cases hc:BO oe i with
      | false=>rfl
      | true =>
       have h2:=hI.below e hee
       have:=hfut e oe (by omega) hoe (by
        have:¬ e=k:=by omega
        simpa only[this,aT] using hee) hc
       omega
     ·cases hc:BO o i with
      | false=>rfl
      | true =>
       have:=hfut k o (by omega) ho (by simpa using hek) hc
       omega
  have readInv:∀ (r:AV) (pd':List PE),(∀ p∈pd,p∈pd')→(jP ops (BV ops R env (fun _=>true) k) o.guard=some true→(⟨k,o.op,BV ops R env (fun _=>true) k,r⟩:PE)∈pd') →
    Tt P n ops x env (fun i=>if i=k then r else R i) (fun j=>if j≤k then S j else S k) (fun i=>if i=k then false else E i) (k+1) k o→InvE P n ops x env (k+1) (fun i=>if i=k then r else R i) (fun j=>if j≤k then S j else S k) (fun i=>if i=k then false else E i) H pd':=by
   intro r pd' hpd hnewp hs
   have hEE:∀ e,(if e=k then false else E e)=true↔E e=true:=fun e=>by
    by_cases h':e=k
    ·subst h'; simp[hEk e (aN _)]
    ·simp[h']
   have hBd:∀ q,Bd (fun i=>if i=k then false else E i) q↔Bd E q:=fun q=>by
    unfold Bd
    simp only[hEE]
   refine⟨fun e he=>?_,fun q hq=>?_,fun h hh=>(hBd _).2 (hI.histB h hh), ?_,fun i oi hi hoi hg hE0 hno=>?_,fun i oi hi hoi=>?_⟩
   ·have:=hI.below e ((hEE e).1 he); omega
   ·have hq':=(hBd q).1 hq
    have hqk:q≤k:=by
     rcases hq' with rfl | ⟨e,he,rfl⟩
     ·omega
     ·exact hI.below e he
    simp only[hqk,bD]
    exact hI.hist q hq'
   ·obtain⟨q0,st0,H',e1,e2⟩:=hI.head
    exact⟨q0,st0,H',e1,fun e he=>e2 e ((hEE e).1 he)⟩
   ·rcases bI i k with h' | h'
    ·have hne:¬ i=k:=by omega
     simp only[hne,aT] at hE0 ⊢
     rw[hag r i (by omega)] at hg ⊢
     exact hpd _ (hI.pend i oi h' hoi hg hE0 fun e oe hoe hee=>hno e oe hoe ((hEE e).2 hee))
    ·have:i=k:=by omega
     subst this
     rw[ho] at hoi
     cases hoi
     rw[hag r i (aN _)] at hg ⊢
     simpa using hnewp hg
   ·rcases bI i k with h' | h'
    ·exact keepSpec r (S k) false (fun h=>by cases h) i oi h' hoi
    ·have:i=k:=by omega
     subst this
     rw[ho] at hoi
     cases hoi
     exact hs
  split at h
  ·rename_i b hb
   cases b with
   | false =>
    refine go .undef (S k) false H pd (h.2 rfl) (readInv .undef pd (fun _ h=>h) (fun hg=>by rw[hb] at hg; cases hg) ?_)
    unfold Tt
    refine⟨false,by rw[hag _ k (aN _)]; exact hb,fun _=>⟨by simp,by simp,hSk (S k)⟩,fun h=>Bool.noConfusion h,fun h=>Bool.noConfusion h⟩
   | true =>
    have h1:=h.1 rfl
    cases heff:Vx o.op with
    | false =>
     obtain⟨r,hr1,hr2,hr3⟩:=h1.2 heff
     refine go r (S k) false H _ hr3 (readInv r _ (fun p hp=>abf _ hp) (fun _=>List.mem_cons_self ..) ?_)
     unfold Tt
     refine⟨true,by rw[hag _ k (aN _)]; exact hb,fun h=>Bool.noConfusion h,fun _ he=>by simp at he,fun _ _=>⟨hSk (S k),fun q hbd hq hpast hfut=>?_⟩⟩
     have hbd':Bd E q:=by
      rcases hbd with rfl | ⟨e,hee,rfl⟩
      ·exact .inl rfl
      ·by_cases h':e=k
       ·simp[h'] at hee
       ·simp only[h',aT] at hee
        exact .inr ⟨e,hee,rfl⟩
     have hqk:q≤k:=by
      rcases hbd' with rfl | ⟨e,he,rfl⟩
      ·omega
      ·exact hI.below e he
     have hpast':∀ e,E e=true→BO o e=true→e<q:=fun e hee hbt=>hpast e (by
      have:¬ e=k:=by have:=hI.below e hee; omega
      simpa only[this,aT] using hee) hbt
     simp only[hqk,bD]
     rw[hag r k (aN _)]
     exact dw hr2 (q,S q) (hI.hist q hbd') (dZ hpast' hI.histB)
    | true =>
     have h2:=h1.1 heff
     cases hch:VA x k o H with
     | false=>exact(h2.2 hch).elim
     | true =>
      have h3:=h2.1 hch
      have h4:∃ y st',EF P ⟨n,BV ops R env (fun _=>true) k,S k⟩ o.op y st'∧ACz P o ⟨n,BV ops R env (fun _=>true) k,S k⟩ H pd k (vpE P x ops K l (k+1)) y st':=by
       generalize hop:o.op=op at h3
       cases op with
       | call c =>
        simp only[ABL,Jy,oH,Q9] at h3
        split at h3
        ·rename_i f hcl
         rcases h3 with h3 | h3 | ⟨y,st',h3,hk2⟩
         rotate_right
         ·refine⟨y,st', ?_,hk2⟩
          simp only[EF,hcl]
          exact .inr (.inr h3)
         ·split at h3
          ·rename_i args st1 hf
           obtain⟨rs,hc,hk2⟩:=h3
           refine⟨_,_, ?_,hk2⟩
           simp only[EF,hcl]
           exact .inl ⟨args,rs,st1,hf,hc,rfl,rfl⟩
          ·exact h3.elim
         ·obtain⟨args,rs,hf,hcl2,hc,hk2⟩:=h3
          refine⟨_,_, ?_,hk2⟩
          simp only[EF,hcl]
          exact .inr (.inl ⟨args,rs,hf,hcl2,hc,rfl,rfl⟩)
        ·rename_i hne
         split at h3
         ·rename_i y st' he
          refine⟨y,st', ?_,h3⟩
          simp only[EF]
          exact he
         ·exact h3.elim
       | _ =>
        simp only[ABL,Q9] at h3
        split at h3
        ·rename_i y st' he
         refine⟨y,st', ?_,h3⟩
         simp only[EF]
         exact he
        ·exact h3.elim
      obtain⟨y,st',g1,g2,g3⟩:=h4
      refine go y st' true _ _ g3 ?_
      have hEE:∀ e,(if e=k then true else E e)=true↔(E e=true∨e=k):=fun e=>by
       by_cases h':e=k
       ·simp[h']
       ·simp[h']
      refine⟨fun e he=>?_,fun q hq=>?_,fun h hh=>?_,⟨k+1,st',H,rfl,fun e he=>?_⟩,fun i oi hi hoi hg hE0 hno=>?_,fun i oi hi hoi=>?_⟩
      ·rcases(hEE e).1 he with h' | h'
       ·have:=hI.below e h'; omega
       ·omega
      ·rcases hq with rfl | ⟨e,he,rfl⟩
       ·simp only[ax,bD]
        exact abf _ (hI.hist 0 (.inl rfl))
       ·rcases(hEE e).1 he with h' | h'
        ·have:=hI.below e h'
         have h2:e+1≤k:=by omega
         simp only[h2,bD]
         exact abf _ (hI.hist _ (.inr ⟨e,h',rfl⟩))
        ·subst h'
         have h2:¬ e+1≤e:=by omega
         simp only[h2,aT]
         exact List.mem_cons_self ..
      ·rcases cZ.1 hh with rfl | hh
       ·exact .inr ⟨k,by simp,rfl⟩
       ·rcases hI.histB h hh with h0 | ⟨e,he,h1⟩
        ·exact .inl h0
        ·exact .inr ⟨e,(hEE e).2 (.inl he),h1⟩
      ·rcases(hEE e).1 he with h' | h'
       ·have:=hI.below e h'; omega
       ·omega
      ·have hlt:i<k:=by
        rcases bI i k with h' | h'
        ·exact h'
        ·have:i=k:=by omega
         subst this
         simp at hE0
       have hne:¬ i=k:=by omega
       simp only[hne,aT] at hE0 ⊢
       rw[hag y i (by omega)] at hg ⊢
       refine eF (hI.pend i oi hlt hoi hg hE0 fun e oe hoe hee=>hno e oe hoe ((hEE e).2 (.inl hee))) ?_
       exact hno k o ho (by simp)
      ·rcases bI i k with h' | h'
       ·refine keepSpec y st' true (fun _ j oj hj hoj hg hE0 hno hbo=>?_) i oi h' hoi
        exact d_ g2 _ (hI.pend j oj hj hoj hg hE0 hno) hbo
       ·have:i=k:=by omega
        subst this
        rw[ho] at hoi
        cases hoi
        unfold Tt
        refine⟨true,by rw[hag y i (aN _)]; exact hb,fun h=>Bool.noConfusion h,fun _ _=>⟨heff, ?_,fun e hee hei hno=>?_⟩,fun _ he=>by simp at he⟩
        ·have h2:¬ i+1≤i:=by omega
         simp only[aN,bD,h2,aT]
         rw[hag y i (aN _)]
         exact g1
        ·have hne:¬ e=i:=by omega
         simp only[hne,aT] at hee
         obtain⟨q0,st0,H',e1,e2⟩:=hI.head
         have hb0:=hI.histB (q0,st0) (by rw[e1]; exact List.mem_cons_self ..)
         rw[e1] at hch
         rcases hb0 with h0 | ⟨e0,he0,h1⟩
         ·have:=e2 e hee
          simp only at h0
          omega
         ·simp only at h1
          have hlt:=e2 e hee
          have hi0:=hI.below e0 he0
          have hold:chainB o ((q0,st0)::H')=true→BO o e=true:=fun hch=>by
           by_cases heq:e=e0
           ·subst heq
            simp only[chainB,h1] at hch
            exact hch
           ·have:=hno e0 (by omega) hi0
            have hne0:¬ e0=i:=by omega
            simp only[hne0,aT] at this
            rw[he0] at this; cases this
          cases x with
          | none=>exact .inl (hold hch)
          | some jp =>
           obtain⟨j,p⟩:=jp
           simp only[VA] at hch
           by_cases hij:i=j
           ·subst hij
            simp only[bD,jT,bf] at hch
            have hp:e0=p:=by omega
            subst hp
            have hne0:¬ e0=i:=by omega
            exact .inr ⟨e0,rfl,by simp only[hne0,aT]; exact he0,by omega⟩
           ·rw[aV hij] at hch
            exact .inl (hold hch)
  ·exact h.elim
theorem jV {ops:Array Oper} {x:Option (Nat×Nat)} (hx:y8 ops x=true) (hok:Eo s.n ops=true) (hops:(ops.toList.all fun o=>o.op.operands.toList.all Ar)=true) (h:Core w0 St0 St β s a w) {K:MS→Prop} (hK:vpE P x ops K ops.toList 0 [(0,s.st)] [] s) :
  wpAny P .any ops (fun e a' w'=>e = .normal∧∃ s',K s'∧s'.n=s.n∧Sim w0 St0 s' a' w') ops.size (Array.replicate ops.size false) a { w with drawn:=w.drawn+1 }:=by
 have hI:InvE P s.n ops x s.env 0 (fun _=>.un) (fun _=>s.st) (fun _=>false) [(0,s.st)] []:=by
  refine⟨fun e he=>?_,fun q hq=>?_,fun h hh=>?_,⟨0,s.st,[],rfl,fun e he=>?_⟩,fun i o hi=>?_,fun i o hi=>?_⟩
  ·cases he
  ·rcases hq with rfl | ⟨e,he,_⟩
   ·simp
   ·cases he
  ·simp only[cZ,List.not_mem_nil,or_false] at hh
   subst hh
   exact .inl rfl
  ·cases he
  ·omega
  ·omega
 obtain⟨R,S,E,hKs,hS0,hE,hR⟩:=uB (K:=K) hok s.env ops.toList 0 (fun _=>.un) (fun _=>s.st) (fun _=>false) [(0,s.st)] [] (fun j=>by simp) (by simp) hI (by simpa [BV] using hK)
 have hgrow:Core w0 St0 St β s a { w with drawn:=w.drawn+1 }:=h.grow (w':={ w with drawn:=w.drawn+1 }) ⟨rfl,rfl,rfl,aN _,fun _ _=>rfl⟩ (fun _ _ h=>h) (fun _ _ h _=>h) h.stIn
 have hno:∀ i,(Array.replicate ops.size false).getD i false=false:=fun i=>by
  simp[aa1]
  split<;>rfl
 refine zC (P:=P) (n:=s.n) hok hops s.env R S E x hx hR hE _ (fun a w hs=>⟨rfl,_,hKs,rfl,hs⟩) ops.size (Array.replicate ops.size false) a _ (by simp) ?_ ?_ (.inl ⟨0,.inl rfl,fun e he=>?_, ?_⟩)
 ·have:(Array.replicate ops.size false).toList.countP (fun b=>!b)≤(Array.replicate ops.size false).toList.length:=List.countP_le_length
  simpa using this
 ·intro i o hi
  rw[hno] at hi; cases hi
 ·rw[hno]; simp
 ·refine⟨St,β,hgrow.congr rfl (by rw[hS0]) fun t=>?_⟩
  rw[BM ops.size (fun k _ _=>hno k)]
theorem Vy {ops:Array Oper} (hok:Eo s.n ops=true) (hops:(ops.toList.all fun o=>o.op.operands.toList.all Ar)=true) (h:Core w0 St0 St β s a w) {K:MS→Prop} (hv:ABN P ops s K) :
  ∀ L,GX ops (Array.replicate ops.size false) L→wpOps P ops (fun e a' w'=>e = .normal∧∃ s',K s'∧s'.n=s.n∧Sim w0 St0 s' a' w') L a { w with drawn:=w.drawn+1 }:=by
 intro L hL
 rcases hv with ⟨ls,st',hf,hv⟩ | ⟨x,hx,hv⟩ | hv
 ·obtain⟨St1,h1⟩:=YK ls s.st st' St h hf
  exact OT L _ _ _ _ (oJ (by simpa only using hok) hops h1 hv) hL
 ·exact OT L _ _ _ _ (jV hx hok hops h hv) hL
 ·exact OT L _ _ _ _ (hv w0 St0 St β a w h) hL
theorem MV {K:MS→Prop} (h:Core w0 St0 St β s a w):∀ (d:Nat) (ops:Array Oper),Eo s.n ops=true→(ops.toList.all fun o=>o.op.operands.toList.all Ar)=true→DrawX P d ops s K →
  ∀ L,GX ops (Array.replicate ops.size false) L→wpOps P ops (fun e a' w'=>e = .normal∧∃ s',K s'∧s'.n=s.n∧Sim w0 St0 s' a' w') L a { w with drawn:=w.drawn+1 }
 | 0,_,hok,hops,hv=>Vy hok hops h hv
 | _+1,_,hok,hops,.inl hv=>Vy hok hops h hv
 | d+1,_,hok,hops,.inr hx=>by
  obtain⟨l,e1,e2,σ1,σ2,js,e,hne,h1,k1,k2⟩:=hx
  subst e
  obtain⟨_,_,d1,o1⟩:=Pm h1
  rcases k2 with ⟨hp,hl⟩ | ⟨h2,k2⟩
  ·exact AEj hne hok hp hl h1 (MV h d _ d1 o1 k1)
  ·obtain⟨_,_,d2,o2⟩:=Pm h2
   exact split_ok hne hok h1 h2 (MV h d _ d1 o1 k1) (MV h d _ d2 o2 k2)
theorem eG (hm:P.follows .mixedOrders=true) (n:Nat):∀ (c:Code),codeOk n c=true→∀ (s:MS) (Q:Ex→MS→Prop) (a:Act) (w:World),s.n=n→vp P c s Q→Sim w0 St0 s a w→c.wp P (AGQ w0 St0 n Q) a w:=by
 intro c
 induction c with
 | skip=>intro _ s Q a w hn hv hs; exact wp_skip ⟨.normal,s,rfl,hv,hn,hs⟩
 | region id ops draw =>
  intro hc s Q a w hn hv hs
  cases draw with
  | false =>
   simp only[vp] at hv
   simp only[codeOk] at hc
   exact wp_region_list (uA ops _ (Q .normal) n ops.toList 0 (fun j=>by simp) hc s a w hn hs hv fun s' a' w' hK hn' hs'=>⟨.normal,s',rfl,hK,hn',hs'⟩)
  | true =>
   simp only[vp] at hv
   simp only[codeOk,ak] at hc
   obtain⟨d,hv⟩:=hv
   obtain⟨St,β,h⟩:=hs
   refine wp_mono (WZ hm (MV h d ops (by rw[hn]; exact hc.2) hc.1 hv)) ?_
   rintro e a' w' ⟨rfl,s',hK,hn',hs'⟩
   exact⟨.normal,s',rfl,hK,hn'.trans hn,hs'⟩
 | seq x y ihx ihy =>
  intro hc s Q a w hn hv hs
  simp only[codeOk,ak] at hc
  simp only[vp] at hv
  refine wp_seq (wp_mono (ihx hc.1 s _ a w hn hv hs) ?_)
  rintro e a' w' ⟨ex,s',rfl,hq,hn',hs'⟩
  cases ex with
  | normal=>exact ihy hc.2 s' Q a' w' hn' hq hs'
  | exit i=>exact⟨.exit i,s',rfl,hq,hn',hs'⟩
  | ret=>exact⟨.ret,s',rfl,hq,hn',hs'⟩
 | cond c x y ihx ihy =>
  intro hc s Q a w hn hv hs
  simp only[codeOk,ak] at hc
  simp only[vp,wM] at hv
  split at hv
  ·rename_i b hev
   obtain⟨St,β,h⟩:=hs
   have he:=Bl h c hc.1.1
   rw[hev] at he
   obtain⟨hval,_⟩:=Nb he
   exact wp_cond_split hval (fun hb=>ihx hc.1.2 s Q a w hn (hv.1 hb) ⟨St,β,h⟩) (fun hb=>ihy hc.2 s Q a w hn (hv.2 hb) ⟨St,β,h⟩)
  ·exact hv.elim
 | block id x ih =>
  intro hc s Q a w hn hv hs
  simp only[codeOk] at hc
  simp only[vp] at hv
  refine wp_block (wp_mono (ih hc s _ a w hn hv hs) ?_)
  rintro e a' w' ⟨ex,s',rfl,hq,hn',hs'⟩
  cases ex with
  | normal=>exact⟨.normal,s',rfl,hq,hn',hs'⟩
  | exit i =>
   simp only[Ex.of,Exit.inBlock]
   simp only[y9] at hq
   by_cases e:i=id
   ·simp only[e,bD] at hq ⊢
    exact⟨.normal,s',rfl,hq,hn',hs'⟩
   ·simp only[e,aT] at hq ⊢
    exact⟨.exit i,s',rfl,hq,hn',hs'⟩
  | ret=>exact⟨.ret,s',rfl,hq,hn',hs'⟩
 | loop x ih =>
  intro hc s Q a w hn hv hs
  simp only[codeOk] at hc
  simp only[vp] at hv
  obtain⟨H1,H2,A,f,p,μ,hH,⟨x0,t1,t2,hp0⟩,hround⟩:=hv
  refine wp_loop_ghost (fun m a w=>∃ y,μ y=m∧p y∧(f y).n=n∧Sim w0 St0 (f y) a w) (μ x0) ⟨x0,rfl,hp0, ?_, ?_⟩ ?_
  ·exact(hH _ _ t1 t2).1.trans hn
  ·obtain⟨St,β,h⟩:=hs
   exact(hH _ _ t1 t2).2 _ _ _ _ _ _ h
  ·rintro m a w ⟨y,rfl,hp,hny,hsy⟩
   refine wp_mono (ih hc (f y) _ a w hny (hround y hp) hsy) ?_
   rintro e a' w' ⟨ex,s',rfl,hq,hn',hs'⟩
   cases ex with
   | normal =>
    obtain⟨z,u1,u2,u3,u4⟩:=hq
    obtain⟨St,β,h⟩:=hs'
    refine⟨μ z,u4,z,rfl,u3, ?_, ?_⟩
    ·exact(hH _ _ u1 u2).1.trans hn'
    ·exact(hH _ _ u1 u2).2 _ _ _ _ _ _ h
   | exit i=>exact⟨.exit i,s',rfl,hq,hn',hs'⟩
   | ret=>exact⟨.ret,s',rfl,hq,hn',hs'⟩
 | exit id=>intro _ s Q a w hn hv hs; exact wp_exit ⟨.exit id,s,rfl,hv,hn,hs⟩
 | scope x ih =>
  intro hc s Q a w hn hv hs
  simp only[codeOk] at hc
  simp only[vp] at hv
  refine wp_scope_straight (wp_mono (ih hc s Q a w hn hv hs) ?_)
  rintro e a' w' ⟨ex,s',rfl,hq,hn',hs'⟩
  cases ex with
  | normal=>exact⟨.normal,s',rfl,hq,hn',hs'⟩
  | exit i=>exact⟨.exit i,s',rfl,hq,hn',hs'⟩
  | ret=>exact⟨.ret,s',rfl,hq,hn',hs'⟩
 | ret=>intro _ s Q a w hn hv hs; exact wp_ret ⟨.ret,s,rfl,hv,hn,hs⟩
 | _=>intro _ s Q a w _ hv _; simp only[vp] at hv
end Go.Vm
