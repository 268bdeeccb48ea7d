/- A part. -/
import Derived.Test.YtnoldekcdlaahaaGreatPVmZ
import Derived.Deep.LoopGhost
import Derived.Scope
import Derived.ProofKit
set_option linter.unusedSimpArgs false
set_option linter.unusedVariables false
namespace Go.Vm
open Go.RowKit
variable {P:Program} {w0:Bs} {St0 St:Nat→Nat→Prop} {β:Nat→Option Nat} {s:MS} {a:Act} {w:World}
inductive Ex where
 | normal
 | exit (id:Nat)
 | ret
def CallK (P:Program) (f:FuncId) (args:List AV) (K:List Res→Prop):Prop:=∃ rs,Ctr P f args rs∧(YS rs→K rs)
def ADQ (s:MS) (dst:Option Nat) (K:MS→Prop) (y:AV) (st':List Ob):Prop:=K (MS.put ⟨s.n,s.env,st'⟩ dst y)
def ABX (s:MS) (dst:Option Nat) (K:MS→Prop) (st1:List Ob) (rs:List Res):Prop:=K (MS.put ⟨s.n,s.env,(Ir st1 rs).2⟩ dst (retA (Ir st1 rs).1))
def xq (P:Program) (f:FuncId) (s:MS) (dst:Option Nat) (K:MS→Prop) (args:List AV) (st1:List Ob):Prop:=CallK P f args (ABX s dst K st1)
def MutK (P:Program) (f:FuncId) (s:MS) (args:List AV) (dst:Option Nat) (K:MS→Prop):Prop:=∃ (rest:List AV) (g:Bool) (zs cl:List Cl) (Q:List Cl→List AV→Prop),args=mkA g zs::rest∧(g=true∨zs.length=1) ∧
 OwnL s.st zs cl [] (fun _=>True)∧rest.all ABR=true∧MCtr P f g cl rest Q∧∀ cl' rs,Q cl' rs→(rs.all isV=true∧YV cl cl')∧K (MS.put ⟨s.n,s.env,JH s.st zs cl'⟩ dst (retA rs))
def Head (s t:MS):Prop:=t.n=s.n∧∀ (w0:Bs) (St0 St:Nat→Nat→Prop) (β:Nat→Option Nat) (a:Act) (w:World),Core w0 St0 St β s a w→∃ St' β',Core w0 St0 St' β' t a w
def NM (A B:Prop):Prop:=A∨B
def BorK (P:Program) (f:FuncId) (s:MS) (x:Option (List AV)) (K:List Res→Prop):Prop:=∃ args rs,x=some args∧rs.all Gn=true∧Ctr P f args rs∧(YS rs→K rs)
def AI_ (P:Program) (x:AV) (y:Option (List AV×List Ob)) (s:MS) (dst:Option Nat) (K:MS→Prop):Prop:=match x,y with
 | .clo f xs,some (args,st1)=>CallK P f (args++xs.map AV.ip) (ABX s dst K st1)
 | _,_=>False
def InlK (P:Program) (f:FuncId) (s:MS) (args:List AV) (dst:Option Nat) (K:MS→Prop):Prop:=CallsIn P f∧∀ (w0:Bs) (St0 St:Nat→Nat→Prop) (β:Nat→Option Nat) (a:Act) (w:World) (us:List Value),Core w0 St0 St β s a w→AVRs w St s.st β args us →
 Calls P f us.toArray w fun e w'=>∃ u,e = .returned u∧∃ (s':MS) (x:AV),s'.n=s.n∧K (s'.put dst x)∧∃ St' β',Core w0 St0 St' β' s' a w'∧AVR w' St' s'.st β' x u
def Qn (P:Program) (op:Op) (dst:Option Nat) (s:MS) (K:MS→Prop):Prop:=match op with
 | .call c=>match c.callee with
  | .value (.func f)=>NM (uA (We s.st (c.args.toList.map (Ei s))) (xq P f s dst K)) (NM (BorK P f s (TM s.st (c.args.toList.map (Ei s))) (ABX s dst K s.st)) (NM (MutK P f s (c.args.toList.map (Ei s)) dst K) (InlK P f s (c.args.toList.map (Ei s)) dst K)))
  | .value (.tmp t)=>AI_ P (unpin (Bi s.env t)) (We s.st (c.args.toList.map (Ei s))) s dst K
  | _=>TP (WC P s (.call c)) (ADQ s dst K)
 | op=>TP (WC P s op) (ADQ s dst K)
def gO (P:Program) (o:Oper) (K:MS→Prop) (s:MS) (b:Bool):Prop:=CondK b (Qn P o.op o.dst s K) (K (s.put o.dst .undef))
theorem AFH {P:Program} {o:Oper} {K:MS→Prop} {s:MS}:gO P o K s true=Qn P o.op o.dst s K:=KX
theorem ADR {P:Program} {o:Oper} {K:MS→Prop} {s:MS}:gO P o K s false=K (s.put o.dst .undef):=LX
theorem AEO {P:Program} {o:Oper} {K:MS→Prop} {s:MS} {b:Bool} (h1:b=true→Qn P o.op o.dst s K) (h2:b=false→K (s.put o.dst .undef)):gO P o K s b:=AER h1 h2
def vpO (P:Program) (ops:Array Oper) (K:MS→Prop):List Oper→MS→Prop
 | [],s=>K s
 | o::rest,s=>TQ (nU ops s.env o.guard) (gO P o (vpO P ops K rest) s)
def vpR (P:Program) (ops:Array Oper) (K:MS→Prop) (s:MS):Prop:=vpO P ops K ops.toList s
theorem AFI {P:Program} {l:List Oper} {K:MS→Prop} {s:MS}:vpR P l.toArray K s=vpO P l.toArray K l s:=rfl
def Xq (st:List Ob):List Nat→Option (List Ob)
 | []=>some st
 | l::ls=>match Cf st l with
  | some ob=>if Gq ob.xs then Xq (QO st l) ls else none
  | none=>none
def I7 (N:Nat):Cl→Bool
 | .ref l=>decide (l<N)
 | _=>true
mutual
def I8 (N:Nat):AV→Bool
 | .c x=>I7 N x
 | .agg xs=>xs.all (I7 N)
 | .lp l _ _=>decide (l<N)
 | .tup xs=>SQ N xs
 | .pin x _=>I8 N x
 | .vw x _ _ _=>I8 N x
 | _=>true
def SQ (N:Nat):List AV→Bool
 | []=>true
 | x::xs=>I8 N x&&SQ N xs
end
def Aw (N:Nat) (ob:Ob):Bool:=Gq ob.xs||ob.xs.all fun x=>x.all (I7 N)
def trim (N:Nat) (keys:List Nat) (s:MS):MS:=⟨s.n,keys.map fun k=>(k,Bi s.env k),s.st.take N⟩
def Pe (N:Nat) (keys:List Nat) (s:MS):Prop:=(keys.all fun k=>I8 N (Bi s.env k))=true∧((s.st.take N).all (Aw N))=true
def LoopK (s:MS) (body:MS→(MS→Prop)→Prop):Prop:=
 ∃ (H1:MS→Prop) (H2:MS→MS→Prop) (A:Type) (f:A→MS) (p:A→Prop) (μ:A→Nat),(∀ s t,H1 s→H2 s t→Head s t)∧(∃ x,H1 s∧H2 s (f x)∧p x) ∧
  ∀ x,p x→body (f x) fun s'=>∃ y,H1 s'∧H2 s' (f y)∧p y∧μ y<μ x
def Eu:List (Nat×Bool)→Nat→Nat
 | [],_=>0
 | x::xs,l=>if x.1=l then 0 else Eu xs l+1
def iR:List (Nat×Bool)→Nat→Bool
 | [],_=>false
 | x::xs,l=>decide (x.1=l)||iR xs l
def QP (sel:List (Nat×Bool)):Cl→Cl
 | .ref l=>.ref (Eu sel l)
 | c=>c
def zq (sel:List (Nat×Bool)):Cl→Bool
 | .ref l=>iR sel l
 | _=>true
mutual
def tJ (sel:List (Nat×Bool)):AV→AV
 | .c x=>.c (QP sel x)
 | .agg xs=>.agg (xs.map (QP sel))
 | .lp l i off=>.lp (Eu sel l) i off
 | .tup xs=>.tup (ABY sel xs)
 | .ip xs=>.ip xs
 | .undef=>.undef
 | .un=>.un
 | .pin x u=>.pin (tJ sel x) u
 | .clo f xs=>.clo f xs
 | .vw x i n m=>.vw (tJ sel x) i n m
def ABY (sel:List (Nat×Bool)):List AV→List AV
 | []=>[]
 | x::xs=>tJ sel x::ABY sel xs
end
mutual
def inA (sel:List (Nat×Bool)):AV→Bool
 | .c x=>zq sel x
 | .agg xs=>xs.all (zq sel)
 | .lp l _ _=>iR sel l
 | .tup xs=>ADS sel xs
 | .pin x _=>inA sel x
 | .vw x _ _ _=>inA sel x
 | _=>true
def ADS (sel:List (Nat×Bool)):List AV→Bool
 | []=>true
 | x::xs=>inA sel x&&ADS sel xs
end
def J7 (sel:List (Nat×Bool)) (r:Bool) (ob:Ob):Ob:=if r=true then⟨ob.ty,ob.sz,ob.xs.map (fun x=>x.map (QP sel)),ob.wr,ob.live⟩ else ob
def Ou (sel:List (Nat×Bool)) (st:List Ob):List (Nat×Bool)→List Ob
 | []=>[]
 | e::r=>(match st[e.1]? with | some ob=>J7 sel e.2 ob | none=>default)::Ou sel st r
def rel (sel:List (Nat×Bool)) (keys:List Nat) (s:MS):MS:=⟨s.n,keys.map fun k=>(k,tJ sel (Bi s.env k)),Ou sel s.st sel⟩
def VL (sel:List (Nat×Bool)) (st:List Ob):List (Nat×Bool)→Prop
 | []=>True
 | e::r=>(match st[e.1]? with | some ob=>(if e.2=true then(ob.xs.all fun x=>x.all (zq sel)) else Gq ob.xs)=true | none=>False)∧VL sel st r
def AFJ:List (Nat×Bool)→Bool
 | []=>true
 | x::xs=>!iR xs x.1&&AFJ xs
def Qo (sel:List (Nat×Bool)) (keys:List Nat) (s:MS):Prop:=AFJ sel=true∧(keys.all fun k=>inA sel (Bi s.env k))=true∧VL sel s.st sel
def Xr:Op→Bool
 | .call c=>match c.callee with
  | .value (.func _)=>true
  | .builtin .append=>true
  | _=>false
 | .alloc _=>true
 | .box _ _=>true
 | .store _ _ _=>true
 | .makeSlice _ _ _=>true
 | .buildSlice _ _ _=>true
 | _=>false
def FH (P:Program) (s:MS) (o:Op) (y:AV) (st':List Ob):Prop:=match o with
 | .call c=>match c.callee with
  | .value (.func f)=>(∃ args rs st1,We s.st (c.args.toList.map (Ei s))=some (args,st1)∧Ctr P f args rs∧y=retA (Ir st1 rs).1∧st'=(Ir st1 rs).2) ∨
    (∃ args rs,TM s.st (c.args.toList.map (Ei s))=some args∧rs.all Gn=true∧Ctr P f args rs∧y=retA (Ir s.st rs).1∧st'=(Ir s.st rs).2)∨InlS P f s.st (c.args.toList.map (Ei s)) y st'
  | _=>WC P s (.call c)=some (y,st')
 | op=>WC P s op=some (y,st')
structure PE where
 i:Nat
 o:Op
 env:List (Nat×AV)
 r:AV
def Wl (o:Oper) (q:Nat):List (Nat×List Ob)→Bool
 | []=>true
 | h::H=>(decide (h.1≤q) || !Bj o (h.1-1))&&Wl o q H
def Wn (P:Program) (n:Nat) (env:List (Nat×AV)) (o:Oper) (r:AV) (H:List (Nat×List Ob)):List (Nat×List Ob)→Prop
 | []=>True
 | h::G=>CondK (Wl o h.1 H) (Ci P ⟨n,env,h.2⟩ o.op r) True∧Wn P n env o r H G
def Wp (P:Program) (n:Nat) (oe:Oper) (st':List Ob):List PE→Prop
 | []=>True
 | p::ps=>CondK (Bj oe p.i) True (Ci P ⟨n,p.env,st'⟩ p.o p.r)∧Wp P n oe st' ps
def UC (oe:Oper):List PE→List PE
 | []=>[]
 | p::ps=>match Bj oe p.i with
  | true=>UC oe ps
  | false=>p::UC oe ps
def chainB (o:Oper):List (Nat×List Ob)→Bool
 | []=>false
 | h::_=>match h.1 with
  | 0=>true
  | q+1=>Bj o q
def nO (p:Nat):List (Nat×List Ob)→Bool
 | []=>false
 | h::_=>decide (h.1=p+1)
def Wq (x:Option (Nat×Nat)) (i:Nat) (o:Oper) (H:List (Nat×List Ob)):Bool:=match x with
 | none=>chainB o H
 | some (j,p)=>if i=j then nO p H else chainB o H
def AFK:Op→Bool
 | .alloc _=>true
 | _=>false
def xu (ops:Array Oper):Option (Nat×Nat)→Bool
 | none=>true
 | some (j,p)=>match ops[j]? with
  | some o=>AFK o.op&&o.after.isEmpty&&o.guard.isNone&&o.dst.isSome&&decide (p<j)&&ops.toList.all fun o'=>!Bj o' j||Bj o' p
  | none=>false
def CallE (P:Program) (f:FuncId) (args:List AV) (K:List Res→Prop):Prop:=∃ rs,Ctr P f args rs∧K rs
def BorE (P:Program) (f:FuncId) (x:Option (List AV)) (K:List Res→Prop):Prop:=∃ args rs,x=some args∧rs.all Gn=true∧Ctr P f args rs∧K rs
def AFL (K:AV→List Ob→Prop) (st1:List Ob) (rs:List Res):Prop:=K (retA (Ir st1 rs).1) (Ir st1 rs).2
def InlE (P:Program) (f:FuncId) (st:List Ob) (args:List AV) (K:AV→List Ob→Prop):Prop:=∃ y st',InlS P f st args y st'∧K y st'
def ADT (P:Program) (f:FuncId) (K:AV→List Ob→Prop) (args:List AV) (st1:List Ob):Prop:=CallE P f args (AFL K st1)
def ADU (P:Program) (s:MS) (o:Op) (K:AV→List Ob→Prop):Prop:=match o with
 | .call c=>match c.callee with
  | .value (.func f)=>NM (uA (We s.st (c.args.toList.map (Ei s))) (ADT P f K)) (NM (BorE P f (TM s.st (c.args.toList.map (Ei s))) (AFL K s.st)) (InlE P f s.st (c.args.toList.map (Ei s)) K))
  | _=>TP (WC P s (.call c)) K
 | op=>TP (WC P s op) K
def AFM (P:Program) (o:Oper) (s:MS) (H:List (Nat×List Ob)) (pd:List PE) (i:Nat) (V:List (Nat×List Ob)→List PE→MS→Prop) (y:AV) (st':List Ob):Prop:=
 Wp P s.n o st' pd∧V ((i+1,st')::H) (UC o pd) (MS.put ⟨s.n,s.env,st'⟩ o.dst y)
def rdP (P:Program) (o:Oper) (s:MS) (H:List (Nat×List Ob)) (pd:List PE) (i:Nat) (V:List (Nat×List Ob)→List PE→MS→Prop) (r:AV):Prop:=
 Wn P s.n s.env o r H H∧V H (⟨i,o.op,s.env,r⟩::pd) (s.put o.dst r)
def ADV (P:Program) (x:Option (Nat×Nat)) (o:Oper) (s:MS) (H:List (Nat×List Ob)) (pd:List PE) (i:Nat) (V:List (Nat×List Ob)→List PE→MS→Prop) (e:Bool):Prop:=
 CondK e (CondK (Wq x i o H) (ADU P s o.op (AFM P o s H pd i V)) False) (DrK P s o.op (rdP P o s H pd i V))
def gE (P:Program) (x:Option (Nat×Nat)) (o:Oper) (s:MS) (H:List (Nat×List Ob)) (pd:List PE) (i:Nat) (V:List (Nat×List Ob)→List PE→MS→Prop) (b:Bool):Prop:=
 CondK b (ADV P x o s H pd i V (Xr o.op)) (V H pd (s.put o.dst .undef))
def vpE (P:Program) (x:Option (Nat×Nat)) (ops:Array Oper) (K:MS→Prop):List Oper→Nat→List (Nat×List Ob)→List PE→MS→Prop
 | [],_,_,_,s=>K s
 | o::rest,i,H,pd,s=>TQ (nU ops s.env o.guard) (gE P x o s H pd i (vpE P x ops K rest (i+1)))
def AJA (P:Program) (ops:Array Oper) (s:MS) (K:MS→Prop):Prop:=∀ (w0:Bs) (St0 St:Nat→Nat→Prop) (β:Nat→Option Nat) (a:Act) (w:World),Core w0 St0 St β s a w →
 wpAny P .any ops (fun e a' w'=>e = .normal∧∃ s',K s'∧s'.n=s.n∧Sim w0 St0 s' a' w') ops.size (Array.replicate ops.size false) a { w with drawn:=w.drawn+1 }
def ADW (P:Program) (ops:Array Oper) (s:MS) (K:MS→Prop):Prop:=(∃ ls st',Xq s.st ls=some st'∧vpD P ops K ops.toList ⟨s.n,s.env,st'⟩)∨(∃ x,xu ops x=true∧vpE P x ops K ops.toList 0 [(0,s.st)] [] s)∨AJA P ops s K
def DrawX (P:Program):Nat→Array Oper→MS→(MS→Prop)→Prop
 | 0,ops,s,K=>ADW P ops s K
 | d+1,ops,s,K=>ADW P ops s K∨∃ (l:List Oper) (e1 e2:Nat) (σ1 σ2 js:List Nat),ops=l.toArray∧e1≠e2∧TR s.n l σ1 e1 e2=true∧DrawX P d (IM σ1 e1 e2 l).toArray s K∧((dB l e1 js=true∧js.getLast?=some e2)∨(TR s.n l σ2 e2 e1=true∧DrawX P d (IM σ2 e2 e1 l).toArray s K))
def DrawK (P:Program) (ops:Array Oper) (s:MS) (K:MS→Prop):Prop:=∃ d,DrawX P d ops s K
def ABa (id:Nat) (Q:Ex→MS→Prop):Ex→MS→Prop
 | .normal,s=>Q .normal s
 | .exit i,s=>if i=id then Q .normal s else Q (.exit i) s
 | .ret,s=>Q .ret s
def ADX (K:MS→Prop) (Q:Ex→MS→Prop):Ex→MS→Prop
 | .normal,s=>K s
 | .exit i,s=>Q (.exit i) s
 | .ret,s=>Q .ret s
def AJB (V:MS→(Ex→MS→Prop)→Prop) (Q:Ex→MS→Prop):Ex→MS→Prop
 | .normal,s=>V s Q
 | .exit i,s=>Q (.exit i) s
 | .ret,s=>Q .ret s
def cndM (V W:MS→(Ex→MS→Prop)→Prop) (s:MS) (Q:Ex→MS→Prop) (b:Bool):Prop:=CondK b (V s Q) (W s Q)
theorem ABb {V W:MS→(Ex→MS→Prop)→Prop} {s:MS} {Q:Ex→MS→Prop}:cndM V W s Q true=V s Q:=KX
theorem xw {V W:MS→(Ex→MS→Prop)→Prop} {s:MS} {Q:Ex→MS→Prop}:cndM V W s Q false=W s Q:=LX
theorem cndM.mk {V W:MS→(Ex→MS→Prop)→Prop} {s:MS} {Q:Ex→MS→Prop} {b:Bool} (h1:b=true→V s Q) (h2:b=false→W s Q):cndM V W s Q b:=AER h1 h2
def AJC (V:MS→(Ex→MS→Prop)→Prop) (Q:Ex→MS→Prop) (s1:MS) (K:MS→Prop):Prop:=V s1 (ADX K Q)
def vp (P:Program):Code→MS→(Ex→MS→Prop)→Prop
 | .skip,s,Q=>Q .normal s
 | .region _ ops false,s,Q=>vpR P ops (Q .normal) s
 | .region _ ops true,s,Q=>DrawK P ops s (Q .normal)
 | .seq x y,s,Q=>vp P x s (AJB (vp P y) Q)
 | .cond c x y,s,Q=>AAE (Ei s c) (cndM (vp P x) (vp P y) s Q)
 | .block id x,s,Q=>vp P x s (ABa id Q)
 | .loop x,s,Q=>LoopK s (AJC (vp P x) Q)
 | .exit id,s,Q=>Q (.exit id) s
 | .scope x,s,Q=>vp P x s Q
 | .ret,s,Q=>Q .ret s
 | _,_,_=>False
def AGL (ops:Array Oper):Bool:=ops.toList.all fun o=>o.op.operands.toList.all Ak
def codeOk (n:Nat):Code→Bool
 | .region _ ops false=>AGL ops
 | .region _ ops true=>AGL ops&&FV n ops
 | .seq x y=>codeOk n x&&codeOk n y
 | .cond c x y=>Ak c&&codeOk n x&&codeOk n y
 | .block _ x=>codeOk n x
 | .loop x=>codeOk n x
 | .scope x=>codeOk n x
 | _=>true
def Ex.of:Ex→Exit
 | .normal=>.normal
 | .exit i=>.exit i
 | .ret=>.ret
def AJD (w0:Bs) (St0:Nat→Nat→Prop) (n:Nat) (Q:Ex→MS→Prop):Exit→Act→World→Prop:=fun e a w=>∃ x s,e=Ex.of x∧Q x s∧s.n=n∧Sim w0 St0 s a w
theorem Xt (s:MS) (d:Option Nat) (v:AV):(s.put d v).n=s.n:=by
 cases d with
 | none=>rfl
 | some d=>simp only[MS.put]; split<;>rfl
theorem step_ok (h:Core w0 St0 St β s a w) (o:Oper) (hc:o.op.operands.toList.all Ak=true) {K:MS→Prop} (hk:Qn P o.op o.dst s K) (Q:Exit→Act→World→Prop) :
  o.wp P a w (fun a' w'=>∃ s',K s'∧s'.n=s.n∧Sim w0 St0 s' a' w') Q:=by
 have hD:∀ {y:AV} {st':List Ob},WC P s o.op=some (y,st')→K (MS.put ⟨s.n,s.env,st'⟩ o.dst y)→o.wp P a w (fun a' w'=>∃ s',K s'∧s'.n=s.n∧Sim w0 St0 s' a' w') Q:=fun {y st'} he hK=>by
  obtain⟨nx,v,w',St',β',h1,h2,h3,h4⟩:=yF h o hc he
  unfold Oper.wp
  rw[h1]
  rcases h2 with rfl | ⟨rfl,rfl⟩
  ·exact⟨_,hK,Xt _ _ _,St',β',h3.put o.dst h4⟩
  ·exact⟨_,hK,Xt _ _ _,St',β',h3.put o.dst h4⟩
 have hF:∀ op,o.op=op→(∀ c,op≠ .call c)→Qn P op o.dst s K→o.wp P a w (fun a' w'=>∃ s',K s'∧s'.n=s.n∧Sim w0 St0 s' a' w') Q:=fun op hop hnc hs=>by
  have hs':TP (WC P s op) (ADQ s o.dst K):=by
   cases op with
   | call c=>exact absurd rfl (hnc c)
   | _=>exact hs
  unfold TP at hs'
  split at hs'
  ·rename_i y st' he
   exact hD AOT hs'
  grind
 cases hop:o.op with
 | call c =>
  rw[hop] at hk
  simp only[Qn,NM,uA,TP,xq,ADQ] at hk
  split at hk
  ·rename_i f hcl
   have hca:c.args.toList.all Ak=true:=by
    rw[hop] at hc
    exact ALN
   rcases hk with hk | hk | hk | ⟨hin,hk⟩
   rotate_right
   ·have hcall:=hk w0 St0 St β a w _ h (Jr h c.args.toList hca)
    have ea:(c.args.toList.map a.eval).toArray=c.args.map a.eval:=API
    rw[ea] at hcall
    unfold Oper.wp
    rw[NS o c f hop hcl hin]
    simp only[Oper.upon]
    refine hcall.mono fun e w' hb=>?_
    obtain⟨u,rfl,s',x,e1,hK,St',β',h1,h2⟩:=hb
    exact⟨_,hK,(Xt _ _ _).trans e1,St',β',h1.put o.dst h2⟩
   rotate_left
   ·obtain⟨args,rs,hf,hclo,hspec,hK⟩:=hk
    obtain⟨φ,hφ⟩:=h.own
    have hargs:=Zv h hφ hf (Jr h c.args.toList hca)
    unfold Oper.wp
    rw[NS o c f hop hcl hspec.1]
    simp only[Oper.upon]
    have hcall:=hspec.2 w _ (c.args.toList.map a.eval) (fun b o hb=>AllSt.lt h hφ hb) hargs
    have ea:(c.args.toList.map a.eval).toArray=c.args.map a.eval:=API
    rw[ea] at hcall
    refine hcall.mono fun e w' hb=>?_
    obtain⟨us,bs,St2,hb⟩:=hb
    have hb:=hb.clo hclo h.stIn
    obtain⟨β',k1,k2⟩:=Qw h hb
    have hwf:YS rs:=by
     obtain⟨Φs,hr,_⟩:=hb.res
     exact hr.wf
    have e1:=hb.ret
    subst e1
    exact⟨_,hK hwf,Xt _ _ _,St,β',k1.put o.dst (Ky k2)⟩
   ·obtain⟨rest,g,zs,cl,Q',hargs,hg,ho,hv1,hspec,hK⟩:=hk
    obtain⟨φ,hφ⟩:=h.own
    have he:=Jr h c.args.toList hca
    rw[hargs] at he
    simp only[AVRs] at he
    obtain⟨u,vs,hvals,hu,hvs⟩:=he
    have hus:∃ us:List Value,u=mkV g us∧us.length=zs.length∧∀ (k:Nat) (c:Cl),zs[k]?=some c→∃ y,us[k]?=some y∧RdC w St s.st β c y:=by
     cases g with
     | true =>
      simp only[mkA,bf,AVR] at hu
      obtain⟨us,e1,e2,e3⟩:=hu
      exact⟨us,by simp only[mkV,bf]; exact e1,e2,e3⟩
     | false =>
      have hz1:zs.length=1:=by simpa using hg
      match zs,hz1 with
      | [z],_ =>
       simp only[mkA,aB,aX,AVR,List.headD_cons] at hu
       refine⟨[u],by simp[mkV],rfl,fun k c hk=>?_⟩
       grind
    obtain⟨us,rfl,hul,hur⟩:=hus
    have hrd:=AAG h hφ ho hul hur
    have hGf:∀ (k x:Nat),(∃ l,zs[k]?=some (Cl.ref l)∧Fp s.st β φ l x)→x<w.heap.size∧∀ o,¬ St x o:=fun k x ⟨l,q1,q2⟩=>by
     obtain⟨_,ob,p1,p2,_⟩:=N9 zs cl [] _ ho k l q1
     obtain⟨r1,r2,r3⟩:=VG h hφ q2 fun ob' hob'=>by
      grind [Bo]
     grind
    have hcall:=hspec.2.2 w St us _ vs h.stIn hGf hrd (sZ hv1 hvs)
    have ea:(mkV g us::vs).toArray=c.args.map a.eval:=by rw[← hvals]; apply abl; simp
    rw[ea] at hcall
    unfold Oper.wp
    rw[NS o c f hop hcl hspec.1]
    simp only[Oper.upon]
    refine hcall.mono fun e w' hb=>?_
    obtain⟨cl',rs,rv,G',b0,b1,b2,b3,b3s,b7,b8,b9⟩:=hb
    obtain⟨⟨hv2,hsh⟩,hK⟩:=hK cl' rs b0
    subst b1
    have hcore:=ADo h hφ ho hur (fun k x hx=>hx) hsh b2 b3 b3s (fun _ _ h=>h) (fun _ _ h _=>h) (fun b o hb=>cO (h.stIn b o hb) b2.size) b8 (fun k x hx=>by
     rcases b9 k x hx with h9 | ⟨h9,h10⟩
     ·exact .inl h9
     ·exact .inr ⟨h9,h10,fun o ho=>by have:=h.stIn x o ho; omega⟩)
    refine⟨_,hK,Xt _ _ _,St,β,hcore.put o.dst (Ky ?_)⟩
    have key:∀ (xs:List AV) (us:List Value),RdAs w' St xs us→AVRs w' St (JH s.st zs cl') β xs us:=by
     intro xs
     induction xs with
     | nil=>intro us h; simp only[AVRs]; exact h
     | cons x xs ih =>
      intro us h
      obtain⟨y,ys,h1,h2,h3⟩:=h
      simp only[AVRs]
      exact⟨y,ys,h1,h2.toAVR,ih ys h3⟩
    exact key _ _ b7
   split at hk
   ·rename_i args st1 hf
    obtain⟨rs,hspec,hK⟩:=hk
    obtain⟨St1,q1,q2,q3⟩:=VB _ _ _ _ St h hf
    have hargs:=q3 _ (Jr h c.args.toList hca)
    unfold Oper.wp
    rw[NS o c f hop hcl hspec.1]
    simp only[Oper.upon]
    have hcall:=hspec.2 w St1 (c.args.toList.map a.eval) q1.stIn hargs
    have ea:(c.args.toList.map a.eval).toArray=c.args.map a.eval:=API
    exact ALH
   grind
  ·rename_i t hcl
   have hca:c.args.toList.all Ak=true:=by
    rw[hop] at hc
    exact ALN
   unfold AI_ at hk
   split at hk
   ·rename_i f xs args st1 hev hf
    obtain⟨rs,hspec,hK⟩:=hk
    obtain⟨St1,q1,q2,q3⟩:=VB _ _ _ _ St h hf
    have hargs:=q3 _ (Jr h c.args.toList hca)
    have he:AVR w St s.st β (unpin (Bi s.env t)) (a.eval (.tmp t)):=CO h (.tmp t) (aJ.1 hc _ (by rw[hop]; simp[Op.operands,Call.operands,hcl]))
    rw[hev] at he
    simp only[AVR] at he
    obtain⟨us0,hu0,hul,hur⟩:=he
    have hcap:RdAs w St1 (xs.map AV.ip) us0:=Wh hul fun k c hk=>by
     grind [RdL.mono]
    unfold Oper.wp
    rw[AAD o c f (.tmp t) us0.toArray hop hcl hu0 hspec.1]
    simp only[Oper.upon]
    have hcall:=hspec.2 w St1 (c.args.toList.map a.eval++us0) q1.stIn (Zr hargs hcap)
    have ea:(c.args.toList.map a.eval++us0).toArray=c.args.map a.eval++us0.toArray:=API
    exact ALH
   grind
  grind
 | _=>grind
theorem xx (ops:Array Oper) (Q:Exit→Act→World→Prop) (K:MS→Prop) (n:Nat):∀ (l:List Oper) (k:Nat),(∀ j,l[j]?=ops[k+j]?)→(l.all fun o=>o.op.operands.toList.all Ak)=true →
  ∀ (s:MS) (a:Act) (w:World),s.n=n→Sim w0 St0 s a w→vpO P ops K l s→(∀ s' a' w',K s'→s'.n=n→Sim w0 St0 s' a' w'→Q .normal a' w')→wpList P ops Q l a w
 | [],_,_,_,s,a,w,hn,hs,hv,hQ=>hQ s a w hv hn hs
 | o::l,k,hl,hc,s,a,w,hn,hs,hv,hQ=>by
  obtain⟨St,β,h⟩:=hs
  simp only[bi,ay] at hc
  simp only[vpO,TQ,gO] at hv
  split at hv
  ·rename_i b hb
   have hw:=nV h hb
   have hl':∀ j,l[j]?=ops[k+1+j]?:=fun j=>by
    have:=hl (j+1)
    grind
   unfold wpList
   rw[hw]
   cases b with
   | true =>
    simp only[bf]
    left
    exact Oper.wp_mono (fun a' w' ⟨s',hK,hn',hs'⟩=>xx ops Q K n l (k+1) hl' hc.2 s' a' w' (hn'.trans hn) hs' hK hQ) (step_ok h o hc.1 (hv.1 rfl) Q)
   | false =>
    simp only[aB,aX]
    exact xx ops Q K n l (k+1) hl' hc.2 _ _ _ ((Xt _ _ _).trans hn) ⟨St,β,h.put o.dst (by simp only[AVR])⟩ (hv.2 rfl) hQ
  grind
theorem Zy:∀ (ls:List Nat) (st st':List Ob) (St:Nat→Nat→Prop),Core w0 St0 St β ⟨s.n,s.env,st⟩ a w→Xq st ls=some st'→∃ St',Core w0 St0 St' β ⟨s.n,s.env,st'⟩ a w
 | [],st,st',St,h,hf=>by simp only[Xq,ak] at hf; grind
 | l::ls,st,st',St,h,hf=>by
  simp only[Xq] at hf
  split at hf
  ·rename_i ob hob
   split at hf
   ·rename_i hp
    obtain⟨St1,q1,_⟩:=h.freeze l hob hp
    exact Zy ls _ st' St1 q1 hf
   ·cases hf
  ·cases hf
theorem ADY (keys:List Nat) (env:List (Nat×AV)) (i:Nat):Bi (keys.map fun k=>(k,Bi env k)) i=if i∈keys then Bi env i else .un:=by
 induction keys with
 | nil=>simp[Bi]
 | cons k keys ih =>
  simp only[YR,Bi,ih,SK]
  grind
theorem ABc {st:List Ob} {N l:Nat} {u:Value} (hl:l<N) (h:BM w st β l u):BM w (st.take N) β l u:=by
 unfold BM at h ⊢
 grind
theorem Qp {st:List Ob} {N:Nat} {c:Cl} {u:Value} (hc:I7 N c=true) (h:RdC w St st β c u):RdC w St (st.take N) β c u:=by
 cases c with
 | ref l=>exact ABc (by simpa [I7] using hc) h
 | ow ty sz xs=>simp[RdC,RdD] at h
 | v x=>exact h
 | sl xs=>exact h
mutual
theorem Qq {st:List Ob} {N:Nat}:∀ (x:AV) (u:Value),I8 N x=true→AVR w St st β x u→AVR w St (st.take N) β x u
 | .c x,u,hc,h=>by simp only[AVR] at h ⊢; exact Qp APp h
 | .agg xs,u,hc,h=>by
  simp only[AVR] at h ⊢
  simp only[I8] at hc
  grind [Qp,aJ,bC]
 | .lp l i off,u,hc,h=>by
  simp only[AVR] at h ⊢
  have hl:l<N:=APp
  grind
 | .ip xs,u,_,h=>APU
 | .tup xs,u,hc,h=>by
  simp only[AVR] at h ⊢
  obtain⟨us,h1,h2⟩:=h
  exact⟨us,h1,jf xs us APp h2⟩
 | .undef,u,_,h=>APU
 | .un,u,_,h=>by simp only[AVR]
 | .pin x u0,u,hc,h=>by
  simp only[AVR] at h ⊢
  exact⟨h.1,Qq x u APp h.2⟩
 | .clo f xs,u,_,h=>APU
 | .vw x i n m,u,hc,h=>by
  simp only[AVR] at h ⊢
  obtain⟨b,len,cap,cap',h1,h2,h3,h4⟩:=h
  exact⟨b,len,cap,cap',h1,h2,h3,Qq x _ APp h4⟩
theorem jf {st:List Ob} {N:Nat}:∀ (xs:List AV) (us:List Value),SQ N xs=true→AVRs w St st β xs us→AVRs w St (st.take N) β xs us
 | [],us,_,h=>APQ
 | x::xs,us,hc,h=>by
  simp only[AVRs] at h ⊢
  simp only[SQ,ay] at hc
  obtain⟨y,ys,h1,h2,h3⟩:=h
  exact⟨y,ys,h1,Qq x y hc.1 h2,jf xs ys hc.2 h3⟩
end
theorem tK {st:List Ob} {N:Nat} {c:Cl} {u:Value} (hc:I7 N c=true) (h:RdB w St st β c u):RdB w St (st.take N) β c u:=by
 cases c with
 | ow ty sz xs=>exact h
 | v y=>exact Qp (w:=w) (St:=St) (st:=st) (β:=β) (c:=.v y) hc h
 | sl y=>exact Qp (w:=w) (St:=St) (st:=st) (β:=β) (c:=.sl y) hc h
 | ref y=>exact Qp (w:=w) (St:=St) (st:=st) (β:=β) (c:=.ref y) hc h
theorem Core.trim (h:Core w0 St0 St β s a w) {N:Nat} {keys:List Nat} (ht:Pe N keys s):Core w0 St0 St β (trim N keys s) a w:=by
 obtain⟨t1,t2⟩:=ht
 have hg:∀ l ob,(s.st.take N)[l]?=some ob→s.st[l]?=some ob:=fun l ob hl=>by
  rw[aaB] at hl
  split at hl
  ·exact hl
  ·cases hl
 exact {
  defers:=h.defers
  size:=h.size
  lim:=h.lim
  env:=fun i=>by
   simp only[Go.Vm.trim,ADY]
   split
   ·rename_i hi
    exact Qq _ _ (aJ.1 t1 i hi) (h.env i)
   ·simp only[AVR]
  below:=h.below,st0:=h.st0,stOld:=h.stOld,stIn:=h.stIn
  obs:=fun l ob b hl hlive hβ=>by
   exact AKg
  nil:=fun l ob hl=>h.nil l ob (hg l ob hl)
  inj:=fun l l' ob ob' b h1 h2=>h.inj l l' ob ob' b (hg l ob h1) (hg l' ob' h2)
  sep:=fun l ob b o hl=>h.sep l ob b o (hg l ob hl)
  own:=h.own.move id (fun x hx=>⟨⟨hx.1,hx.2.1,hx.2.2.1,hx.2.2.2.1,fun l ob hl=>hx.2.2.2.2 l ob (hg l ob hl)⟩,rfl⟩) (fun _ _ h=>h) (fun _ _ _=>rfl)
   (fun l ob b k c h1 h2 h3 h4 _=>⟨ob,b,hg l ob h1,h2,h3,h4,rfl⟩) (fun _ _ _ _ _ _ _ _ e=>e) }
theorem ABd (g:Nat→AV) (keys:List Nat) (i:Nat):Bi (keys.map fun k=>(k,g k)) i=if i∈keys then g i else .un:=by
 induction keys with
 | nil=>simp[Bi]
 | cons k ks ih =>
  simp only[YR,Bi,ih]
  grind
theorem zt {sel:List (Nat×Bool)} {l:Nat} (h:iR sel l=true):∃ r,sel[Eu sel l]?=some (l,r):=by
 induction sel with
 | nil=>simp[iR] at h
 | cons x xs ih =>
  simp only[Eu]
  by_cases e:x.1=l
  ·grind
  ·simp only[iR,e,abI,bZ] at h
   grind
theorem AFN {sel:List (Nat×Bool)} {i:Nat} {e:Nat×Bool} (h:sel[i]?=some e):iR sel e.1=true:=by
 induction sel generalizing i with
 | nil=>simp at h
 | cons x xs ih =>
  simp only[iR,r_,aZ]
  grind
theorem zu {sel:List (Nat×Bool)} (h:AFJ sel=true):∀ {i j:Nat} {e e':Nat×Bool},sel[i]?=some e→sel[j]?=some e'→e.1=e'.1→i=j:=by
 induction sel with
 | nil=>grind
 | cons x xs ih =>
  simp only[AFJ,ay,aaV] at h
  grind [aV,ak,AFN]
theorem VM (sel:List (Nat×Bool)) (st:List Ob):∀ (l:List (Nat×Bool)) (i:Nat),(Ou sel st l)[i]?=(l[i]?).map fun e=>match st[e.1]? with | some ob=>J7 sel e.2 ob | none=>default
 | [],i=>by simp[Ou]
 | e::r,0=>by simp[Ou]
 | e::r,i+1=>by simp only[Ou,aaW]; exact VM sel st r i
theorem VN {sel:List (Nat×Bool)} {st:List Ob}:∀ {l:List (Nat×Bool)},VL sel st l→∀ {i:Nat} {e:Nat×Bool},l[i]?=some e→∃ ob,st[e.1]?=some ob∧(if e.2=true then(ob.xs.all fun x=>x.all (zq sel)) else Gq ob.xs)=true
 | [],_,i,e,h=>AOx
 | x::r,ho,i,e,h=>by
  simp only[VL] at ho
  cases i with
  | zero =>
   grind
  | succ i=>exact VN ho.2 AOz
section
variable {sel:List (Nat×Bool)} {st:List Ob}
def VO (sel:List (Nat×Bool)) (β:Nat→Option Nat) (i:Nat):Option Nat:=match sel[i]? with | some e=>β e.1 | none=>none
theorem AFO (ho:VL sel st sel) {l:Nat} {u:Value} (hl:iR sel l=true) (h:BM w st β l u):BM w (Ou sel st sel) (VO sel β) (Eu sel l) u:=by
 obtain⟨r,hr⟩:=zt hl
 obtain⟨ob,hob,_⟩:=VN ho hr
 simp only at hob
 unfold BM at h ⊢
 rw[VM,hr]
 simp only[bY,hob,VO,hr] at h ⊢
 have e1:(J7 sel r ob).live=ob.live:=APe
 have e2:(J7 sel r ob).xs.length=ob.xs.length:=by unfold J7; split<;>simp
 have e3:(J7 sel r ob).ty=ob.ty:=APe
 have e4:(J7 sel r ob).sz=ob.sz:=APe
 grind
theorem tN (ho:VL sel st sel) {c:Cl} {u:Value} (hc:zq sel c=true) (h:RdC w St st β c u):RdC w St (Ou sel st sel) (VO sel β) (QP sel c) u:=by
 cases c with
 | ref l=>exact AFO ho hc h
 | v x=>exact h
 | sl xs=>exact h
 | ow ty sz xs=>simp[RdC,RdD] at h
theorem AJE (ho:VL sel st sel) {c:Cl} {u:Value} (hc:zq sel c=true) (h:RdB w St st β c u):RdB w St (Ou sel st sel) (VO sel β) (QP sel c) u:=by
 cases c with
 | ow ty sz xs=>exact h
 | v y=>exact tN (w:=w) (St:=St) (β:=β) (c:=.v y) ho hc h
 | sl y=>exact tN (w:=w) (St:=St) (β:=β) (c:=.sl y) ho hc h
 | ref y=>exact tN (w:=w) (St:=St) (β:=β) (c:=.ref y) ho hc h
theorem AFP {c:Cl}:Gm (QP sel c)=Gm c:=by cases c<;>rfl
theorem AHH {c:Cl} (h:Gm c=true):QP sel c=c:=by cases c<;>simp_all [Gm,QP]
mutual
theorem zx (ho:VL sel st sel):∀ (x:AV) (u:Value),inA sel x=true→AVR w St st β x u→AVR w St (Ou sel st sel) (VO sel β) (tJ sel x) u
 | .c x,u,hc,h=>by simp only[AVR,tJ] at h ⊢; exact tN ho APm h
 | .agg xs,u,hc,h=>by
  simp only[AVR,tJ] at h ⊢
  simp only[inA] at hc
  grind [zf,tN,aJ,bC]
 | .lp l i off,u,hc,h=>by
  simp only[AVR,tJ] at h ⊢
  obtain⟨r,hr⟩:=zt (sel:=sel) (l:=l) APm
  obtain⟨ob,hob,_⟩:=VN ho hr
  simp only at hob
  rw[VM,hr]
  simp only[bY,hob,VO,hr] at h ⊢
  have e1:(J7 sel r ob).live=ob.live:=APe
  have e4:(J7 sel r ob).sz=ob.sz:=APe
  grind
 | .ip xs,u,_,h=>APo
 | .tup xs,u,hc,h=>by
  simp only[AVR,tJ] at h ⊢
  obtain⟨us,h1,h2⟩:=h
  exact⟨us,h1,xy ho xs us APm h2⟩
 | .undef,u,_,h=>APo
 | .un,u,_,h=>by simp only[AVR,tJ]
 | .pin x u0,u,hc,h=>by
  simp only[AVR,tJ] at h ⊢
  exact⟨h.1,zx ho x u APm h.2⟩
 | .clo f xs,u,_,h=>APo
 | .vw x i n m,u,hc,h=>by
  simp only[AVR,tJ] at h ⊢
  obtain⟨b,len,cap,cap',h1,h2,h3,h4⟩:=h
  exact⟨b,len,cap,cap',h1,h2,h3,zx ho x _ APm h4⟩
theorem xy (ho:VL sel st sel):∀ (xs:List AV) (us:List Value),ADS sel xs=true→AVRs w St st β xs us→AVRs w St (Ou sel st sel) (VO sel β) (ABY sel xs) us
 | [],us,_,h=>by simp only[AVRs,ABY] at h ⊢; exact h
 | x::xs,us,hc,h=>by
  simp only[AVRs,ABY] at h ⊢
  simp only[ADS,ay] at hc
  obtain⟨y,ys,h1,h2,h3⟩:=h
  exact⟨y,ys,h1,zx ho x y hc.1 h2,xy ho xs ys hc.2 h3⟩
end
end
theorem Core.rel (h:Core w0 St0 St β s a w) {sel:List (Nat×Bool)} {keys:List Nat} (ht:Qo sel keys s):Core w0 St0 St (VO sel β) (rel sel keys s) a w:=by
 obtain⟨t0,t1,t2⟩:=ht
 have hg:∀ (i:Nat) (ob:Ob),(Ou sel s.st sel)[i]?=some ob→∃ (e:Nat×Bool) (ob0:Ob),sel[i]?=some e∧s.st[e.1]?=some ob0∧ob=J7 sel e.2 ob0∧(if e.2=true then(ob0.xs.all fun x=>x.all (zq sel)) else Gq ob0.xs)=true:=by
  intro i ob hi
  rw[VM] at hi
  obtain⟨e,he,h2⟩:=zf.1 hi
  obtain⟨ob0,hob,hp⟩:=VN t2 he
  simp only[hob] at h2
  exact⟨e,ob0,he,hob,h2.symm,hp⟩
 have elive:∀ r ob,(J7 sel r ob).live=ob.live:=APL
 have esz:∀ r ob,(J7 sel r ob).sz=ob.sz:=APL
 have ety:∀ r ob,(J7 sel r ob).ty=ob.ty:=APL
 have ewr:∀ r ob,(J7 sel r ob).wr=ob.wr:=APL
 have elen:∀ r ob,(J7 sel r ob).xs.length=ob.xs.length:=by intro r ob; unfold J7; split<;>simp
 have eβ:∀ {i:Nat} {e:Nat×Bool},sel[i]?=some e→VO sel β i=β e.1:=by intro i e he; simp only[VO,he]
 exact {
  defers:=h.defers
  size:=h.size
  lim:=h.lim
  env:=fun i=>by
   simp only[Go.Vm.rel,ABd]
   split
   ·rename_i hi
    exact zx t2 _ _ (aJ.1 t1 i hi) (h.env i)
   ·simp only[AVR]
  below:=h.below,st0:=h.st0,stOld:=h.stOld,stIn:=h.stIn
  obs:=fun i ob b hi hlive hβ=>by
   obtain⟨e,ob0,he,hob,rfl,hp⟩:=hg i ob hi
   rw[eβ he] at hβ
   rw[elive] at hlive
   obtain⟨q1,q2,cs,g1,g2,g3⟩:=h.obs e.1 ob0 b hob hlive hβ
   refine⟨q1,q2,cs,AOT, ?_, ?_⟩
   ·rw[esz]
    intro x hx
    unfold J7 at hx
    grind
   ·intro k c hk
    unfold J7 at hk
    split at hk
    ·rename_i hr
     simp only[hr,bf] at hp
     rw[← List.map_flatten,mW] at hk
     obtain⟨c0,hc0,rfl⟩:=zf.1 hk
     obtain⟨u,hu,hc⟩:=g3 k c0 hc0
     obtain⟨x,hx,hcx⟩:=aa2.1 (bC hc0)
     exact⟨u,hu,AJE t2 (aJ.1 (aJ.1 hp x hx) c0 hcx) hc⟩
    ·rename_i hr
     simp only[hr,aX] at hp
     obtain⟨u,hu,hc⟩:=g3 k c hk
     obtain⟨x,hx,hcx⟩:=aa2.1 (bC hk)
     have:=aJ.1 (aJ.1 hp x hx) c hcx
     refine⟨u,hu, ?_⟩
     cases c with
     | ref l=>simp[AB] at this
     | v x=>exact hc
     | sl xs=>exact hc
     | ow ty sz xs=>exact hc
  nil:=fun i ob hi hlive hβ=>by
   obtain⟨e,ob0,he,hob,rfl,hp⟩:=hg i ob hi
   rw[eβ he] at hβ
   rw[elive] at hlive
   have:=h.nil e.1 ob0 hob hlive hβ
   grind
  inj:=fun i j o1 o2 b h1 h2 h3 h4 h5 h6=>by
   obtain⟨e,ob0,he,hob,rfl,_⟩:=hg i o1 h1
   obtain⟨e',ob0',he',hob',rfl,_⟩:=hg j o2 h2
   rw[eβ he] at h5
   rw[eβ he'] at h6
   rw[elive] at h3 h4
   exact zu t0 he he' (h.inj _ _ _ _ b hob hob' h3 h4 h5 h6)
  sep:=fun i ob b o hi hlive hβ hbo=>by
   obtain⟨e,ob0,he,hob,rfl,_⟩:=hg i ob hi
   rw[eβ he] at hβ
   rw[elive] at hlive
   rw[ewr,elen,esz]
   exact h.sep e.1 ob0 b o hob hlive hβ hbo
  own:=by
   refine h.own.move (fun i=>((sel[i]?).getD (0,false)).1) (fun x hx=>⟨⟨hx.1,hx.2.1,hx.2.2.1,hx.2.2.2.1,fun i ob hi hlv=>?_⟩,rfl⟩) (fun _ _ h=>h) (fun _ _ _=>rfl) (fun i ob b k c hi hlive hβ hk hc=>?_) (fun i j o1 o2 h1 h2 _ _ e=>?_)
   ·obtain⟨e,ob0,he,hob,rfl,hp⟩:=hg i ob hi
    rw[eβ he]
    rw[elive] at hlv
    exact hx.2.2.2.2 e.1 ob0 hob hlv
   ·obtain⟨e,ob0,he,hob,rfl,hp⟩:=hg i ob hi
    rw[eβ he] at hβ
    rw[elive] at hlive
    refine⟨ob0,b,AOT,hlive,AOT, ?_,rfl⟩
    unfold J7 at hk
    grind [zf,AFP,AHH]
   ·obtain⟨e1,ob1,he1,_⟩:=hg i o1 h1
    obtain⟨e2,ob2,he2,_⟩:=hg j o2 h2
    grind [zu] }
theorem AAm {l:List Oper} {s:MS} {K:MS→Prop} (h:vpD P l.toArray K l s):DrawK P l.toArray s K:=⟨0,.inl ⟨[],s.st,rfl,h⟩⟩
theorem ABH {l:List Oper} {s:MS} {K:MS→Prop} (h:vpE P none l.toArray K l 0 [(0,s.st)] [] s):DrawK P l.toArray s K:=⟨0,.inr (.inl ⟨none,rfl,h⟩)⟩
theorem AES {ops:Array Oper} {s:MS} {K:MS→Prop} (h:AJA P ops s K):DrawK P ops s K:=⟨0,.inr (.inr h)⟩
theorem ACU {l:List Oper} {s:MS} {K:MS→Prop} (j p:Nat) (hf:xu l.toArray (some (j,p))=true) (h:vpE P (some (j,p)) l.toArray K l 0 [(0,s.st)] [] s):DrawK P l.toArray s K:=⟨0,.inr (.inl ⟨_,hf,h⟩)⟩
theorem DrawX.up:∀ {d:Nat} {ops:Array Oper} {s:MS} {K:MS→Prop},DrawX P d ops s K→DrawX P (d+1) ops s K
 | 0,_,_,_,h=>.inl h
 | _+1,_,_,_,.inl h=>.inl h
 | _+1,_,_,_,.inr ⟨l,e1,e2,σ1,σ2,js,e,hne,h1,k1,.inl hp⟩=>.inr ⟨l,e1,e2,σ1,σ2,js,e,hne,h1,DrawX.up k1,.inl hp⟩
 | _+1,_,_,_,.inr ⟨l,e1,e2,σ1,σ2,js,e,hne,h1,k1,.inr ⟨h2,k2⟩⟩=>.inr ⟨l,e1,e2,σ1,σ2,js,e,hne,h1,DrawX.up k1,.inr ⟨h2,DrawX.up k2⟩⟩
theorem DrawX.le {d:Nat} {ops:Array Oper} {s:MS} {K:MS→Prop} (h:DrawX P d ops s K):∀ k,DrawX P (d+k) ops s K
 | 0=>h
 | k+1=>(DrawX.le h k).up
theorem ACQ {l:List Oper} {s:MS} {K:MS→Prop} (e1 e2:Nat) (σ1 σ2:List Nat) (hne:Nat.beq e1 e2=false) (h1:TR s.n l σ1 e1 e2=true) (h2:TR s.n l σ2 e2 e1=true)
  (k1:DrawK P (IM σ1 e1 e2 l).toArray s K) (k2:DrawK P (IM σ2 e2 e1 l).toArray s K):DrawK P l.toArray s K:=by
 obtain⟨d1,k1⟩:=k1
 obtain⟨d2,k2⟩:=k2
 have k2':=DrawX.le k2 d1
 rw[Nat.add_comm] at k2'
 exact⟨d1+d2+1,.inr ⟨l,e1,e2,σ1,σ2,[],rfl,abt hne,h1,k1.le d2,.inr ⟨h2,k2'⟩⟩⟩
theorem AEN {l:List Oper} {s:MS} {K:MS→Prop} (e1 e2:Nat) (σ js:List Nat) (hne:Nat.beq e1 e2=false) (hp:dB l e1 js=true) (hl:js.getLast?=some e2) (h1:TR s.n l σ e1 e2=true)
  (k1:DrawK P (IM σ e1 e2 l).toArray s K):DrawK P l.toArray s K:=by
 obtain⟨d1,k1⟩:=k1
 exact⟨d1+1,.inr ⟨l,e1,e2,σ,σ,js,rfl,abt hne,h1,k1,.inl ⟨hp,hl⟩⟩⟩
theorem Zz (h:Core w0 St0 St β s a w) (o:Oper) (hc:o.op.operands.toList.all Ak=true) {y:AV} {st':List Ob} (he:FH P s o.op y st') (Q:Exit→Act→World→Prop) :
  o.wp P a w (fun a' w'=>Sim w0 St0 (MS.put ⟨s.n,s.env,st'⟩ o.dst y) a' w') Q:=by
 have key:Qn P o.op o.dst s (fun s'=>s'=MS.put ⟨s.n,s.env,st'⟩ o.dst y):=by
  cases hop:o.op with
  | call c =>
   rw[hop] at he
   simp only[FH] at he
   split at he
   ·rename_i f hcl
    simp only[Qn,hcl]
    rcases he with ⟨args,rs,st1,h1,h2,rfl,rfl⟩ | ⟨args,rs,h1,h2,h3,rfl,rfl⟩ | ⟨hin,hs⟩
    ·refine .inl ?_
     rw[h1]
     exact⟨rs,h2,fun _=>rfl⟩
    ·exact .inr (.inl ⟨args,rs,h1,h2,h3,fun _=>rfl⟩)
    ·exact .inr (.inr (.inr ⟨hin,fun w0 St0 St β a w us h1 h2=>(hs w0 St0 St β s a w us rfl h1 h2).mono fun e w' ⟨u,e1,St',β',q1,q2⟩=>⟨u,e1,⟨s.n,s.env,st'⟩,y,rfl,rfl,St',β',q1,q2⟩⟩))
   ·rename_i hne
    simp only[Qn]
    split
    ·rename_i f hcl; exact absurd hcl (hne f)
    ·rename_i t hcl
     simp[WC,hcl,Io,same] at he
    ·rw[he]; rfl
  | _ =>
   rw[hop] at he
   simp only[FH] at he
   simp only[Qn]
   rw[he]; rfl
 grind [Oper.wp_mono,step_ok]
theorem TN {s s':MS} (hst:s'.st=s.st) (o:Op) (heff:Xr o=true) (h:∀ t,.tmp t∈o.operands.toList→Bi s'.env t=Bi s.env t) {y:AV} {st':List Ob} (hr:FH P s o y st'):FH P s' o y st':=by
 have he:∀ x,x∈o.operands.toList→Ei s' x=Ei s x:=fun x hx=>jm fun t ht=>h t AOT
 cases o with
 | call c =>
  have hargs:∀ x∈c.args.toList,Ei s' x=Ei s x:=fun x hx=>he x (by
   simp only[Op.operands,Call.operands,aaL,aa1]
   exact .inr hx)
  have hmap:c.args.toList.map (Ei s')=c.args.toList.map (Ei s):=aaK hargs
  simp only[FH] at hr ⊢
  split at hr
  ·grind
  ·rename_i hne
   simp only[Xr] at heff
   split at heff
   ·grind
   ·rename_i hcl
    simp only[WC,hcl] at hr ⊢
    split at hr
    ·rename_i x y2 T T' hca hct
     rw[hargs x AOT,hargs y2 AOT]
     have ea:∀ T X Y,xk P s' T X Y=xk P s T X Y:=fun T X Y=>by simp only[xk,ADO,ADN,ADM,xh,hst]
     have es:∀ T T' X Y,xm P s' T T' X Y=xm P s T T' X Y:=fun T T' X Y=>by simp only[xm,ADP,hst]
     grind
    ·cases hr
   ·cases heff
 | alloc T=>simp only[FH,WC,PZ,hst] at hr ⊢; exact hr
 | box T x=>simp only[FH,WC,AC9,hst] at hr ⊢; rw[he x AOY]; exact hr
 | store T p x=>simp only[FH,WC,Zo,hst] at hr ⊢; rw[he p AOY,he x AOY]; exact hr
 | makeSlice T l c=>simp only[FH,WC,sQ,hst] at hr ⊢; rw[he l AOY,he c AOY]; exact hr
 | buildSlice T len ps =>
  have hps:∀ p∈ps.toList,Ei s' p.2=Ei s p.2:=fun p hp=>he p.2 (by
   simp only[Op.operands]
   grind)
  have key:∀ (l:List (Nat×Operand)),(∀ p∈l,Ei s' p.2=Ei s p.2)→Ib s' l=Ib s l:=by
   exact AMS
  simp only[FH,WC,LW,key _ hps,hst] at hr ⊢
  exact hr
 | _=>simp[Xr] at heff
def Bd (E:Nat→Bool) (q:Nat):Prop:=q=0∨∃ e,E e=true∧q=e+1
def VP (P:Program) (n:Nat) (ops:Array Oper) (x:Option (Nat×Nat)) (env:List (Nat×AV)) (R:Nat→AV) (S:Nat→List Ob) (E:Nat→Bool) (m i:Nat) (o:Oper):Prop:=
 ∃ b,nU ops (Bv ops R env (fun _=>true) i) o.guard=some b∧(b=false→R i = .undef∧E i=false∧S (i+1)=S i) ∧
  (b=true→E i=true→Xr o.op=true∧FH P ⟨n,Bv ops R env (fun _=>true) i,S i⟩ o.op (R i) (S (i+1))∧∀ e,E e=true→e<i→(∀ e',e<e'→e'<i→E e'=false)→Bj o e=true∨∃ p,x=some (i,p)∧E p=true∧e≤p) ∧
  (b=true→E i=false→S (i+1)=S i∧∀ q,Bd E q→q≤m→(∀ e,E e=true→Bj o e=true→e<q)→(∀ e oe,e<m→ops[e]?=some oe→E e=true→Bj oe i=true→q≤e) →
   Ci P ⟨n,Bv ops R env (fun _=>true) i,S q⟩ o.op (R i))
theorem UD {ops:Array Oper} {env:List (Nat×AV)} {R1 R2:Nat→AV}:∀ (m:Nat),(∀ i,i<m→R1 i=R2 i)→Bv ops R1 env (fun _=>true) m=Bv ops R2 env (fun _=>true) m
 | 0,_=>rfl
 | m+1,hm=>by simp only[Bv,UD m (fun i hi=>hm i AOQ),hm m AOQ]
structure Ghost (P:Program) (w0:Bs) (St0:Nat→Nat→Prop) (T:TypeId) (wg:Bs) (b:Nat):Prop where
 may:w0.may b
 old:BelowB w0 wg.w
 lt:b<wg.heap.size
 own:∀ y,wg.own y↔(w0.may y∧y≠b)
 st:∀ o,¬ St0 b o
 gs:wg.gs=w0.gs
 cells:∃ (zs:List Value) (cs:Array Value),Tt P T=some (zs.map .v)∧mY zs=true∧wg.heap[b]?=some (.cells cs T (0,0))∧cs.toList=zs
def Z4 (b:Nat):Value:=.pointer (some ⟨b,0,none⟩)
theorem ADZ (h:Core w0 St0 St β s a w) (o:Oper) (T:TypeId) (ho:o.op = .alloc T) {y:AV} {st1 st':List Ob} {n1:Nat} {env1:List (Nat×AV)} (hy:PZ P ⟨n1,env1,st1⟩ T=some (y,st')) (Q:Exit→Act→World→Prop) :
  o.wp P a w (fun a' w'=>∃ wg b,Ghost P w0 St0 T wg b∧Sim wg St0 (MS.put s o.dst (.pin .un (Z4 b))) a' w') Q:=by
 unfold PZ at hy
 split at hy
 ·rename_i cs0 hz0
  obtain⟨zs,hz,hwf,rfl⟩:=OL hz0
  obtain⟨z,hz1,hz2⟩:=U9 hz w
  have hb:Below w.heap.size w (w.alloc (.cells z.cells T)):=Xn w _
  have hc:Core w0 St0 St β s a (w.alloc (.cells z.cells T)):=h.grow hb (fun _ _ h=>h) (fun _ _ h _=>h) fun b o hbo=>cO (h.stIn b o hbo) hb.size
  have hN:Own w0 (fun x=>x=w.heap.size) (w.alloc (.cells z.cells T)) St s.st β:=h.own.grow hb (fun _ _ h=>h) (fun _ _ h _=>h) h.stIn (fun l ob b h1 h2 h3=>(h.obs l ob b h1 h2 h3).2.1) fun x hx e=>AOQ
  have hw0:=h.below.size
  have hsz:w.heap.size<(w.alloc (.cells z.cells T)).heap.size:=AOR
  have hrun:(execOp a.eval o).run P w = .ok (.value (Z4 w.heap.size)) (w.alloc (.cells z.cells T)):=by simp[execOp,ho,Instr.alloc,hz1,newVar,newRow,Z4]
  unfold Oper.wp
  rw[hrun]
  refine⟨⟨w.alloc (.cells z.cells T),fun y=>w0.may y∧y≠w.heap.size,w0.gs⟩,w.heap.size,⟨.inl hw0,hc.below,by simp only[Bs.heap]; omega,fun y=>Iff.rfl,fun o hso=>?_,rfl,zs,z.cells,hz0,hwf,alloc_at w _,hz2⟩,St,β, ?_⟩
  ·have:=h.stIn _ _ (h.st0 _ _ hso); omega
  ·refine Core.put (x:=.pin .un (Z4 w.heap.size)) (u:=Z4 w.heap.size) ?_ o.dst (by simp[AVR])
   exact {
    defers:=hc.defers
    size:=hc.size
    lim:=hc.lim
    env:=hc.env
    below:=BelowB.refl _ _
    st0:=hc.st0
    stOld:=fun b o hbo hlt hno=>by
     refine h.stOld b o hbo ?_ ?_
     ·rcases bV b w0.heap.size with h' | h'
      ·exact h'
      ·exact absurd ⟨.inl h',by have:=h.stIn b o hbo; omega⟩ hno
     ·intro h'
      exact hno ⟨.inr h',by have:=h.stIn b o hbo; omega⟩
    stIn:=hc.stIn
    obs:=fun l ob b h1 h2 h3=>by
     obtain⟨q1,q2,q3⟩:=hc.obs l ob b h1 h2 h3
     have:=(h.obs l ob b h1 h2 h3).2.1
     exact⟨.inr ⟨q1,AOQ⟩,q2,q3⟩
    nil:=hc.nil
    inj:=hc.inj
    sep:=hc.sep
    own:=by
     obtain⟨φ,o1,o2,o3⟩:=hN
     refine⟨φ,o1,fun l k x hx=>⟨(o2 l k x hx).1, ?_⟩,o3⟩
     obtain⟨q1,q2,q3⟩:=(o2 l k x hx).2
     exact⟨.inr ⟨q1,q2⟩,fun h=>h,q3⟩ }
 ·cases hy
theorem Ghost.adopt {T:TypeId} {wg:Bs} {b d:Nat} (g:Ghost P w0 St0 T wg b) (h:Core wg St0 St β s a w) {y:AV} {st':List Ob} {n1:Nat} {env1:List (Nat×AV)} (hy:PZ P ⟨n1,env1,s.st⟩ T=some (y,st')) (hp:a.tmps.getD d Go.undef=Z4 b) :
  ∃ β',Core w0 St0 St β' ⟨s.n,(d,y)::s.env,st'⟩ a w:=by
 have hno:¬ wg.own b:=fun h=>((g.own b).1 h).2 rfl
 have hblk:w.heap[b]?=wg.heap[b]?:=h.below.blk b g.lt hno
 have hw0:w0.heap.size≤wg.heap.size:=g.old.size
 have hwg:wg.heap.size≤w.heap.size:=h.below.size
 have hmay:∀ y,wg.may y→w0.may y∧y≠b:=fun y hy=>by
  rcases hy with hy | hy
  ·exact⟨.inl AOQ,by have:=g.lt; omega⟩
  ·exact(g.own y).1 hy
 have hnown:∀ k,k<w0.heap.size→¬ w0.own k→¬ wg.own k:=fun k h1 h2 h3=>by
  rcases((g.own k).1 h3).1 with h' | h'
  ·omega
  grind
 have hSt:∀ o,¬ St b o:=fun o hbo=>g.st o (h.stOld b o hbo g.lt hno)
 have hN:Own w0 (fun x=>x=b) w St s.st β:=by
  obtain⟨φ,o1,o2,o3⟩:=h.own
  refine⟨φ,o1,fun l k x hx=>⟨(o2 l k x hx).1, ?_⟩,o3⟩
  obtain⟨q1,q2,q3⟩:=(o2 l k x hx).2
  exact⟨(hmay x q1).1,(hmay x q1).2,q3⟩
 have hc:Core w0 St0 St β s a w:={
  defers:=h.defers
  size:=h.size
  lim:=h.lim
  env:=fun i=>by have:=h.env i; unfold nm at this ⊢; rw[← g.gs]; exact this
  below:=g.old.step (n:=0) h.below.rest (fun k h1 h2=>h.below.blk k AOQ (hnown k h1 h2)) fun k h1=>h.below.siz k AOQ
  st0:=h.st0
  stOld:=fun x o hxo h1 h2=>h.stOld x o hxo AOQ (hnown x h1 h2)
  stIn:=h.stIn
  obs:=fun l ob x h1 h2 h3=>by
   obtain⟨q1,q2,q3⟩:=h.obs l ob x h1 h2 h3
   grind
  nil:=h.nil
  inj:=h.inj
  sep:=h.sep
  own:=by
   obtain⟨φ,o1,o2,o3⟩:=hN
   refine⟨φ,o1,fun l k x hx=>⟨(o2 l k x hx).1, ?_⟩,o3⟩
   obtain⟨q1,q2,q3⟩:=(o2 l k x hx).2
   exact⟨q1,fun h=>h,q3⟩ }
 obtain⟨zs,cs,hz,hwf,hcs,hcl⟩:=g.cells
 unfold PZ at hy
 rw[hz] at hy
 simp only[ak,bK] at hy
 obtain⟨rfl,rfl⟩:=hy
 obtain⟨h1,h2,_⟩:=hc.addOb ⟨T,(zs.map Cl.v).length,[zs.map .v],true,true⟩ (some b) AOR (fun x hx=>by
  simp only[ak] at hx
  subst hx
  refine⟨g.may,AOT,fun l o2 p1 p2 p3=>?_,fun o hbo=>absurd hbo (hSt o),cs,AOT,AOR,fun k c hk=>?_⟩
  ·exact(hmay _ (h.obs l o2 _ p1 p2 p3).1).2 rfl
  ·simp only[df,aaH,bQ,mW,zf] at hk
   obtain⟨v,hv,rfl⟩:=hk
   refine⟨v,AOT, ?_⟩
   simp only[RdC,RdD,true_and]
   exact aJ.1 hwf v (bC hv)) hN (fun x hx e=>hx.2.1 AOT)
 refine⟨_,{ h1 with env:=fun i=>?_ }⟩
 simp only[Bi]
 by_cases e:d=i
 ·subst e
  have hd:d<1000000:=by
   rcases bV d a.tmps.size with h' | h'
   ·exact cO h' (by rw[h.size]; exact h.lim)
   ·simp[h',undef,Z4] at hp
  simp only[bf]
  rw[U7 hd,hp]
  simp[AVR,Z4]
 ·simp only[e,aX]
  exact h1.env i
def Qr (R:Nat→AV) (j b:Nat):Nat→AV:=fun i=>if i=j then .pin .un (Z4 b) else R i
def PhA (w0:Bs) (St0:Nat→Nat→Prop) (n:Nat) (ops:Array Oper) (env:List (Nat×AV)) (R:Nat→AV) (S:Nat→List Ob) (E:Nat→Bool) (listed:Array Bool) (a:Act) (w:World):Prop:=
 ∃ q,Bd E q∧(∀ e,E e=true→(listed.getD e false=true↔e<q))∧Sim w0 St0 ⟨n,Bv ops R env (fun i=>listed.getD i false) ops.size,S q⟩ a w
def PhB (P:Program) (w0:Bs) (St0:Nat→Nat→Prop) (n:Nat) (ops:Array Oper) (env:List (Nat×AV)) (R:Nat→AV) (S:Nat→List Ob) (E:Nat→Bool) (x:Option (Nat×Nat)) (listed:Array Bool) (a:Act) (w:World):Prop:=
 ∃ (j p q b:Nat) (wg:Bs) (T:TypeId) (oj:Oper),x=some (j,p)∧ops[j]?=some oj∧oj.op = .alloc T∧E j=true∧E p=true∧(∀ e,E e=true→e<j→e≤p)∧Bd E q∧q≤p∧listed.getD j false=true ∧
  (∀ e,E e=true→e≠j→(listed.getD e false=true↔e<q))∧Ghost P w0 St0 T wg b∧Sim wg St0 ⟨n,Bv ops (Qr R j b) env (fun i=>listed.getD i false) ops.size,S q⟩ a w
theorem nP {ops:Array Oper} {j p:Nat} (h:xu ops (some (j,p))=true) {oj:Oper} (hoj:ops[j]?=some oj) :
  (∃ T,oj.op = .alloc T)∧oj.after = #[]∧oj.guard=none∧(∃ d,oj.dst=some d)∧p<j∧∀ (i:Nat) (o:Oper),ops[i]?=some o→Bj o j=true→Bj o p=true:=by
 simp only[xu,hoj,ay,aZ] at h
 obtain⟨⟨⟨⟨⟨h1,h2⟩,h3⟩,h4⟩,h5⟩,h6⟩:=h
 refine⟨?_,AOT,APj,Option.isSome_iff_exists.1 h4,h5,fun i o ho hb=>?_⟩
 ·cases hop:oj.op with
  | alloc T=>grind
  | _=>rw[hop] at h1; cases h1
 grind
theorem ABe {ops:Array Oper} {n:Nat} (hok:FV n ops=true) (hops:(ops.toList.all fun o=>o.op.operands.toList.all Ak)=true) (env:List (Nat×AV)) (R:Nat→AV) (S:Nat→List Ob) (E:Nat→Bool) (x:Option (Nat×Nat)) (hx:xu ops x=true)
  (hR:∀ (i:Nat) (o:Oper),ops[i]?=some o→VP P n ops x env R S E ops.size i o) (hE:∀ e,E e=true→e<ops.size)
  (Q:Exit→Act→World→Prop) (hQ:∀ a w,Sim w0 St0 ⟨n,Bv ops R env (fun _=>true) ops.size,S ops.size⟩ a w→Q .normal a w) :
  ∀ (fuel:Nat) (listed:Array Bool) (a:Act) (w:World),listed.size=ops.size→listed.toList.countP (fun b=>!b)≤fuel →
   (∀ (i:Nat) (o:Oper),listed.getD i false=true→ops[i]?=some o→∀ e∈o.after,Region.binds .any e=true→listed.getD e.on false=true) →
   PhA w0 St0 n ops env R S E listed a w∨PhB P w0 St0 n ops env R S E x listed a w→wpAny P .any ops Q fuel listed a w:=by
 have hdst:=Z_ hok
 have hstay:∀ (d i:Nat),i+d≤ops.size→(∀ e,i≤e→e<i+d→E e=false)→S (i+d)=S i:=by
  intro d
  induction d with
  | zero=>intro i _ _; rfl
  | succ d ih =>
   intro i hi hno
   have hlt:i+d<ops.size:=AOQ
   obtain⟨b,_,h1,h2,h3⟩:=hR (i+d) ops[i+d] (by simp[hlt])
   have hf:=hno (i+d) AOQ AOQ
   have e1:S (i+d+1)=S (i+d):=by
    cases b with
    | true=>exact(h3 rfl hf).1
    | false=>exact(h1 rfl).2.2
   rw[show i+(d+1)=i+d+1 from AOQ,e1]
   exact ih i AOQ fun e he1 he2=>hno e he1 AOQ
 have hstay2:∀ i j,i≤j→j≤ops.size→(∀ e,i≤e→e<j→E e=false)→S j=S i:=fun i j h1 h2 h3=>by
  have:=hstay (j-i) i AOQ (fun e he1 he2=>h3 e he1 AOQ)
  rwa [show i+(j-i)=j from AOQ] at this
 have hall:∀ (listed:Array Bool) (a:Act) (w:World),(∀ i,i<ops.size→listed.getD i false=true)→PhA w0 St0 n ops env R S E listed a w∨PhB P w0 St0 n ops env R S E x listed a w→Q .normal a w:=by
  rintro listed a w hl (⟨q,hb,hq,hs⟩ | ⟨j,p,q,b,wg,T,oj,hxx,hoj,hopj,hEj,hEp,hle,hb,hqp,hlj,hq,hg,hs⟩)
  ·have hqs:q≤ops.size:=by
    rcases hb with rfl | ⟨e,he,rfl⟩
    ·omega
    ·exact hE e he
   have eS:S ops.size=S q:=hstay2 q ops.size hqs (aT _) fun e h1 h2=>by
    cases hc:E e with
    | false=>rfl
    | true=>have:=(hq e hc).1 (hl e h2); omega
   refine hQ a w (hs.congr rfl eS fun t=>?_)
   exact ALG
  ·subst hxx
   have hpj:=(nP hx hoj).2.2.2.2.1
   have:=(hq p hEp AOQ).1 (hl p (hE p hEp))
   omega
 have hready:∀ (listed:Array Bool),Region.ready .any ops listed = []→listed.size=ops.size→∀ i,i<ops.size→listed.getD i false=true:=by
  intro listed hr hsz i
  induction i using Nat.strongRecOn with
  | _ i ih =>
   intro hi
   cases hc:listed.getD i false with
   | true=>rfl
   | false =>
    exfalso
    have:i∈Region.ready .any ops listed:=by
     rw[mem_ready]
     refine⟨?_,ops[i],AP1,fun e he hb=>?_⟩
     ·have hi':i<listed.size:=by omega
      simp[hi'] at hc ⊢
      exact hc
     ·have:=(GM hok (i:=i) (o:=ops[i]) AP1).1 e he hb
      exact ih e.on this AOQ
    rw[hr] at this
    cases this
 intro fuel
 induction fuel with
 | zero =>
  intro listed a w hsz hcnt hcl hs
  have hl:∀ i,i<ops.size→listed.getD i false=true:=by
   exact ALj
  refine⟨?_,hall listed a w hl hs⟩
  apply List.eq_nil_iff_forall_not_mem.2
  intro i hi
  rw[mem_ready] at hi
  obtain⟨h1,o,ho,_⟩:=hi
  have hi':i<ops.size:=(bP.1 ho).1
  have h2:=hl i hi'
  have hi2:i<listed.size:=AOQ
  simp[hi2] at h1 h2
  rw[h1] at h2; cases h2
 | succ fuel ih =>
  intro listed a w hsz hcnt hcl hs
  refine⟨fun hr=>hall listed a w (hready listed hr hsz) hs,fun i hi=>?_⟩
  rw[mem_ready] at hi
  obtain⟨hun,o,ho,hafter⟩:=hi
  have hi':i<ops.size:=(bP.1 ho).1
  have hi2:i<listed.size:=AOQ
  have hun':listed.getD i false=false:=by
   exact AN_
  have hread:∀ (R':Nat→AV),(∀ k,Bj o k=true→R' k=R k)→∀ t∈Qx ops o,Bi (Bv ops R' env (fun i=>listed.getD i false) ops.size) t=Bi (Bv ops R env (fun _=>true) i) t:=by
   intro R' hRR t ht
   by_cases hj:∃ (j:Nat),(ops[j]?).bind (·.dst)=some t
   ·obtain⟨j,hj⟩:=hj
    cases hoj:ops[j]? with
    | none=>simp[hoj] at hj
    | some oj =>
     have hjd:oj.dst=some t:=by simpa [hoj] using hj
     have hjs:j<ops.size:=(bP.1 hoj).1
     rcases Nat.lt_trichotomy j i with h1 | h1 | h1
     ·have hb:=(N8 hok hoj ho hjd ht AOQ).1 h1
      have hl:=Dh hb hafter
      rw[Fq (X:=fun i=>listed.getD i false) hdst hj hl ops.size hjs,Fq (X:=fun _=>true) hdst hj rfl i h1]
      exact hRR j hb
     ·subst h1
      rw[Bc (X:=fun i=>listed.getD i false) ops.size (fun k _ hk=>by have:=hdst k j t hk hj; subst this; exact hun'),
       Bc (X:=fun _=>true) j (fun k hk hkd=>by have:=hdst k j t hkd hj; omega)]
     ·have hb:=(N8 hok hoj ho hjd ht AOQ).2 h1
      have hl:listed.getD j false=false:=by
       cases hc:listed.getD j false with
       | false=>rfl
       | true =>
        have:=Dh hb (hcl j oj hc hoj)
        rw[this] at hun'; cases hun'
      rw[Bc (X:=fun i=>listed.getD i false) ops.size (fun k _ hk=>by have:=hdst k j t hk hj; subst this; exact hl),
       Bc (X:=fun _=>true) i (fun k hk hkd=>by have:=hdst k j t hkd hj; omega)]
   ·rw[Bc (X:=fun i=>listed.getD i false) ops.size (fun k _ hk=>(hj ⟨k,hk⟩).elim),Bc (X:=fun _=>true) i (fun k _ hk=>(hj ⟨k,hk⟩).elim)]
  obtain⟨b,hb1,hb2,hb3,hb4⟩:=hR i o ho
  have hfin:∀ (a':Act) (w':World),PhA w0 St0 n ops env R S E (listed.setIfInBounds i true) a' w'∨PhB P w0 St0 n ops env R S E x (listed.setIfInBounds i true) a' w'→wpAny P .any ops Q fuel (listed.setIfInBounds i true) a' w':=by
   intro a' w' hph
   refine ih _ a' w' (by simpa using hsz) ?_ ?_ hph
   ·have hset:(listed.setIfInBounds i true).toList=listed.toList.set i true:=by simp
    rw[hset,List.countP_set (by simpa using hi2)]
    have hv:listed.toList[i]'(by simpa using hi2)=false:=by simpa [hi2] using hun'
    rw[hv]
    have hpos:0<listed.toList.countP (fun b=>!b):=List.countP_pos_iff.2 ⟨listed.toList[i]'(by simpa using hi2),ax _,by rw[hv]; rfl⟩
    simp only[aS,bf,aP,aB,aX]
    omega
   ·intro j oj hj hoj e he hbd
    rw[Ij hi2] at hj ⊢
    by_cases e1:i=j
    ·subst e1
     rw[ho] at hoj
     simp only[ak] at hoj
     subst hoj
     have:=hafter e he hbd
     rw[this]; simp
    ·simp only[e1,aX] at hj
     have:=hcl j oj hj hoj e he hbd
     rw[this]; simp
  have hput:∀ (wb:Bs) (R':Nat→AV) (st:List Ob) (a':Act) (w':World),Sim wb St0 (MS.put ⟨n,Bv ops R' env (fun i=>listed.getD i false) ops.size,st⟩ o.dst (R' i)) a' w'→Sim wb St0 ⟨n,Bv ops R' env (fun j=>(listed.setIfInBounds i true).getD j false) ops.size,st⟩ a' w':=by
   intro wb R' st a' w' hsim
   refine hsim.congr ?_ ?_ fun t=>?_
   ·exact ALv
   ·exact ALv
   ·have hX:(fun j=>(listed.setIfInBounds i true).getD j false)=fun j=>if i=j then true else listed.getD j false:=funext fun j=>Ij hi2
    rw[hX]
    cases hd:o.dst with
    | none =>
     simp only[MS.put]
     by_cases hj:∃ (j:Nat),(ops[j]?).bind (·.dst)=some t
     ·obtain⟨j,hj⟩:=hj
      have hjs:j<ops.size:=by
       exact ANy
      have hne:i≠j:=fun e=>by subst e; simp[ho,hd] at hj
      exact AI3
     ·exact ALp
    | some d =>
     have hdn:=(GM hok ho).2 d hd
     have hid:(ops[i]?).bind (·.dst)=some d:=by simp[ho,hd]
     simp only[MS.put,hdn,bf,Bi]
     by_cases e1:d=t
     ·subst e1
      simp only[bf]
      rw[Fq (X:=fun j=>if i=j then true else listed.getD j false) hdst hid AOR ops.size hi']
     ·simp only[e1,aX]
      by_cases hj:∃ (j:Nat),(ops[j]?).bind (·.dst)=some t
      ·obtain⟨j,hj⟩:=hj
       have hjs:j<ops.size:=by
        exact ANy
       have hne:i≠j:=fun e=>by subst e; rw[hid] at hj; exact e1 (ry hj)
       exact AI3
      ·exact ALp
  have hset:∀ (q q':Nat),(∀ e,E e=true→(e<q'↔(e<q∨e=i)))→∀ e,E e=true→(listed.getD e false=true↔e<q)→((listed.setIfInBounds i true).getD e false=true↔e<q'):=by
   intro q q' hqq e he hq
   rw[Ij hi2,hqq e he,← hq]
   by_cases e1:i=e
   ·simp[e1]
   ·have e2:¬ e=i:=fun h=>e1 h.symm
    simp[e1,e2]
  have hkeep:∀ (q:Nat),E i=false→∀ e,E e=true→(listed.getD e false=true↔e<q)→((listed.setIfInBounds i true).getD e false=true↔e<q):=fun q hEi=>hset q q fun e he=>⟨.inl,fun h=>h.elim id fun h=>by subst h; rw[hEi] at he; cases he⟩
  have hmix:∀ (R':Nat→AV),(∀ k,Bj o k=true→R' k=R k)→(∀ t,.tmp t∈o.op.operands.toList→Bi (Bv ops R' env (fun i=>listed.getD i false) ops.size) t=Bi (Bv ops R env (fun _=>true) i) t):=fun R' hRR t ht=>hread R' hRR t (by
   simp only[Qx,aa1]
   left
   rw[List.mem_filterMap]
   exact⟨.tmp t,ht,rfl⟩)
  unfold wpOp
  rcases hs with ⟨q,hbd,hq,St,β,hcore⟩ | ⟨j,p,q,bg,wg,T,oj,hxx,hoj,hopj,hEj,hEp,hle,hbd,hqp,hlj,hq,hg,St,β,hcore⟩
  ·
   have hop:=hmix R fun _ _=>rfl
   have hg1:=hb1
   rw[← Wv (hread R fun _ _=>rfl)] at hg1
   have hwant:=nV hcore (o:=o) hg1
   simp only[ho,hwant]
   cases b with
   | false =>
    simp only[aB,aX]
    obtain⟨g1,g2,g3⟩:=hb2 rfl
    refine hfin _ _ (.inl ⟨q,hbd,fun e he=>hkeep q g2 e he (hq e he),hput _ _ _ _ _ ⟨St,β,hcore.put o.dst ?_⟩⟩)
    rw[g1]
    simp only[AVR]
   | true =>
    simp only[bf]
    left
    cases hEi:E i with
    | false =>
     obtain⟨g1,g2⟩:=hb4 rfl hEi
     have hqs:q≤ops.size:=by
      exact AOI
     have hd:=g2 q hbd hqs (fun e he hbt=>(hq e he).1 (Dh hbt hafter)) (fun e oe _ hoe he hbt=>by
      rcases bV e q with h' | h'
      ·have:=(hq e he).2 h'
       exact AOG
      ·exact h')
     have hstep:=Ph (P:=P) (s:=⟨n,Bv ops R env (fun _=>true) i,S q⟩) (s':=⟨n,Bv ops R env (fun i=>listed.getD i false) ops.size,S q⟩) rfl o.op hop (R i) hd
     exact Oper.wp_mono (fun a' w' hs=>hfin a' w' (.inl ⟨q,hbd,fun e he=>hkeep q hEi e he (hq e he),hput _ _ _ _ _ hs⟩)) (Wu hcore o (LY hops ho) hstep Q)
    | true =>
     obtain⟨g1,g2,g3⟩:=hb3 rfl hEi
     have hiq:q≤i:=by
      have:¬ i<q:=fun h'=>by have:=(hq i hEi).2 h'; rw[this] at hun'; cases hun'
      omega
     have heff:(∀ e,E e=true→e<i→e<q)→o.wp P a w (fun a' w'=>wpAny P .any ops Q fuel (listed.setIfInBounds i true) a' w') Q:=by
      intro hprev
      have eS:S i=S q:=hstay2 q i hiq AOQ fun e x1 x2=>by
       exact AOC
      rw[eS] at g2
      have hstep:=TN (P:=P) (s:=⟨n,Bv ops R env (fun _=>true) i,S q⟩) (s':=⟨n,Bv ops R env (fun i=>listed.getD i false) ops.size,S q⟩) rfl o.op g1 hop g2
      exact Oper.wp_mono (fun a' w' hs=>hfin a' w' (.inl ⟨i+1,.inr ⟨i,hEi,rfl⟩,fun e he=>hset q (i+1) (fun e he=>⟨fun h=>by
       rcases bV e i with h' | h'
       ·exact .inl (hprev e he h')
       ·exact .inr AOQ,fun h=>by
       rcases h with h | h
       ·omega
       ·omega⟩) e he (hq e he),hput _ _ _ _ _ hs⟩)) (Zz hcore o (LY hops ho) hstep Q)
     by_cases hxi:∃ p,x=some (i,p)∧E p=true∧(∀ e,E e=true→e<i→e≤p)∧¬ p<q
     ·
      obtain⟨p,hxx,hEp,hle,hpq⟩:=hxi
      subst hxx
      obtain⟨⟨T,hT⟩,_,_,_,hpi,_⟩:=nP hx ho
      rw[hT] at g2
      simp only[FH,WC] at g2
      refine Oper.wp_mono (fun a' w' hs=>?_) (ADZ hcore o T hT g2 Q)
      obtain⟨wg,bg,hgh,hsim⟩:=hs
      refine hfin a' w' (.inr ⟨i,p,q,bg,wg,T,o,rfl,ho,hT,hEi,hEp,hle,hbd,AOQ,by rw[Ij hi2]; simp,fun e he hne=>?_,hgh, ?_⟩)
      ·rw[Ij hi2]
       have e1:¬ i=e:=fun h=>hne h.symm
       simp only[e1,aX]
       exact hq e he
      ·refine hput wg (Qr R i bg) (S q) a' w' ?_
       have e1:Qr R i bg i = .pin .un (Z4 bg):=by simp[Qr]
       rw[e1]
       refine hsim.congr ?_ ?_ fun t=>?_
       ·exact ALv
       ·exact ALv
       ·have e2:∀ m,Bv ops (Qr R i bg) env (fun i=>listed.getD i false) m=Bv ops R env (fun i=>listed.getD i false) m:=by
         intro m
         induction m with
         | zero=>rfl
         | succ m ihm =>
          simp only[Bv,ihm]
          by_cases hm:m=i
          ·subst hm
           simp only[hun',aB,aX]
          ·simp only[Qr,hm,aX]
        rw[e2]
     ·refine heff ?_
      have key:∀ d e,i-e≤d→E e=true→e<i→e<q:=by
       intro d
       induction d with
       | zero=>intro e h1 _ h3; omega
       | succ d ihd =>
        intro e h1 he hei
        by_cases hex:∃ e',e<e'∧e'<i∧E e'=true
        ·exact AOH
        ·have hbt:=g3 e he hei fun e' x1 x2=>by
          exact AN6
         rcases hbt with hbt | ⟨p,hp1,hp2,hp3⟩
         ·exact(hq e he).1 (Dh hbt hafter)
         ·have hpq:p<q:=by
           rcases bV p q with h' | h'
           ·exact h'
           ·refine absurd ⟨p,hp1,hp2,fun e' he' hei'=>?_,AOQ⟩ hxi
            have:e'≤e:=by
             rcases bV e e' with h2 | h2
             ·exact absurd ⟨e',h2,hei',he'⟩ hex
             ·exact h2
            omega
          omega
      exact fun e he hei=>key (i-e) e (aT _) he hei
  ·
   subst hxx
   obtain⟨_,haft,_,⟨d,hd⟩,hpj,hbp⟩:=nP hx hoj
   have hnj:i≠j:=fun e=>by subst e; rw[hlj] at hun'; cases hun'
   have hpl:listed.getD p false=false:=by
    cases hc:listed.getD p false with
    | false=>rfl
    | true=>have:=(hq p hEp AOQ).1 hc; omega
   have hnb:Bj o j=false:=by
    cases hc:Bj o j with
    | false=>rfl
    | true =>
     have:=Dh (hbp i o ho hc) hafter
     rw[this] at hpl; cases hpl
   have hRR:∀ k,Bj o k=true→Qr R j bg k=R k:=fun k hk=>by
    have:¬ k=j:=fun e=>by subst e; rw[hnb] at hk; cases hk
    simp only[Qr,this,aX]
   have hop:=hmix (Qr R j bg) hRR
   have hRi:Qr R j bg i=R i:=by simp only[Qr,hnj,aX]
   have hg1:=hb1
   rw[← Wv (hread (Qr R j bg) hRR)] at hg1
   have hwant:=nV hcore (o:=o) hg1
   have hlj':(listed.setIfInBounds i true).getD j false=true:=by rw[Ij hi2,hlj]; simp
   simp only[ho,hwant]
   cases b with
   | false =>
    simp only[aB,aX]
    obtain⟨g1,g2,g3⟩:=hb2 rfl
    refine hfin _ _ (.inr ⟨j,p,q,bg,wg,T,oj,rfl,hoj,hopj,hEj,hEp,hle,hbd,hqp,hlj',fun e he hne=>hkeep q g2 e he (hq e he hne),hg,hput _ _ _ _ _ ⟨St,β,hcore.put o.dst ?_⟩⟩)
    rw[hRi,g1]
    simp only[AVR]
   | true =>
    simp only[bf]
    left
    cases hEi:E i with
    | false =>
     obtain⟨g1,g2⟩:=hb4 rfl hEi
     have hqs:q≤ops.size:=by
      exact AOI
     have hd2:=g2 q hbd hqs (fun e he hbt=>(hq e he (fun h=>by subst h; rw[hnb] at hbt; cases hbt)).1 (Dh hbt hafter)) (fun e oe _ hoe he hbt=>by
      by_cases hej:e=j
      ·omega
      ·rcases bV e q with h' | h'
       ·have:=(hq e he hej).2 h'
        exact AOG
       ·exact h')
     have hstep:=Ph (P:=P) (s:=⟨n,Bv ops R env (fun _=>true) i,S q⟩) (s':=⟨n,Bv ops (Qr R j bg) env (fun i=>listed.getD i false) ops.size,S q⟩) rfl o.op hop (R i) hd2
     exact Oper.wp_mono (fun a' w' hs=>hfin a' w' (.inr ⟨j,p,q,bg,wg,T,oj,rfl,hoj,hopj,hEj,hEp,hle,hbd,hqp,hlj',fun e he hne=>hkeep q hEi e he (hq e he hne),hg,hput _ _ _ _ _ (by rw[hRi]; exact hs)⟩)) (Wu hcore o (LY hops ho) hstep Q)
    | true =>
     obtain⟨g1,g2,g3⟩:=hb3 rfl hEi
     have hlisted:∀ e,E e=true→e<i→(∀ e',e<e'→e'<i→E e'=false)→listed.getD e false=true∧e≠j:=fun e he hei hno=>by
      rcases g3 e he hei hno with hbt | ⟨p',hp1,_,_⟩
      ·exact⟨Dh hbt hafter,fun h=>by subst h; rw[hnb] at hbt; cases hbt⟩
      ·simp only[ak,bK] at hp1
       exact absurd hp1.1.symm hnj
     have key:∀ d e,i-e≤d→E e=true→e<i→e<q:=by
      intro d
      induction d with
      | zero=>intro e h1 _ h3; omega
      | succ d ihd =>
       intro e h1 he hei
       by_cases hex:∃ e',e<e'∧e'<i∧E e'=true
       ·exact AOH
       ·obtain⟨y1,y2⟩:=hlisted e he hei fun e' x1 x2=>by
         exact AN6
        exact(hq e he y2).1 y1
     have hprev:∀ e,E e=true→e<i→e<q:=fun e he hei=>key (i-e) e (aT _) he hei
     have hij:i<j:=by
      rcases bV i j with h' | h'
      ·exact h'
      ·have:=hprev j hEj AOQ; omega
     have hip:i≤p:=hle i hEi hij
     have hiq:q≤i:=by
      have:¬ i<q:=fun h'=>by have:=(hq i hEi hnj).2 h'; rw[this] at hun'; cases hun'
      omega
     have eS:S i=S q:=hstay2 q i hiq AOQ fun e x1 x2=>by
      exact AOC
     rw[eS] at g2
     have hstep:=TN (P:=P) (s:=⟨n,Bv ops R env (fun _=>true) i,S q⟩) (s':=⟨n,Bv ops (Qr R j bg) env (fun i=>listed.getD i false) ops.size,S q⟩) rfl o.op g1 hop g2
     refine Oper.wp_mono (fun a' w' hs=>hfin a' w' ?_) (Zz hcore o (LY hops ho) hstep Q)
     have hs2:Sim wg St0 ⟨n,Bv ops (Qr R j bg) env (fun j=>(listed.setIfInBounds i true).getD j false) ops.size,S (i+1)⟩ a' w':=hput _ _ _ _ _ (by rw[hRi]; exact hs)
     have hq2:∀ e,E e=true→e≠j→((listed.setIfInBounds i true).getD e false=true↔e<i+1):=fun e he hne=>hset q (i+1) (fun e he=>⟨fun h=>by
      rcases bV e i with h' | h'
      ·exact .inl (hprev e he h')
      ·exact .inr AOQ,fun h=>by
      rcases h with h | h
      ·omega
      ·omega⟩) e he (hq e he hne)
     by_cases hpi:i=p
     ·
      left
      subst hpi
      obtain⟨bj,hj1,hj2,hj3,_⟩:=hR j oj hoj
      have hbj:bj=true:=by
       cases bj with
       | true=>rfl
       | false=>have:=(hj2 rfl).2.1; rw[hEj] at this; cases this
      obtain⟨_,k2,_⟩:=hj3 hbj hEj
      rw[hopj] at k2
      simp only[FH,WC] at k2
      have eSj:S j=S (i+1):=hstay2 (i+1) j AOQ (Nat.le_of_lt (hE j hEj)) fun e x1 x2=>by
       cases hc:E e with
       | false=>rfl
       | true=>have:=hle e hc x2; omega
      rw[eSj] at k2
      obtain⟨St2,β2,hc2⟩:=hs2
      have hjd:(ops[j]?).bind (·.dst)=some d:=by simp[hoj,hd]
      have hpt:a'.tmps.getD d Go.undef=Z4 bg:=by
       have:=hc2.env d
       rw[Fq (X:=fun j=>(listed.setIfInBounds i true).getD j false) hdst hjd hlj' ops.size (hE j hEj)] at this
       simp only[Qr,bf,AVR] at this
       rw[← U7 (w0:=wg) (cO ((GM hok hoj).2 d hd) hc2.lim)]
       exact this.1
      obtain⟨β3,hc3⟩:=hg.adopt hc2 k2 hpt
      refine⟨j+1,.inr ⟨j,hEj,rfl⟩,fun e he=>?_,⟨St2,β3,hc3.congr rfl rfl fun t=>?_⟩⟩
      ·by_cases hej:e=j
       ·subst hej; rw[hlj']; simp
       ·rw[hq2 e he hej]
        constructor
        ·intro h; omega
        ·intro h
         have:=hle e he AOQ
         omega
      ·simp only[Bi]
       by_cases e1:d=t
       ·subst e1
        simp only[bf]
        rw[Fq (X:=fun j=>(listed.setIfInBounds i true).getD j false) hdst hjd hlj' ops.size (hE j hEj)]
       ·simp only[e1,aX]
        by_cases hjx:∃ (k:Nat),(ops[k]?).bind (·.dst)=some t
        ·obtain⟨k,hk⟩:=hjx
         have hks:k<ops.size:=by
          cases hok2:ops[k]? with
          | none=>simp[hok2] at hk
          | some ok=>exact(bP.1 hok2).1
         have hkj:¬ k=j:=fun e=>by subst e; rw[hjd] at hk; exact e1 (ry hk)
         cases hl:(listed.setIfInBounds i true).getD k false with
         | true =>
          rw[Fq (X:=fun j=>(listed.setIfInBounds i true).getD j false) hdst hk hl ops.size hks,Fq (X:=fun j=>(listed.setIfInBounds i true).getD j false) hdst hk hl ops.size hks]
          simp only[Qr,hkj,aX]
         | false =>
          rw[Bc (X:=fun j=>(listed.setIfInBounds i true).getD j false) ops.size (fun m _ hm=>by have:=hdst m k t hm hk; subst this; exact hl),Bc (X:=fun j=>(listed.setIfInBounds i true).getD j false) ops.size (fun m _ hm=>by have:=hdst m k t hm hk; subst this; exact hl)]
        ·rw[Bc (X:=fun j=>(listed.setIfInBounds i true).getD j false) ops.size (fun m _ hm=>(hjx ⟨m,hm⟩).elim),Bc (X:=fun j=>(listed.setIfInBounds i true).getD j false) ops.size (fun m _ hm=>(hjx ⟨m,hm⟩).elim)]
     ·right
      exact⟨j,p,i+1,bg,wg,T,oj,rfl,hoj,hopj,hEj,hEp,hle,.inr ⟨i,hEi,rfl⟩,AOQ,hlj',hq2,hg,hs2⟩
structure InvE (P:Program) (n:Nat) (ops:Array Oper) (x:Option (Nat×Nat)) (env:List (Nat×AV)) (k:Nat) (R:Nat→AV) (S:Nat→List Ob) (E:Nat→Bool) (H:List (Nat×List Ob)) (pd:List PE):Prop where
 below:∀ e,E e=true→e<k
 hist:∀ q,Bd E q→(q,S q)∈H
 histB:∀ h∈H,Bd E h.1
 head:∃ q0 st0 H',H=(q0,st0)::H'∧∀ e,E e=true→e<q0
 pend:∀ (i:Nat) (o:Oper),i<k→ops[i]?=some o→nU ops (Bv ops R env (fun _=>true) i) o.guard=some true→E i=false→(∀ e oe,ops[e]?=some oe→E e=true→Bj oe i=false)→(⟨i,o.op,Bv ops R env (fun _=>true) i,R i⟩:PE)∈pd
 spec:∀ (i:Nat) (o:Oper),i<k→ops[i]?=some o→VP P n ops x env R S E k i o
theorem jg {E:Nat→Bool} {o:Oper} {q:Nat} (hq:∀ e,E e=true→Bj o e=true→e<q):∀ {H:List (Nat×List Ob)},(∀ h∈H,Bd E h.1)→Wl o q H=true
 | [],_=>rfl
 | h::H,hB=>by
  simp only[Wl,ay,r_,aZ]
  refine⟨?_,jg hq fun h' hh=>hB h' (by simp[hh])⟩
  rcases hB h AOR with h0 | ⟨e,he,h1⟩
  ·left; omega
  grind
theorem jh {n:Nat} {env:List (Nat×AV)} {o:Oper} {r:AV} {H:List (Nat×List Ob)}:∀ {G:List (Nat×List Ob)},Wn P n env o r H G→∀ h∈G,Wl o h.1 H=true→Ci P ⟨n,env,h.2⟩ o.op r
 | [],_,h,hh,_=>by simp at hh
 | g::G,hp,h,hh,ha=>by
  simp only[Wn,CondK] at hp
  rcases SK.1 hh with rfl | hh
  ·grind
  ·exact jh hp.2 h hh ha
theorem ji {n:Nat} {oe:Oper} {st':List Ob}:∀ {ps:List PE},Wp P n oe st' ps→∀ p∈ps,Bj oe p.i=false→Ci P ⟨n,p.env,st'⟩ p.o p.r
 | [],_,p,hp,_=>by simp at hp
 | q::ps,h,p,hp,hb=>by
  simp only[Wp,CondK] at h
  rcases SK.1 hp with rfl | hp
  ·grind
  ·exact ji h.2 p hp hb
theorem jk {oe:Oper}:∀ {ps:List PE} {p:PE},p∈ps→Bj oe p.i=false→p∈UC oe ps
 | [],p,h,_=>AOx
 | q::ps,p,h,hb=>by
  simp only[UC]
  rcases SK.1 h with rfl | h
  ·rw[hb]; simp
  ·have:=jk h hb
   grind
theorem x_ {n:Nat} {ops:Array Oper} {x:Option (Nat×Nat)} {K:MS→Prop} (hok:FV n ops=true) (env:List (Nat×AV)):∀ (l:List Oper) (k:Nat) (R:Nat→AV) (S:Nat→List Ob) (E:Nat→Bool) (H:List (Nat×List Ob)) (pd:List PE),(∀ j,l[j]?=ops[k+j]?)→k+l.length=ops.size →
  InvE P n ops x env k R S E H pd→vpE P x ops K l k H pd ⟨n,Bv ops R env (fun _=>true) k,S k⟩ →
  ∃ (R':Nat→AV) (S':Nat→List Ob) (E':Nat→Bool),K ⟨n,Bv ops R' env (fun _=>true) ops.size,S' ops.size⟩∧S' 0=S 0∧(∀ e,E' e=true→e<ops.size)∧∀ (i:Nat) (o:Oper),ops[i]?=some o→VP P n ops x env R' S' E' ops.size i o:=by
 intro l
 induction l with
 | nil =>
  intro k R S E H pd hl hk hI h
  simp only[aW,abA] at hk
  subst hk
  exact⟨R,S,E,h,rfl,hI.below,fun i o ho=>hI.spec i o (bP.1 ho).1 ho⟩
 | cons o l ih =>
  intro k R S E H pd hl hk hI h
  have ho:ops[k]?=some o:=by simpa using(hl 0).symm
  have hks:k<ops.size:=(bP.1 ho).1
  have hEk:∀ e,k≤e→E e=false:=fun e he=>by
   cases hc:E e with
   | false=>rfl
   | true=>have:=hI.below e hc; omega
  simp only[vpE,TQ,gE,ADV,CondK] at h
  have hSk:∀ st',(fun j=>if j≤k then S j else S k) (k+1)=(fun j=>if j≤k then S j else st') k:=fun st'=>by
   have h1:¬ k+1≤k:=AOQ
   simp only[h1,aX,aT,bf]
  have put:∀ (r:AV) (st':List Ob),MS.put ⟨n,Bv ops R env (fun _=>true) k,st'⟩ o.dst r=⟨n,Bv ops (fun i=>if i=k then r else R i) env (fun _=>true) (k+1),st'⟩:=fun r st'=>by
   have e1:=UD (ops:=ops) (env:=env) (R1:=fun i=>if i=k then r else R i) (R2:=R) k (fun i hi=>AOS)
   simp only[Bv,ho,abr,e1]
   cases hd:o.dst with
   | none=>simp only[MS.put]
   | some d =>
    have:=(GM hok ho).2 d hd
    simp[MS.put,this]
  have go:∀ (r:AV) (st':List Ob) (eff:Bool) (H':List (Nat×List Ob)) (pd':List PE),vpE P x ops K l (k+1) H' pd' (MS.put ⟨n,Bv ops R env (fun _=>true) k,st'⟩ o.dst r) →
    InvE P n ops x env (k+1) (fun i=>if i=k then r else R i) (fun j=>if j≤k then S j else st') (fun i=>if i=k then eff else E i) H' pd' →
    ∃ (R':Nat→AV) (S':Nat→List Ob) (E':Nat→Bool),K ⟨n,Bv ops R' env (fun _=>true) ops.size,S' ops.size⟩∧S' 0=S 0∧(∀ e,E' e=true→e<ops.size)∧∀ (i:Nat) (o:Oper),ops[i]?=some o→VP P n ops x env R' S' E' ops.size i o:=by
   intro r st' eff H' pd' hv hI'
   rw[put] at hv
   have e2:st'=(fun j=>if j≤k then S j else st') (k+1):=(bz AOQ).symm
   rw[e2] at hv
   obtain⟨R',S',E',x1,x2,x3,x4⟩:=ih (k+1) _ _ _ H' pd' (fun j=>by
    have:=hl (j+1)
    simpa [Nat.add_assoc,Nat.add_comm 1 j] using this) (by simp only[aI] at hk; omega) hI' hv
   exact⟨R',S',E',x1,by simpa using x2,x3,x4⟩
  have hag:∀ (r:AV) (i:Nat),i≤k→Bv ops (fun i=>if i=k then r else R i) env (fun _=>true) i=Bv ops R env (fun _=>true) i:=fun r i hi=>UD i fun j hj=>AOS
  have keepSpec:∀ (r:AV) (st':List Ob) (eff:Bool),(eff=true→∀ (i:Nat) (oi:Oper),i<k→ops[i]?=some oi→nU ops (Bv ops R env (fun _=>true) i) oi.guard=some true→E i=false→(∀ e oe,ops[e]?=some oe→E e=true→Bj oe i=false)→Bj o i=false→Ci P ⟨n,Bv ops R env (fun _=>true) i,st'⟩ oi.op (R i)) →
    ∀ (i:Nat) (oi:Oper),i<k→ops[i]?=some oi→VP P n ops x env (fun i=>if i=k then r else R i) (fun j=>if j≤k then S j else st') (fun i=>if i=k then eff else E i) (k+1) i oi:=by
   intro r st' eff hnew i oi hi hoi
   obtain⟨b,s1,s2,s3,s4⟩:=hI.spec i oi hi hoi
   have hne:¬ i=k:=AOQ
   have hle:i≤k:=AOQ
   have hle1:i+1≤k:=AOQ
   refine⟨b,by rw[hag r i hle]; exact s1,fun hb=>?_,fun hb he=>?_,fun hb he=>?_⟩
   ·simpa only[hne,aX,hle,hle1,bf] using s2 hb
   ·simp only[hne,aX] at he
    obtain⟨y1,y2,y3⟩:=s3 hb he
    refine⟨y1,by simp only[hne,aX,hle,hle1,bf]; rw[hag r i hle]; exact y2,fun e hee hei hno=>(y3 e ?_ hei fun e' z1 z2=>?_).imp id fun⟨p,hp1,hp2,hp3⟩=>⟨p,hp1, ?_,hp3⟩⟩
    ·have:¬ e=k:=by omega
     simpa only[this,aX] using hee
    ·have:=hno e' z1 z2
     have h2:¬ e'=k:=AOQ
     simpa only[h2,aX] using this
    ·have:¬ p=k:=by have:=hI.below p hp2; omega
     simpa only[this,aX] using hp2
   ·simp only[hne,aX] at he
    obtain⟨y1,y2⟩:=s4 hb he
    refine⟨by simpa only[hle,hle1,bf] using y1,fun q hbd hq hpast hfut=>?_⟩
    simp only[hne,aX]
    rw[hag r i hle]
    have hpast':∀ e,E e=true→Bj oi e=true→e<q:=fun e hee hbt=>hpast e (by
     have:¬ e=k:=by have:=hI.below e hee; omega
     simpa only[this,aX] using hee) hbt
    by_cases hqk:q≤k
    ·simp only[hqk,bf]
     refine y2 q ?_ hqk hpast' fun e oe hek hoe hee hbt=>hfut e oe AOQ hoe (by
      have:¬ e=k:=AOQ
      simpa only[this,aX] using hee) hbt
     rcases hbd with rfl | ⟨e,hee,rfl⟩
     ·exact .inl rfl
     ·have:¬ e=k:=by omega
      simp only[this,aX] at hee
      exact .inr ⟨e,hee,rfl⟩
    ·have hq2:q=k+1:=by omega
     subst hq2
     have hek:eff=true:=by
      rcases hbd with h0 | ⟨e,hee,h1⟩
      ·omega
      ·have:e=k:=by omega
       subst this
       simpa using hee
     simp only[hqk,aX]
     subst hb
     refine hnew hek i oi hi hoi s1 he (fun e oe hoe hee=>?_) ?_
     ·cases hc:Bj oe i with
      | false=>rfl
      | true =>
       have h2:=hI.below e hee
       have:=hfut e oe AOQ hoe (by
        have:¬ e=k:=AOQ
        simpa only[this,aX] using hee) hc
       omega
     ·cases hc:Bj o i with
      | false=>rfl
      | true =>
       have:=hfut k o AOQ ho (by simpa using hek) hc
       omega
  have readInv:∀ (r:AV) (pd':List PE),(∀ p∈pd,p∈pd')→(nU ops (Bv ops R env (fun _=>true) k) o.guard=some true→(⟨k,o.op,Bv ops R env (fun _=>true) k,r⟩:PE)∈pd') →
    VP P n ops x env (fun i=>if i=k then r else R i) (fun j=>if j≤k then S j else S k) (fun i=>if i=k then false else E i) (k+1) k o→InvE P n ops x env (k+1) (fun i=>if i=k then r else R i) (fun j=>if j≤k then S j else S k) (fun i=>if i=k then false else E i) H pd':=by
   intro r pd' hpd hnewp hs
   have hEE:∀ e,(if e=k then false else E e)=true↔E e=true:=fun e=>by
    by_cases h':e=k
    ·subst h'; simp[hEk e (aT _)]
    ·simp[h']
   have hBd:∀ q,Bd (fun i=>if i=k then false else E i) q↔Bd E q:=fun q=>by
    unfold Bd
    simp only[hEE]
   refine⟨fun e he=>?_,fun q hq=>?_,fun h hh=>(hBd _).2 (hI.histB h hh), ?_,fun i oi hi hoi hg hE0 hno=>?_,fun i oi hi hoi=>?_⟩
   ·have:=hI.below e ((hEE e).1 he); omega
   ·have hq':=(hBd q).1 hq
    have hqk:q≤k:=by
     rcases hq' with rfl | ⟨e,he,rfl⟩
     ·omega
     ·exact hI.below e he
    simp only[hqk,bf]
    exact hI.hist q hq'
   ·obtain⟨q0,st0,H',e1,e2⟩:=hI.head
    exact⟨q0,st0,H',e1,fun e he=>e2 e ((hEE e).1 he)⟩
   ·rcases bV i k with h' | h'
    ·have hne:¬ i=k:=by omega
     simp only[hne,aX] at hE0 ⊢
     rw[hag r i AOQ] at hg ⊢
     exact hpd _ (hI.pend i oi h' hoi hg hE0 fun e oe hoe hee=>hno e oe hoe ((hEE e).2 hee))
    ·have:i=k:=by omega
     subst this
     rw[ho] at hoi
     cases hoi
     rw[hag r i (aT _)] at hg ⊢
     simpa using hnewp hg
   ·rcases bV i k with h' | h'
    ·exact keepSpec r (S k) false (fun h=>APh) i oi h' hoi
    ·have:i=k:=by omega
     subst this
     rw[ho] at hoi
     cases hoi
     exact hs
  split at h
  ·rename_i b hb
   cases b with
   | false =>
    refine go .undef (S k) false H pd (h.2 rfl) (readInv .undef pd (fun _ h=>h) (fun hg=>by rw[hb] at hg; cases hg) ?_)
    unfold VP
    refine⟨false,by rw[hag _ k (aT _)]; exact hb,fun _=>⟨AOR,AOR,hSk (S k)⟩,fun h=>Bool.noConfusion h,fun h=>Bool.noConfusion h⟩
   | true =>
    have h1:=h.1 rfl
    cases heff:Xr o.op with
    | false =>
     obtain⟨r,hr1,hr2,hr3⟩:=h1.2 heff
     refine go r (S k) false H _ hr3 (readInv r _ (fun p hp=>abg _ hp) (fun _=>List.mem_cons_self ..) ?_)
     unfold VP
     refine⟨true,by rw[hag _ k (aT _)]; exact hb,fun h=>Bool.noConfusion h,fun _ he=>by simp at he,fun _ _=>⟨hSk (S k),fun q hbd hq hpast hfut=>?_⟩⟩
     have hbd':Bd E q:=by
      rcases hbd with rfl | ⟨e,hee,rfl⟩
      ·exact .inl rfl
      ·by_cases h':e=k
       ·simp[h'] at hee
       ·simp only[h',aX] at hee
        exact .inr ⟨e,hee,rfl⟩
     have hqk:q≤k:=by
      rcases hbd' with rfl | ⟨e,he,rfl⟩
      ·omega
      ·exact hI.below e he
     have hpast':∀ e,E e=true→Bj o e=true→e<q:=fun e hee hbt=>hpast e (by
      have:¬ e=k:=by have:=hI.below e hee; omega
      simpa only[this,aX] using hee) hbt
     simp only[hqk,bf]
     rw[hag r k (aT _)]
     exact jh hr2 (q,S q) (hI.hist q hbd') (jg hpast' hI.histB)
    | true =>
     have h2:=h1.1 heff
     cases hch:Wq x k o H with
     | false=>exact(h2.2 hch).elim
     | true =>
      have h3:=h2.1 hch
      have h4:∃ y st',FH P ⟨n,Bv ops R env (fun _=>true) k,S k⟩ o.op y st'∧AFM P o ⟨n,Bv ops R env (fun _=>true) k,S k⟩ H pd k (vpE P x ops K l (k+1)) y st':=by
       generalize hop:o.op=op at h3
       cases op with
       | call c =>
        simp only[ADU,NM,uA,TP] at h3
        split at h3
        ·rename_i f hcl
         rcases h3 with h3 | h3 | ⟨y,st',h3,hk2⟩
         rotate_right
         ·refine⟨y,st', ?_,hk2⟩
          simp only[FH,hcl]
          exact .inr (.inr h3)
         ·split at h3
          ·rename_i args st1 hf
           obtain⟨rs,hc,hk2⟩:=h3
           refine⟨_,_, ?_,hk2⟩
           simp only[FH,hcl]
           exact .inl ⟨args,rs,st1,hf,hc,rfl,rfl⟩
          ·exact h3.elim
         ·obtain⟨args,rs,hf,hcl2,hc,hk2⟩:=h3
          refine⟨_,_, ?_,hk2⟩
          simp only[FH,hcl]
          exact .inr (.inl ⟨args,rs,hf,hcl2,hc,rfl,rfl⟩)
        ·rename_i hne
         exact ANH
       | _ =>
        simp only[ADU,TP] at h3
        exact ANH
      obtain⟨y,st',g1,g2,g3⟩:=h4
      refine go y st' true _ _ g3 ?_
      have hEE:∀ e,(if e=k then true else E e)=true↔(E e=true∨e=k):=fun e=>by
       by_cases h':e=k
       ·simp[h']
       ·simp[h']
      refine⟨fun e he=>?_,fun q hq=>?_,fun h hh=>?_,⟨k+1,st',H,rfl,fun e he=>?_⟩,fun i oi hi hoi hg hE0 hno=>?_,fun i oi hi hoi=>?_⟩
      ·exact AOA
      ·rcases hq with rfl | ⟨e,he,rfl⟩
       ·simp only[aA,bf]
        exact abg _ (hI.hist 0 (.inl rfl))
       ·rcases(hEE e).1 he with h' | h'
        ·have:=hI.below e h'
         have h2:e+1≤k:=AOQ
         simp only[h2,bf]
         exact abg _ (hI.hist _ (.inr ⟨e,h',rfl⟩))
        ·subst h'
         have h2:¬ e+1≤e:=AOQ
         simp only[h2,aX]
         exact List.mem_cons_self ..
      ·rcases SK.1 hh with rfl | hh
       ·exact .inr ⟨k,AOR,rfl⟩
       ·rcases hI.histB h hh with h0 | ⟨e,he,h1⟩
        ·exact .inl h0
        ·exact .inr ⟨e,(hEE e).2 (.inl he),h1⟩
      ·exact AOA
      ·have hlt:i<k:=by
        rcases bV i k with h' | h'
        ·exact h'
        ·have:i=k:=by omega
         subst this
         simp at hE0
       have hne:¬ i=k:=AOQ
       simp only[hne,aX] at hE0 ⊢
       rw[hag y i AOQ] at hg ⊢
       refine jk (hI.pend i oi hlt hoi hg hE0 fun e oe hoe hee=>hno e oe hoe ((hEE e).2 (.inl hee))) ?_
       exact hno k o ho AOR
      ·rcases bV i k with h' | h'
       ·refine keepSpec y st' true (fun _ j oj hj hoj hg hE0 hno hbo=>?_) i oi h' hoi
        exact ji g2 _ (hI.pend j oj hj hoj hg hE0 hno) hbo
       ·have:i=k:=by omega
        subst this
        rw[ho] at hoi
        cases hoi
        unfold VP
        refine⟨true,by rw[hag y i (aT _)]; exact hb,fun h=>Bool.noConfusion h,fun _ _=>⟨heff, ?_,fun e hee hei hno=>?_⟩,fun _ he=>by simp at he⟩
        ·have h2:¬ i+1≤i:=by omega
         simp only[aT,bf,h2,aX]
         rw[hag y i (aT _)]
         exact g1
        ·have hne:¬ e=i:=by omega
         simp only[hne,aX] at hee
         obtain⟨q0,st0,H',e1,e2⟩:=hI.head
         have hb0:=hI.histB (q0,st0) (by rw[e1]; exact List.mem_cons_self ..)
         rw[e1] at hch
         rcases hb0 with h0 | ⟨e0,he0,h1⟩
         ·have:=e2 e hee
          simp only at h0
          omega
         ·simp only at h1
          have hlt:=e2 e hee
          have hi0:=hI.below e0 he0
          have hold:chainB o ((q0,st0)::H')=true→Bj o e=true:=fun hch=>by
           by_cases heq:e=e0
           ·subst heq
            simp only[chainB,h1] at hch
            exact hch
           ·have:=hno e0 AOQ hi0
            have hne0:¬ e0=i:=AOQ
            simp only[hne0,aX] at this
            rw[he0] at this; cases this
          cases x with
          | none=>exact .inl (hold hch)
          | some jp =>
           obtain⟨j,p⟩:=jp
           simp only[Wq] at hch
           by_cases hij:i=j
           ·subst hij
            simp only[bf,nO,aZ] at hch
            have hp:e0=p:=AOQ
            subst hp
            have hne0:¬ e0=i:=AOQ
            exact .inr ⟨e0,rfl,by simp only[hne0,aX]; exact he0,AOQ⟩
           ·rw[bz hij] at hch
            exact .inl (hold hch)
  ·exact h.elim
theorem VQ {ops:Array Oper} {x:Option (Nat×Nat)} (hx:xu ops x=true) (hok:FV s.n ops=true) (hops:(ops.toList.all fun o=>o.op.operands.toList.all Ak)=true) (h:Core w0 St0 St β s a w) {K:MS→Prop} (hK:vpE P x ops K ops.toList 0 [(0,s.st)] [] s) :
  wpAny P .any ops (fun e a' w'=>e = .normal∧∃ s',K s'∧s'.n=s.n∧Sim w0 St0 s' a' w') ops.size (Array.replicate ops.size false) a { w with drawn:=w.drawn+1 }:=by
 have hI:InvE P s.n ops x s.env 0 (fun _=>.un) (fun _=>s.st) (fun _=>false) [(0,s.st)] []:=by
  refine⟨fun e he=>?_,fun q hq=>?_,fun h hh=>?_,⟨0,s.st,[],rfl,fun e he=>?_⟩,fun i o hi=>?_,fun i o hi=>?_⟩
  ·cases he
  ·rcases hq with rfl | ⟨e,he,_⟩
   ·simp
   ·cases he
  ·simp only[SK,List.not_mem_nil,or_false] at hh
   subst hh
   exact .inl rfl
  ·cases he
  ·omega
  ·omega
 obtain⟨R,S,E,hKs,hS0,hE,hR⟩:=x_ (K:=K) hok s.env ops.toList 0 (fun _=>.un) (fun _=>s.st) (fun _=>false) [(0,s.st)] [] (fun j=>AOR) AOR hI (by simpa [Bv] using hK)
 have hgrow:Core w0 St0 St β s a { w with drawn:=w.drawn+1 }:=h.grow (w':={ w with drawn:=w.drawn+1 }) ⟨rfl,rfl,rfl,aT _,fun _ _=>rfl⟩ (fun _ _ h=>h) (fun _ _ h _=>h) h.stIn
 have hno:∀ i,(Array.replicate ops.size false).getD i false=false:=fun i=>by
  simp[aa5]
  split<;>rfl
 refine ABe (P:=P) (n:=s.n) hok hops s.env R S E x hx hR hE _ (fun a w hs=>⟨rfl,_,hKs,rfl,hs⟩) ops.size (Array.replicate ops.size false) a _ AOR ?_ ?_ (.inl ⟨0,.inl rfl,fun e he=>?_, ?_⟩)
 ·grind
 ·grind
 ·grind
 ·refine⟨St,β,hgrow.congr rfl (by rw[hS0]) fun t=>?_⟩
  grind [Bc]
theorem Xu {ops:Array Oper} (hok:FV s.n ops=true) (hops:(ops.toList.all fun o=>o.op.operands.toList.all Ak)=true) (h:Core w0 St0 St β s a w) {K:MS→Prop} (hv:ADW P ops s K) :
  ∀ L,H6 ops (Array.replicate ops.size false) L→wpOps P ops (fun e a' w'=>e = .normal∧∃ s',K s'∧s'.n=s.n∧Sim w0 St0 s' a' w') L a { w with drawn:=w.drawn+1 }:=by
 intro L hL
 rcases hv with ⟨ls,st',hf,hv⟩ | ⟨x,hx,hv⟩ | hv
 ·obtain⟨St1,h1⟩:=Zy ls s.st st' St h hf
  exact Pi L _ _ _ _ (Xy AOQ hops h1 hv) hL
 ·exact Pi L _ _ _ _ (VQ hx hok hops h hv) hL
 ·exact Pi L _ _ _ _ (hv w0 St0 St β a w h) hL
theorem Nz {K:MS→Prop} (h:Core w0 St0 St β s a w):∀ (d:Nat) (ops:Array Oper),FV s.n ops=true→(ops.toList.all fun o=>o.op.operands.toList.all Ak)=true→DrawX P d ops s K →
  ∀ L,H6 ops (Array.replicate ops.size false) L→wpOps P ops (fun e a' w'=>e = .normal∧∃ s',K s'∧s'.n=s.n∧Sim w0 St0 s' a' w') L a { w with drawn:=w.drawn+1 }
 | 0,_,hok,hops,hv=>Xu hok hops h hv
 | _+1,_,hok,hops,.inl hv=>Xu hok hops h hv
 | d+1,_,hok,hops,.inr hx=>by
  obtain⟨l,e1,e2,σ1,σ2,js,e,hne,h1,k1,k2⟩:=hx
  subst e
  obtain⟨_,_,d1,o1⟩:=Qy h1
  rcases k2 with ⟨hp,hl⟩ | ⟨h2,k2⟩
  ·exact AHX hne hok hp hl h1 (Nz h d _ d1 o1 k1)
  ·obtain⟨_,_,d2,o2⟩:=Qy h2
   exact split_ok hne hok h1 h2 (Nz h d _ d1 o1 k1) (Nz h d _ d2 o2 k2)
theorem zy (hm:P.follows .mixedOrders=true) (n:Nat):∀ (c:Code),codeOk n c=true→∀ (s:MS) (Q:Ex→MS→Prop) (a:Act) (w:World),s.n=n→vp P c s Q→Sim w0 St0 s a w→c.wp P (AJD w0 St0 n Q) a w:=by
 intro c
 induction c with
 | skip=>intro _ s Q a w hn hv hs; exact wp_skip ⟨.normal,s,rfl,hv,hn,hs⟩
 | region id ops draw =>
  intro hc s Q a w hn hv hs
  cases draw with
  | false =>
   simp only[vp] at hv
   simp only[codeOk] at hc
   exact wp_region_list (xx ops _ (Q .normal) n ops.toList 0 (fun j=>AOR) hc s a w hn hs hv fun s' a' w' hK hn' hs'=>⟨.normal,s',rfl,hK,hn',hs'⟩)
  | true =>
   simp only[vp] at hv
   simp only[codeOk,ay] at hc
   obtain⟨d,hv⟩:=hv
   obtain⟨St,β,h⟩:=hs
   refine wp_mono (YU hm (Nz h d ops AOT hc.1 hv)) ?_
   rintro e a' w' ⟨rfl,s',hK,hn',hs'⟩
   exact⟨.normal,s',rfl,hK,hn'.trans hn,hs'⟩
 | seq x y ihx ihy =>
  intro hc s Q a w hn hv hs
  simp only[codeOk,ay] at hc
  simp only[vp] at hv
  refine wp_seq (wp_mono (ihx hc.1 s _ a w hn hv hs) ?_)
  rintro e a' w' ⟨ex,s',rfl,hq,hn',hs'⟩
  cases ex with
  | normal=>exact ihy hc.2 s' Q a' w' hn' hq hs'
  | exit i=>exact⟨.exit i,s',rfl,hq,hn',hs'⟩
  | ret=>exact⟨.ret,s',rfl,hq,hn',hs'⟩
 | cond c x y ihx ihy =>
  intro hc s Q a w hn hv hs
  simp only[codeOk,ay] at hc
  simp only[vp,AAE] at hv
  split at hv
  ·rename_i b hev
   obtain⟨St,β,h⟩:=hs
   have he:=CO h c hc.1.1
   rw[hev] at he
   obtain⟨hval,_⟩:=OO he
   exact wp_cond_split hval (fun hb=>ihx hc.1.2 s Q a w hn (hv.1 hb) ⟨St,β,h⟩) (fun hb=>ihy hc.2 s Q a w hn (hv.2 hb) ⟨St,β,h⟩)
  grind
 | block id x ih =>
  intro hc s Q a w hn hv hs
  simp only[codeOk] at hc
  simp only[vp] at hv
  refine wp_block (wp_mono (ih hc s _ a w hn hv hs) ?_)
  rintro e a' w' ⟨ex,s',rfl,hq,hn',hs'⟩
  cases ex with
  | normal=>exact⟨.normal,s',rfl,hq,hn',hs'⟩
  | exit i =>
   simp only[Ex.of,Exit.inBlock]
   simp only[ABa] at hq
   by_cases e:i=id
   ·simp only[e,bf] at hq ⊢
    exact⟨.normal,s',rfl,hq,hn',hs'⟩
   ·simp only[e,aX] at hq ⊢
    exact⟨.exit i,s',rfl,hq,hn',hs'⟩
  | ret=>exact⟨.ret,s',rfl,hq,hn',hs'⟩
 | loop x ih =>
  intro hc s Q a w hn hv hs
  simp only[codeOk] at hc
  simp only[vp] at hv
  obtain⟨H1,H2,A,f,p,μ,hH,⟨x0,t1,t2,hp0⟩,hround⟩:=hv
  refine wp_loop_ghost (fun m a w=>∃ y,μ y=m∧p y∧(f y).n=n∧Sim w0 St0 (f y) a w) (μ x0) ⟨x0,rfl,hp0, ?_, ?_⟩ ?_
  ·exact(hH _ _ t1 t2).1.trans hn
  ·obtain⟨St,β,h⟩:=hs
   exact(hH _ _ t1 t2).2 _ _ _ _ _ _ h
  ·rintro m a w ⟨y,rfl,hp,hny,hsy⟩
   refine wp_mono (ih hc (f y) _ a w hny (hround y hp) hsy) ?_
   rintro e a' w' ⟨ex,s',rfl,hq,hn',hs'⟩
   cases ex with
   | normal =>
    obtain⟨z,u1,u2,u3,u4⟩:=hq
    obtain⟨St,β,h⟩:=hs'
    refine⟨μ z,u4,z,rfl,u3, ?_, ?_⟩
    ·exact(hH _ _ u1 u2).1.trans hn'
    ·exact(hH _ _ u1 u2).2 _ _ _ _ _ _ h
   | exit i=>exact⟨.exit i,s',rfl,hq,hn',hs'⟩
   | ret=>exact⟨.ret,s',rfl,hq,hn',hs'⟩
 | exit id=>intro _ s Q a w hn hv hs; exact wp_exit ⟨.exit id,s,rfl,hv,hn,hs⟩
 | scope x ih =>
  intro hc s Q a w hn hv hs
  simp only[codeOk] at hc
  simp only[vp] at hv
  refine wp_scope_straight (wp_mono (ih hc s Q a w hn hv hs) ?_)
  rintro e a' w' ⟨ex,s',rfl,hq,hn',hs'⟩
  cases ex with
  | normal=>exact⟨.normal,s',rfl,hq,hn',hs'⟩
  | exit i=>exact⟨.exit i,s',rfl,hq,hn',hs'⟩
  | ret=>exact⟨.ret,s',rfl,hq,hn',hs'⟩
 | ret=>intro _ s Q a w hn hv hs; exact wp_ret ⟨.ret,s,rfl,hv,hn,hs⟩
 | _=>intro _ s Q a w _ hv _; simp only[vp] at hv
theorem tV {xs:List (List Cl)} {sz:Nat} (hl:∀ x∈xs,x.length=sz):∀ {k:Nat} {c:Cl},xs.flatten[k]?=some c→∃ (i j:Nat) (x:List Cl),xs[i]?=some x∧x[j]?=some c∧k=i*sz+j∧j<sz:=by
 induction xs with
 | nil=>intro k c h; simp at h
 | cons x xs ih =>
  intro k c h
  have hx:x.length=sz:=hl x AOR
  simp only[df] at h
  rcases bV k x.length with h' | h'
  ·rw[bH h'] at h
   exact⟨0,k,x,AOR,h,AOQ,AOQ⟩
  ·rw[bn h'] at h
   obtain⟨i,j,y,q1,q2,q3,q4⟩:=ih (fun y hy=>hl y APi) h
   exact⟨i+1,j,y,by simpa using q1,q2,by rw[Zm]; omega,q4⟩
theorem AHI {i i' j j' sz:Nat} (hj:j<sz) (hj':j'<sz) (h:i*sz+j=i'*sz+j'):i=i'∧j=j':=by
 have h1:(i*sz+j)/sz=i:=by rw[Nat.mul_comm,Nat.mul_add_div AOQ,Nat.div_eq_of_lt hj]; rfl
 have h2:(i'*sz+j')/sz=i':=by rw[Nat.mul_comm,Nat.mul_add_div AOQ,Nat.div_eq_of_lt hj']; rfl
 have:i=i':=by rw[← h1,h,h2]
 subst this
 exact⟨rfl,AOQ⟩
def Ap (l:Nat) (st:List Ob):List Ob:=match st[l]? with
 | some ob=>st.set l ⟨ob.ty,ob.sz,ob.xs,ob.wr,false⟩
 | none=>st
def Xv:List Nat→List Ob→List Ob
 | [],st=>st
 | l::ls,st=>Xv ls (Ap l st)
theorem ADa (l:Nat) (st:List Ob) (l':Nat):(Ap l st)[l']?=(st[l']?).map fun ob=>if l=l' then⟨ob.ty,ob.sz,ob.xs,ob.wr,false⟩ else ob:=by
 unfold Ap
 grind
theorem Z5:∀ (ls:List Nat) (st:List Ob) (l':Nat),(Xv ls st)[l']?=(st[l']?).map fun ob=>if l'∈ls then⟨ob.ty,ob.sz,ob.xs,ob.wr,false⟩ else ob
 | [],st,l'=>by simp[Xv]
 | l::ls,st,l'=>by
  rw[Xv,Z5 ls,ADa]
  grind
def AQ (used:List Nat) (l0 i:Nat) (row':List Cl) (ob:Ob) (st:List Ob):List Ob:=Xv used (st.set l0 ⟨ob.ty,ob.sz,ob.xs.set i row',ob.wr,ob.live⟩)
theorem Core.closeRow (h:Core w0 St0 St β s a w) {l0 i:Nat} {ob:Ob} {row row':List Cl} {used:List Nat} (hob:Cf s.st l0=some ob) (hrw:ob.xs[i]?=some row) (hwr:ob.wr=true) (hl0:l0∉used)
  (ho:OwnL s.st row row' [l0] fun us=>∀ l∈us,l=l0∨l∈used):Core w0 St0 St β ⟨s.n,s.env,AQ used l0 i row' ob s.st⟩ a w:=by
 obtain⟨hl,hlive⟩:=Bo hob
 obtain⟨φ,hφ⟩:=h.own
 have hi:i<ob.xs.length:=(aF.1 hrw).1
 obtain⟨R,hR⟩:∃ R,R=ob.xs:=⟨_,rfl⟩
 have hxs:ob.xs=R.set i row:=by
  subst hR
  apply abk
  intro m
  rw[wE]
  by_cases e:i=m
  ·grind
  ·simp[e]
 have hi:i<R.length:=by rw[hR]; exact hi
 have hlN:l0<s.st.length:=(aF.1 hl).1
 have hst0:∀ l,(AQ used l0 i row' ob s.st)[l]?=((if l0=l then some (⟨ob.ty,ob.sz,R.set i row',ob.wr,ob.live⟩:Ob) else s.st[l]?)).map fun o=>if l∈used then⟨o.ty,o.sz,o.xs,o.wr,false⟩ else o:=fun l=>by
  unfold AQ
  grind [Z5]
 have hget:∀ (l:Nat) (o2:Ob),(AQ used l0 i row' ob s.st)[l]?=some o2→o2.live=true→l∉used∧((l=l0∧o2=⟨ob.ty,ob.sz,R.set i row',ob.wr,ob.live⟩)∨(l≠l0∧s.st[l]?=some o2)):=by
  intro l o2 h2 hlv
  rw[hst0 l] at h2
  by_cases e:l0=l
  ·grind
  ·grind
 have hmk:∀ (l:Nat) (o2:Ob),s.st[l]?=some o2→∃ o3,(AQ used l0 i row' ob s.st)[l]?=some o3∧(o3.live=true→o2.live=true)∧(l∉used→o3.live=o2.live)∧o3.sz=o2.sz∧o3.ty=o2.ty∧o3.xs.length=o2.xs.length∧(o2.xs = []→o3.xs = []):=by
  intro l o2 h2
  rw[hst0 l]
  by_cases e:l0=l
  ·grind
  ·grind
 have hr:∀ (l:Nat) (u:Value),BM w s.st β l u→BM w (AQ used l0 i row' ob s.st) β l u:=by
  intro l u hu
  unfold BM at hu ⊢
  exact AMz
 have hBB:∀ (c:Cl) (u:Value),RdB w St s.st β c u→RdB w St (AQ used l0 i row' ob s.st) β c u:=fun c u hu=>RdB.mono (fun _ _ h=>h) (fun _ _ _=>rfl) hr c u hu
 have hp:∀ l i2 off u,AVR w St s.st β (.lp l i2 off) u→AVR w St (AQ used l0 i row' ob s.st) β (.lp l i2 off) u:=by
  intro l i2 off u hu
  simp only[AVR] at hu ⊢
  exact AMz
 have hrow:(R.set i row)[i]?=some row:=by rw[wE]; simp[hi]
 have hrow':(R.set i row')[i]?=some row':=by rw[wE]; simp[hi]
 have hβcases:∀ b,β l0=some b→∃ (cs:Array Value),w.heap[b]?=some (.cells cs ob.ty (0,0))∧row.length=ob.sz∧row'.length=ob.sz∧(∀ x∈R.set i row',x.length=ob.sz) ∧
   ∃ (used1:List Nat) (Φ:Nat→Nat→Prop),(∀ l∈used1,l=l0∨l∈used)∧(∀ (j:Nat) (c:Cl),row'[j]?=some c→∃ y,cs[i*ob.sz+j]?=some y∧RdO w St c y (Φ j))∧(∀ k x,Φ k x→∃ l,l≠l0∧l∈used1∧Fp s.st β φ l x∧∀ o2,s.st[l]?=some o2→o2.wr=true) ∧
    (∀ k k' x,Φ k x→Φ k' x→k=k')∧∀ (k:Nat) (c:Cl),(R.set i row').flatten[k]?=some c→(∃ j,j<ob.sz∧k=i*ob.sz+j∧row'[j]?=some c)∨((∀ j,j<ob.sz→k≠i*ob.sz+j)∧ob.xs.flatten[k]?=some c):=by
  intro b hb
  obtain⟨_,_,cs,g1,g2,g3⟩:=h.obs l0 ob b hl hlive hb
  have hrl:row.length=ob.sz:=g2 row AOT
  have hcr:∀ (j:Nat) (c:Cl),row[j]?=some c→∃ y,cs[i*ob.sz+j]?=some y∧RdB w St s.st β c y:=fun j c hj=>g3 _ c (Fh g2 i j row c AOQ hj)
  have hvs:∃ vs:List Value,vs.length=row.length∧∀ (j:Nat),j<row.length→vs[j]?=cs[i*ob.sz+j]?:=by
   refine⟨(List.range row.length).map fun j=>(cs[i*ob.sz+j]?).getD Go.undef,AOR,fun j hj=>?_⟩
   obtain⟨y,hy,_⟩:=hcr j _ (au hj)
   simp[hj,hy]
  obtain⟨vs,hv1,hv2⟩:=hvs
  have hnow:∀ (j:Nat) (c:Cl),row[j]?=some c→Gm c=false:=by
   have gen:∀ (xs ys:List Cl) (us:List Nat) (K:List Nat→Prop),OwnL s.st xs ys us K→∀ (j:Nat) (c:Cl),xs[j]?=some c→Gm c=false:=by
    intro xs
    induction xs with
    | nil=>grind
    | cons x xs ih =>
     intro ys us K ho j c hj
     cases ys with
     | nil=>simp[OwnL] at ho
     | cons y ys =>
      have pl:x=y∧AB y=true∧OwnL s.st xs ys us K→Gm c=false:=by
       rintro⟨rfl,hp,hrest⟩
       cases j with
       | zero=>grind [aV,ak,LV]
       | succ j=>grind
      cases y with
      | v z=>exact pl AOe
      | sl z=>exact pl AOe
      | ref z=>exact pl AOe
      | ow ty sz zs =>
       simp only[OwnL] at ho
       split at ho
       ·rename_i l
        split at ho
        ·exact AN3
        grind
       ·exact AN3
       grind
   exact gen row row' [l0] _ ho
  obtain⟨used1,Φ,r1,r2,r3,r4,r5,r6⟩:=nZ h hφ row row' vs [l0] _ hv1 (fun j c hj=>by
   obtain⟨y,hy,hr⟩:=hcr j c hj
   exact⟨y,AOT,hr.toC (hnow j c hj)⟩) ho
  have hset:∀ x∈R.set i row',x.length=ob.sz:=fun x hx=>by
   grind
  refine⟨cs,g1,hrl,by rw[r3,hrl],hset,used1,Φ,r1,fun j c hj=>?_,fun k x hx=>?_,r6,fun k c hk=>?_⟩
  ·grind
  ·grind
  ·obtain⟨i',j,x,q1,q2,q3,q4⟩:=tV hset hk
   grind [AHI,Fh]
 exact {
  defers:=h.defers
  size:=h.size
  lim:=h.lim
  env:=fun k=>AVR.mono (fun _ _ h=>h) (fun _ _ _=>rfl) hr hp _ _ (h.env k)
  below:=h.below,st0:=h.st0,stOld:=h.stOld,stIn:=h.stIn
  obs:=fun l o2 b h2 hlv hβ=>by
   obtain⟨hlt,⟨rfl,rfl⟩ | ⟨hne,h3⟩⟩:=hget l o2 h2 hlv
   ·obtain⟨q1,q2,_⟩:=h.obs l ob b hl hlive hβ
    obtain⟨cs,g1,g2,g3,g4,used1,Φ,r1,r2,r3,r4,r5⟩:=hβcases b hβ
    refine⟨q1,q2,cs,g1,g4,fun k c hk=>?_⟩
    rcases r5 k c hk with ⟨j,hj,rfl,hc⟩ | ⟨_,hc⟩
    ·obtain⟨y,hy,hr⟩:=r2 j c hc
     exact⟨y,hy,hr.toB⟩
    ·obtain⟨_,_,cs',p1,p2,p3⟩:=h.obs l ob b hl hlive hβ
     grind
   ·obtain⟨q1,q2,cs,g1,g2,g3⟩:=h.obs l o2 b h3 hlv hβ
    exact ANv
  nil:=fun l o2 h2 hlv hβ=>by
   obtain⟨hlt,⟨rfl,rfl⟩ | ⟨hne,h3⟩⟩:=hget l o2 h2 hlv
   ·have:=h.nil l ob hl hlive hβ
    grind
   ·exact h.nil l o2 h3 hlv hβ
  inj:=fun l l' o1 o2 b h1 h2 h3 h4 h5 h6=>by
   have key:∀ (l:Nat) (o1:Ob),(AQ used l0 i row' ob s.st)[l]?=some o1→o1.live=true→∃ o,s.st[l]?=some o∧o.live=true:=by
    intro l o1 h1 h3
    obtain⟨_,⟨rfl,rfl⟩ | ⟨_,q⟩⟩:=hget l o1 h1 h3
    ·grind
    ·grind
   exact AMt
  sep:=fun l o2 b o h2 hlv hβ hbo=>by
   obtain⟨hlt,⟨rfl,rfl⟩ | ⟨hne,h3⟩⟩:=hget l o2 h2 hlv
   ·have:=h.sep l ob b o hl hlive hβ hbo
    grind
   ·exact h.sep l o2 b o h3 hlv hβ hbo
  own:=by
   cases hβ0:β l0 with
   | none =>
    have:=h.nil l0 ob hl hlive hβ0
    grind
   | some b0 =>
    obtain⟨cs,g1,g2,g3,g4,used1,Φ,r1,r2,r3,r4,r5⟩:=hβcases b0 hβ0
    have hΦN:∀ k x,Φ k x→∃ l,l∈used∧Fp s.st β φ l x∧∀ o2,s.st[l]?=some o2→o2.wr=true:=fun k x hx=>by
     grind
    refine⟨fun l k x=>(l=l0∧∃ j,j<ob.sz∧k=i*ob.sz+j∧Φ j x)∨(l∉used∧(l=l0→∀ j,j<ob.sz→k≠i*ob.sz+j)∧φ l k x), ?_, ?_, ?_⟩
    ·intro l o2 b k c h2 hlv hβ hk hc
     obtain⟨hlt,⟨rfl,rfl⟩ | ⟨hne,h3⟩⟩:=hget l o2 h2 hlv
     ·rw[hβ0] at hβ
      cases hβ
      rcases r5 k c hk with ⟨j,hj,rfl,hcj⟩ | ⟨hnj,hck⟩
      ·obtain⟨y,hy,hr⟩:=r2 j c hcj
       exact⟨y,by simp[World.cell?,g1,hy],RdO.mono (fun _ _ h=>h) (fun _ _ _=>rfl) c y _ _ (fun x hx=>.inl ⟨rfl,j,hj,rfl,hx⟩) (fun _ _=>rfl) hr⟩
      ·obtain⟨u,hu,hr⟩:=hφ.1 l ob b0 k c hl hlive hβ0 hck hc
       exact⟨u,hu,RdO.mono (fun _ _ h=>h) (fun _ _ _=>rfl) c u _ _ (fun x hx=>.inr ⟨hlt,fun _=>hnj,hx⟩) (fun _ _=>rfl) hr⟩
     ·obtain⟨u,hu,hr⟩:=hφ.1 l o2 b k c h3 hlv hβ hk hc
      exact⟨u,hu,RdO.mono (fun _ _ h=>h) (fun _ _ _=>rfl) c u _ _ (fun x hx=>.inr ⟨hlt,fun e=>absurd e hne,hx⟩) (fun _ _=>rfl) hr⟩
    ·rintro l k x (⟨rfl,j,hj,rfl,hx⟩ | ⟨hlt,hnj,hx⟩)
     ·obtain⟨l2,q1,q2,q3⟩:=hΦN j x hx
      obtain⟨t1,t2,t3⟩:=VG h hφ q2 q3
      obtain⟨o3,p1,_,p2,_⟩:=hmk l ob hl
      refine⟨⟨o3,b0,p1,AOT,hβ0⟩,t1,fun h=>h,t2,t3,fun l' o2 h2 hlv hb=>?_⟩
      obtain⟨hlt',hcase⟩:=hget l' o2 h2 hlv
      have:Fp s.st β φ l' x:=by
       rcases hcase with ⟨rfl,rfl⟩ | ⟨_,q⟩
       ·exact⟨ob,hl,hlive,.inl hb⟩
       ·exact⟨o2,q,hlv,.inl hb⟩
      have:=JM h hφ q2 this
      grind
     ·obtain⟨⟨o2,b,p1,p2,p3⟩,q1,q2,q3,q4,q5⟩:=hφ.2.1 l k x hx
      obtain⟨o3,s1,_,s2,_⟩:=hmk l o2 p1
      refine⟨⟨o3,b,s1,AOT,p3⟩,q1,q2,q3,q4,fun l' o4 h4 hlv=>?_⟩
      grind
    ·rintro l l' k k' x (⟨rfl,j,hj,rfl,hx⟩ | ⟨hlt,hnj,hx⟩) (⟨rfl,j',hj',rfl,hx'⟩ | ⟨hlt',hnj',hx'⟩)
     ·grind
     ·obtain⟨l2,q1,q2,_⟩:=hΦN j x hx
      obtain⟨⟨o2,b,p1,p2,p3⟩,_⟩:=hφ.2.1 l' k' x hx'
      have:=JM h hφ q2 ⟨o2,p1,p2,.inr ⟨k',hx'⟩⟩
      grind
     ·obtain⟨l2,q1,q2,_⟩:=hΦN j' x hx'
      obtain⟨⟨o2,b,p1,p2,p3⟩,_⟩:=hφ.2.1 l k x hx
      have:=JM h hφ q2 ⟨o2,p1,p2,.inr ⟨k,hx⟩⟩
      grind
     grind }
theorem yA {l N:Nat} (h:N≤l) (st:List Ob):(Ap l st).take N=st.take N:=by
 unfold Ap
 split
 ·rw[List.take_set_of_le h]
 ·rfl
theorem Z7 {N:Nat}:∀ (used:List Nat) (_:∀ l∈used,N≤l) (st:List Ob),(Xv used st).take N=st.take N
 | [],_,st=>rfl
 | l::ls,h,st=>by rw[Xv,Z7 ls (fun x hx=>h x APc),yA (h l AOR)]
theorem OwnL.mono {st:List Ob}:∀ (xs ys:List Cl) (us:List Nat) (K K':List Nat→Prop),(∀ us',(∀ l∈us',l∈us∨l<st.length)→K us'→K' us')→OwnL st xs ys us K→OwnL st xs ys us K'
 | [],[],us,K,K',h,ho=>h us (fun l hl=>.inl hl) ho
 | [],y::ys,_,_,_,_,ho=>by cases y<;>simp[OwnL] at ho
 | x::xs,[],_,_,_,_,ho=>APy
 | x::xs,y::ys,us,K,K',h,ho=>by
  cases y with
  | ow ty sz zs =>
   cases x with
   | ref l =>
    simp only[OwnL] at ho ⊢
    split at ho
    ·rename_i ob hob
     obtain⟨h1,h2,h3,h4,h5,h6,h7⟩:=ho
     have hl:l<st.length:=by
      obtain⟨hl,_⟩:=Bo hob
      exact(aF.1 hl).1
     exact⟨h1,h2,h3,h4,h5,h6,OwnL.mono xs ys _ K K' (fun us' hu hk=>h us' (fun m hm=>by
      rcases hu m hm with q | q
      ·rcases SK.1 q with rfl | q
       ·exact .inr hl
       ·exact .inl q
      ·exact .inr q) hk) h7⟩
    ·exact ho.elim
   | v x =>
    cases x with
    | slice a n c =>
     cases a with
     | none =>
      match n,c,ho with
      | 0,0,ho=>simp only[OwnL] at ho ⊢; exact⟨ho.1,OwnL.mono xs ys us K K' h ho.2⟩
      | 0,c+1,ho=>simp[OwnL] at ho
      | n+1,_,ho=>simp[OwnL] at ho
     | some a=>simp[OwnL] at ho
    | _=>simp[OwnL] at ho
   | _=>simp[OwnL] at ho
  | v y=>simp only[OwnL] at ho ⊢; exact⟨ho.1,ho.2.1,OwnL.mono xs ys us K K' h ho.2.2⟩
  | sl y=>simp only[OwnL] at ho ⊢; exact⟨ho.1,ho.2.1,OwnL.mono xs ys us K K' h ho.2.2⟩
  | ref y=>simp only[OwnL] at ho ⊢; exact⟨ho.1,ho.2.1,OwnL.mono xs ys us K K' h ho.2.2⟩
def N7 (P:Program) (s:MS):List ResultVar→Option (List AV)
 | []=>some []
 | .tmp t::r=>if t<1000000 then match N7 P s r with
  | some xs=>some (Bi s.env t::xs)
  | none=>none
  else none
 | .cell t T::r=>if t<1000000 then match Io P s (.load T (.tmp t)),N7 P s r with
  | some x,some xs=>some (x::xs)
  | _,_=>none
  else none
def Ov (st:List Ob):List AV→List Res→List Nat→Prop
 | [],[],_=>True
 | _::xs,.val _::rs,us=>Ov st xs rs us
 | x::xs,.own ty sz ys wr::rs,us=>match x with
  | .c (.ref l)=>match Cf st l with
   | some ob=>ob.ty=ty∧ob.sz=sz∧ob.xs=ys∧(wr=true→ob.wr=true)∧BJ ys=true∧l∉us∧Ov st xs rs (l::us)
   | none=>False
  | .c (.v (.slice none 0 0))=>ys = []∧Ov st xs rs us
  | _=>False
 | x::xs,.agg ys::rs,us=>match x with
  | .agg zs=>OwnL st zs ys us fun us'=>Ov st xs rs us'
  | _=>False
 | _,_,_=>False
def Qs (st:List Ob):List AV→List Res→(List Ob→Prop)→Prop
 | [],[],K=>K st
 | x::xs,.val y::rs,K=>match fzA st x with
  | some (y',st')=>y'=y∧Qs st' xs rs K
  | none=>False
 | _::xs,.own _ _ _ _::rs,K=>Qs st xs rs K
 | _::xs,.agg _::rs,K=>Qs st xs rs K
 | _,_,_=>False
def Post (P:Program) (vars:List ResultVar) (rs:List Res) (s:MS):Prop:=match N7 P s vars with
 | some xs=>Qs s.st xs rs fun st=>Ov st xs rs []
 | none=>False
theorem Z8 {w':World} {St':Nat→Nat→Prop} {st st':List Ob} {β':Nat→Option Nat} (hA:∀ x u,AVR w St st β x u→AVR w' St' st' β' x u):∀ {xs:List AV} {us:List Value},AVRs w St st β xs us→AVRs w' St' st' β' xs us
 | [],us,h=>APQ
 | x::xs,us,h=>by
  simp only[AVRs] at h ⊢
  obtain⟨y,ys,h1,h2,h3⟩:=h
  exact⟨y,ys,h1,hA x y h2,Z8 hA h3⟩
theorem VR:∀ (xs:List AV) (rs:List Res) (us:List Value) (st:List Ob) (St:Nat→Nat→Prop) (K:List Ob→Prop),Core w0 St0 St β ⟨s.n,s.env,st⟩ a w→AVRs w St st β xs us→Qs st xs rs K →
  ∃ st' St',K st'∧Core w0 St0 St' β ⟨s.n,s.env,st'⟩ a w∧(∀ b o,St b o→St' b o)∧(∀ x u,AVR w St st β x u→AVR w St' st' β x u) ∧
   (∀ (j:Nat) (y:AV),rs[j]?=some (.val y)→∃ u,us[j]?=some u∧RdA w St' y u)
 | [],rs,us,st,St,K,h,hx,hv=>by
  cases rs with
  | nil=>exact⟨st,St,hv,h,fun _ _ h=>h,fun _ _ h=>h,fun j y hj=>by simp at hj⟩
  | cons r rs=>cases r<;>simp[Qs] at hv
 | x::xs,rs,us,st,St,K,h,hx,hv=>by
  cases rs with
  | nil=>simp[Qs] at hv
  | cons r rs =>
   simp only[AVRs] at hx
   obtain⟨u,us',rfl,h1,h2⟩:=hx
   cases r with
   | val y =>
    simp only[Qs] at hv
    split at hv
    ·rename_i y' st1 hf
     obtain⟨rfl,hv⟩:=hv
     obtain⟨St1,q1,q2,q3,q4⟩:=ADG h hf
     have hm:=T_ (w:=w) (w':=w) (β:=β) (St:=St) (St':=St1) fun l ob hl=>zl hf hl
     have hA:∀ x u,AVR w St st β x u→AVR w St1 st1 β x u:=fun x u hx=>AVR.mono q2 (fun _ _ _=>rfl) q3 hm x u hx
     obtain⟨st',St',r1,r2,r3,r4,r5⟩:=VR xs rs us' st1 St1 K q1 (Z8 hA h2) hv
     refine⟨st',St',r1,r2,fun b o hbo=>r3 b o (q2 b o hbo),fun x u hx=>r4 x u (hA x u hx),fun j z hj=>?_⟩
     cases j with
     | zero =>
      simp only[aV,ak,Res.val.injEq] at hj
      subst hj
      exact⟨u,rfl,(q4 u h1).mono r3 (fun _ _ _=>rfl)⟩
     | succ j=>grind
    grind
   | own ty sz ys wr =>
    exact ANb
   | agg ys =>
    exact ANb
section owns
variable {φ:Nat→Nat→Nat→Prop}
theorem tX (h:Core w0 St0 St β s a w) (hφ:VF w0 w St s.st β φ) (hno:∀ x,¬ w0.own x):∀ (xs:List AV) (rs:List Res) (us:List Value) (used:List Nat),AVRs w St s.st β xs us→Ov s.st xs rs used →
  (∀ (j:Nat) (y:AV),rs[j]?=some (.val y)→∃ u,us[j]?=some u∧RdA w St y u) →
  ∃ bs Φs,ResR w St w0.heap.size rs us bs Φs∧FpOk w St w0.heap.size bs Φs ∧
   (∀ (i b:Nat),bs[i]?=some (some b)→∃ l ob,s.st[l]?=some ob∧ob.live=true∧β l=some b∧l∉used) ∧
   ∀ (i:Nat) (Φ:Nat→Nat→Prop) (k x:Nat),Φs[i]?=some Φ→Φ k x→∃ l,l∉used∧Fp s.st β φ l x
 | [],rs,us,used,hx,ho,hv=>by
  cases rs with
  | nil =>
   simp only[AVRs] at hx
   subst hx
   exact⟨[],[],⟨rfl,rfl,rfl⟩,⟨fun i j b hi=>by simp at hi,fun i Φ k x hi=>by simp at hi,fun i i' Φ Φ' k k' x hi=>by simp at hi⟩,fun i b hi=>by simp at hi,fun i Φ k x hi=>by simp at hi⟩
  | cons r rs=>cases r<;>simp[Ov] at ho
 | x::xs,rs,us,used,hx,ho,hv=>by
  cases rs with
  | nil=>simp[Ov] at ho
  | cons r rs =>
   simp only[AVRs] at hx
   obtain⟨u,us',rfl,h1,h2⟩:=hx
   have hv':∀ (j:Nat) (y:AV),rs[j]?=some (.val y)→∃ u,us'[j]?=some u∧RdA w St y u:=fun j y hj=>by
    simpa using hv (j+1) y AOT
   have cons:∀ (used1:List Nat) (b:Option Nat) (Φ:Nat→Nat→Prop),(∀ l∈used,l∈used1)→Res1 w St w0.heap.size r u b Φ→Ov s.st xs rs used1 →
     (∀ b0,b=some b0→∃ l ob,s.st[l]?=some ob∧ob.live=true∧β l=some b0∧l∉used∧l∈used1) →
     (∀ k x,Φ k x→∃ l,l∉used∧l∈used1∧Fp s.st β φ l x∧w0.may x∧x<w.heap.size∧(∀ o,¬ St x o)∧b≠some x)→(∀ k k' x,Φ k x→Φ k' x→k=k') →
     ∃ bs Φs,ResR w St w0.heap.size (r::rs) (u::us') bs Φs∧FpOk w St w0.heap.size bs Φs∧(∀ (i b:Nat),bs[i]?=some (some b)→∃ l ob,s.st[l]?=some ob∧ob.live=true∧β l=some b∧l∉used) ∧
      ∀ (i:Nat) (Φ:Nat→Nat→Prop) (k x:Nat),Φs[i]?=some Φ→Φ k x→∃ l,l∉used∧Fp s.st β φ l x:=by
    intro used1 b Φ hu hr hrest hb hΦ hdis
    obtain⟨bs,Φs,q1,q2,q3,q4⟩:=tX h hφ hno xs rs us' used1 h2 hrest hv'
    refine⟨b::bs,Φ::Φs,⟨u,us',b,bs,Φ,Φs,rfl,rfl,rfl,hr,q1⟩,⟨fun i j b0 hi hj=>?_,fun i Ψ k x hi hk=>?_,fun i i' Ψ Ψ' k k' x hi hi' hk hk'=>?_⟩,fun i b0 hi=>?_,fun i Ψ k x hi hk=>?_⟩
    ·have hclash:∀ m b1,b=some b1→bs[m]?=some (some b1)→False:=fun m b1 hb1 hm=>by
      obtain⟨l,ob,p1,p2,p3,p4,p5⟩:=hb b1 hb1
      obtain⟨l2,ob2,k1,k2,k3,k4⟩:=q3 m b1 hm
      have:=h.inj l l2 ob ob2 b1 p1 k1 p2 k2 p3 k3
      grind
     cases i with
     | zero =>
      grind
     | succ i =>
      cases j with
      | zero =>
       grind
      | succ j=>have:=q2.nodup i j b0 AOT AOT; omega
    ·cases i with
     | zero =>
      simp only[aV,ak] at hi
      subst hi
      obtain⟨l,p1,p2,p3,p4,p5,p6,p7⟩:=hΦ k x hk
      refine⟨p4.resolve_right (hno _),p5,p6,fun j hj=>?_⟩
      cases j with
      | zero=>grind
      | succ j =>
       obtain⟨l2,ob2,k1,k2,k3,k4⟩:=q3 j x AOT
       have:=JM h hφ p3 ⟨ob2,k1,k2,.inl k3⟩
       grind
     | succ i =>
      obtain⟨g1,g2,g3,g4⟩:=q2.fresh i Ψ k x AOT hk
      refine⟨g1,g2,g3,fun j hj=>?_⟩
      cases j with
      | zero =>
       simp only[aV,ak] at hj
       obtain⟨l,ob,p1,p2,p3,p4,p5⟩:=hb x hj
       obtain⟨l2,k1,k2⟩:=q4 i Ψ k x AOT hk
       have:=JM h hφ ⟨ob,p1,p2,.inl p3⟩ k2
       grind
      | succ j=>grind
    ·have hx2:∀ (m:Nat) (Ψ:Nat→Nat→Prop) (k k' x:Nat),Φ k x→Φs[m]?=some Ψ→Ψ k' x→False:=fun m Ψ k k' x hk hm hk'=>by
      obtain⟨l,p1,p2,p3,_⟩:=hΦ k x hk
      obtain⟨l2,k1,k2⟩:=q4 m Ψ k' x hm hk'
      grind [JM]
     cases i with
     | zero =>
      simp only[aV,ak] at hi
      subst hi
      cases i' with
      | zero =>
       simp only[aV,ak] at hi'
       subst hi'
       grind
      | succ i'=>exact(hx2 i' Ψ' k k' x hk AOT hk').elim
     | succ i =>
      cases i' with
      | zero =>
       simp only[aV,ak] at hi'
       subst hi'
       exact(hx2 i Ψ k' k x hk' AOT hk).elim
      | succ i' =>
       have:=q2.dis i i' Ψ Ψ' k k' x AOT AOT hk hk'
       omega
    ·grind
    ·cases i with
     | zero =>
      simp only[aV,ak] at hi
      subst hi
      grind
     | succ i =>
      obtain⟨l,p1,p2⟩:=q4 i Ψ k x AOT hk
      grind
   cases r with
   | val y =>
    obtain⟨u2,hu2,hr⟩:=hv 0 y rfl
    simp only[aV,ak] at hu2
    subst hu2
    exact cons used none (fun _ _=>False) (fun _ h=>h) ⟨hr,rfl⟩ (by simpa only[Ov] using ho) (fun b0 h=>APh) (fun _ _ h=>h.elim) (fun _ _ _ h=>h.elim)
   | agg ys =>
    simp only[Ov] at ho
    split at ho
    ·rename_i zs
     simp only[AVR] at h1
     obtain⟨vs,rfl,hl,hc⟩:=h1
     obtain⟨used',Φ,r1,r2,r3,r4,r5,r6⟩:=nZ h hφ zs ys vs used _ hl hc ho
     refine cons used' none Φ r2 ⟨rfl,vs,rfl,AOQ,r4⟩ r1 (fun b0 h=>APh) (fun k x hx=>?_) r6
     grind [VG]
    grind
   | own ty sz ys wr =>
    simp only[Ov] at ho
    split at ho
    ·rename_i l
     split at ho
     ·rename_i ob hob
      obtain⟨rfl,rfl,rfl,hwr,hp,hnu,ho⟩:=ho
      obtain⟨hl,hlive⟩:=Bo hob
      simp only[AVR,RdC,BM,hl] at h1
      have h1':=h1.2 hlive
      cases hβ:β l with
      | none =>
       simp only[hβ] at h1'
       exact cons (l::used) none (fun _ _=>False) (fun l' hl'=>by simp[hl']) h1' ho (fun b0 h=>APh) (fun _ _ h=>h.elim) (fun _ _ _ h=>h.elim)
      | some b0 =>
       simp only[hβ] at h1'
       obtain⟨cap,cs,e1,e2,e3,e4,e5⟩:=h1'
       obtain⟨g1,g2,cs',g3,g4,g5⟩:=h.obs l ob b0 hl hlive hβ
       refine cons (l::used) (some b0) (φ l) (fun l' hl'=>by simp[hl']) ⟨g1.resolve_right (hno _),g2,g4,fun o hbo=>?_,cap,cs,e1,e2,e3,e4,e5,Zu h hφ hl hlive hβ hp e4⟩ ho (fun b1 h=>AOT) (fun k x hx=>?_) (fun k k' x hx hx'=>(hφ.2.2 l l k k' x hx hx').2)
       ·have:=h.sep l ob b0 o hl hlive hβ hbo
        grind
       ·have hf:=(hφ.2.1 l k x hx).2
        refine⟨l,hnu,AOR,⟨ob,hl,hlive,.inr ⟨k,hx⟩⟩,hf.1,hf.2.2.1,hf.2.2.2.1,fun e=>?_⟩
        cases e
        exact hf.2.2.2.2 l ob hl hlive hβ
     grind
    ·obtain⟨rfl,ho⟩:=ho
     obtain⟨hu,_⟩:=OO h1
     exact cons used none (fun _ _=>False) (fun _ h=>h) ⟨hu,rfl⟩ ho (fun b0 h=>APh) (fun _ _ h=>h.elim) (fun _ _ _ h=>h.elim)
    grind
end owns
def nR (tmps:Array Value):ResultVar→Sem Value
 | .tmp t=>pure (tmps.getD t Go.undef)
 | .cell t T=>do loadVar T (← asAddr (tmps.getD t Go.undef))
theorem UE (fn:Func) (tmps:Array Value):results fn tmps=(do
  let vs ← fn.results.mapM (nR tmps)
  pure (if h:vs.size=1 then vs[0] else .tuple vs)):=by
 unfold results
 congr 1
theorem Qu (h:Core w0 St0 St β s a w):∀ (vars:List ResultVar) (xs:List AV),N7 P s vars=some xs →
  ∃ us,AVRs w St s.st β xs us∧(vars.mapM (nR a.tmps)).run P w = .ok us w
 | [],xs,hr=>by
  simp only[N7,ak] at hr
  subst hr
  exact⟨[],by simp[AVRs],AOR⟩
 | .tmp t::vars,xs,hr=>by
  simp only[N7] at hr
  split at hr
  rotate_left
  ·cases hr
  rename_i ht
  split at hr
  ·rename_i ys hys
   simp only[ak] at hr
   subst hr
   obtain⟨us,h1,h2⟩:=Qu h vars ys hys
   refine⟨a.tmps.getD t Go.undef::us,by simp only[AVRs]; exact⟨_,_,rfl,by rw[← U7 (w0:=w0) ht]; exact h.env t,h1⟩, ?_⟩
   simp only[List.mapM_cons,nR,Sem.run_bind,Sem.run_pure,Result.andThen_ok,h2]
  ·cases hr
 | .cell t T::vars,xs,hr=>by
  simp only[N7] at hr
  split at hr
  rotate_left
  ·cases hr
  rename_i ht
  split at hr
  ·rename_i x ys hx hys
   simp only[ak] at hr
   subst hr
   obtain⟨us,h1,h2⟩:=Qu h vars ys hys
   obtain ⟨v, g1, g2⟩ := mi (P := P) h { dst := none, op := .load T (.tmp t), type := 0, pos := "", after := #[], guard := none } (by simp [Op.operands, Ak, ht]) hx
   refine⟨v::us,by simp only[AVRs]; exact⟨_,_,rfl,g2,h1⟩, ?_⟩
   have hload:(do loadVar T (← asAddr (a.tmps.getD t Go.undef)):Sem Value).run P w = .ok v w:=by
    simp only[execOp,Act.eval,Instr.loadAt,Sem.run_bind] at g1
    generalize a.tmps.getD t Go.undef=z at g1 ⊢
    cases z with
    | pointer ad =>
     cases ad with
     | none=>simp[Instr.sureAddr] at g1
     | some ad =>
      simp only[Instr.sureAddr,Sem.run_pure,Result.andThen_ok,asAddr] at g1 ⊢
      simp only[Sem.run_bind,Sem.run_pure,Result.andThen_ok]
      generalize (loadVar T ad).run P w=r at g1 ⊢
      cases r with
      | ok v2 w2=>simp_all
      | halt hh w2=>simp at g1
    | _=>simp[Instr.sureAddr] at g1
   have hload':(nR a.tmps (.cell t T)).run P w = .ok v w:=hload
   simp_all
  ·cases hr
theorem Yo {w0:World} {fn:Func} {rs:List Res} (hs:Sim ⟨w0,fun _=>False,fun _=>Go.undef⟩ St0 s a w) (hp:Post P fn.results.toList rs s):∃ us bs St',(results fn a.tmps).run P w = .ok (Wi us) w∧a.defers = []∧Back w0 St0 rs (.returned (Wi us)) w us bs St':=by
 obtain⟨St,β,h⟩:=hs
 unfold Post at hp
 split at hp
 ·rename_i xs hxs
  obtain⟨us,h1,h2⟩:=Qu h fn.results.toList xs hxs
  obtain⟨st',St',r1,r2,r3,r4,r5⟩:=VR xs rs us s.st St _ h h1 hp
  obtain⟨φ,hφ⟩:=r2.own
  obtain⟨bs,Φs,o1,o2,_⟩:=tX r2 hφ (fun _ h=>h) xs rs us [] (Z8 r4 h1) r1 r5
  refine⟨us,bs,St', ?_,h.defers,⟨rfl,h.below.plain,fun b o hbo=>r3 b o (h.st0 b o hbo),fun b o hbo hlt=>r2.stOld b o hbo hlt (fun h=>h),r2.stIn,Φs,o1,o2⟩⟩
  rw[UE,Sem.run_bind,abp,Sem.run_map,h2]
  simp only[Result.andThen_ok,Sem.run_pure]
  congr 1
  match us with
  | []=>rfl
  | [u]=>rfl
  | u::u2::us=>simp[Wi]
 grind
def NP:List AV→Nat→List (Nat×AV)
 | [],_=>[]
 | x::xs,k=>(k,x)::NP xs (k+1)
theorem Pg:∀ (xs:List AV) (k i:Nat),Bi (NP xs k) i=if k≤i then xs.getD (i-k) .un else .un
 | [],k,i=>by simp[NP,Bi]
 | x::xs,k,i=>by
  simp only[NP,Bi,Pg xs (k+1) i]
  grind
theorem Yp {w:World} {St:Nat→Nat→Prop}:∀ {xs:List AV} {us:List Value},RdAs w St xs us→us.length=xs.length∧∀ (j:Nat) (x:AV),xs[j]?=some x→∃ u,us[j]?=some u∧RdA w St x u
 | [],us,h=>by simp only[RdAs] at h; grind
 | x::xs,us,h=>by
  obtain⟨y,ys,rfl,h1,h2⟩:=h
  obtain⟨q1,q2⟩:=Yp h2
  grind
def AFQ (P:Program) (vars:List ResultVar) (rs:List Res) (e:Ex) (s:MS):Prop:=match e with
 | .exit _=>False
 | _=>Post P vars rs s
theorem Ctr.mk {f:FuncId} {fn:Func} {c:Code} {args:List AV} {rs:List Res} (hin:CallsIn P f) (hf:P.funcs[f]?=some fn) (hb:fn.body=some c) (hm:P.follows .mixedOrders=true) {n:Nat} (hn:fn.ntmps=n) {vars:Array ResultVar} (hvars:fn.results=vars) (hc:codeOk n c=true) (hlen0:(Nat.ble args.length n&&Nat.ble n 1000000)=true)
  (h:ABP args→vp P c ⟨n,NP args 0,[]⟩ (AFQ P vars.toList rs)):Ctr P f args rs:=by
 subst hn
 subst hvars
 obtain⟨hlen0,hlim0⟩:=Bool.and_eq_true_iff.1 hlen0
 have hlim:fn.ntmps≤1000000:=aaS hlim0
 have hlen:args.length≤fn.ntmps:=aaS hlen0
 refine⟨hin,fun w St vs hSt hrd=>?_⟩
 obtain⟨hvl,hva⟩:=Yp hrd
 refine calls_of_wp hf hb (wp_mono (zy (w0:=⟨w,fun _=>False,fun _=>Go.undef⟩) (St0:=St) hm fn.ntmps c hc ⟨fn.ntmps,NP args 0,[]⟩ _ { tmps:=vs.toArray++Array.replicate (fn.ntmps-vs.toArray.size) Go.undef,defers:=[] } w rfl (h hrd.wf) ⟨St,fun _=>none, ?_⟩) ?_)
 ·exact AG5
 ·rintro e a' w' ⟨ex,s',rfl,hq,_,hs'⟩
  cases ex with
  | exit i=>exact hq.elim
  | normal =>
   obtain⟨us,bs,St',p1,p2,p3⟩:=Yo hs' hq
   exact⟨p2,_,p1,us,bs,St',p3⟩
  | ret =>
   obtain⟨us,bs,St',p1,p2,p3⟩:=Yo hs' hq
   exact⟨p2,_,p1,us,bs,St',p3⟩
def EndH (P:Program) (vars:List ResultVar) (rs:List Res) (e:Ex) (s:MS):Prop:=match e with
 | .exit _=>False
 | _=>∃ t,Head s t∧Post P vars rs t
theorem AC2 {f:FuncId} {fn:Func} {c:Code} {args:List AV} {rs:List Res} (hin:CallsIn P f) (hf:P.funcs[f]?=some fn) (hb:fn.body=some c) (hm:P.follows .mixedOrders=true) {n:Nat} (hn:fn.ntmps=n) {vars:Array ResultVar} (hvars:fn.results=vars) (hc:codeOk n c=true) (hlen0:(Nat.ble args.length n&&Nat.ble n 1000000)=true)
  (h:ABP args→vp P c ⟨n,NP args 0,[]⟩ (EndH P vars.toList rs)):Ctr P f args rs:=by
 subst hn
 subst hvars
 obtain⟨hlen0,hlim0⟩:=Bool.and_eq_true_iff.1 hlen0
 have hlim:fn.ntmps≤1000000:=aaS hlim0
 have hlen:args.length≤fn.ntmps:=aaS hlen0
 refine⟨hin,fun w St vs hSt hrd=>?_⟩
 obtain⟨hvl,hva⟩:=Yp hrd
 refine calls_of_wp hf hb (wp_mono (zy (w0:=⟨w,fun _=>False,fun _=>Go.undef⟩) (St0:=St) hm fn.ntmps c hc ⟨fn.ntmps,NP args 0,[]⟩ _ { tmps:=vs.toArray++Array.replicate (fn.ntmps-vs.toArray.size) Go.undef,defers:=[] } w rfl (h hrd.wf) ⟨St,fun _=>none, ?_⟩) ?_)
 ·exact AG5
 ·rintro e a' w' ⟨ex,s',rfl,hq,_,hs'⟩
  cases ex with
  | exit i=>exact hq.elim
  | normal =>
   exact ALw
  | ret =>
   exact ALw
theorem Core.tell (h:Core w0 St0 St β s a w) (i:Nat) {x:AV} (hx:AVR w St s.st β x (nm w0 a i)):Core w0 St0 St β ⟨s.n,(i,x)::s.env,s.st⟩ a w:=
 have he:∀ j,AVR w St s.st β (Bi ((i,x)::s.env) j) (nm w0 a j):=fun j=>by
  simp only[Bi]
  by_cases e:i=j
  ·grind
  ·simpa [e] using h.env j
 { h with env:=he }
theorem z_ {St':Nat→Nat→Prop}:∀ {xs:List AV} {us:List Value},xs.all isV=true→RdAs w St xs us→RdAs w St' xs us
 | [],us,_,h=>h
 | x::xs,us,hx,h=>by
  simp only[bi,ay] at hx
  obtain⟨y,ys,h1,h2,h3⟩:=h
  refine⟨y,ys,h1, ?_,z_ hx.2 h3⟩
  cases x with
  | c c =>
   cases c with
   | v v=>exact h2
   | _=>simp[isV] at hx
  | _=>simp[isV] at hx
theorem ADb {g:Bool} {zs:List Cl} {us:List Value} {st:List Ob} (hg:g=true∨zs.length=1) (hg2:g=true∨us.length=1) (h:AVR w St st β (mkA g zs) (mkV g us)) :
  us.length=zs.length∧∀ (k:Nat) (c:Cl),zs[k]?=some c→∃ y,us[k]?=some y∧RdC w St st β c y:=by
 cases g with
 | true =>
  simp only[mkA,bf,AVR,mkV] at h
  grind
 | false =>
  have hz:zs.length=1:=by simpa using hg
  have hu:us.length=1:=by simpa using hg2
  match zs,us,hz,hu with
  | [z],[u],_,_ =>
   simp only[mkA,mkV,aB,aX,AVR,List.headD_cons] at h
   grind
theorem AHJ {g:Bool} {zs:List Cl} {us:List Value} {st:List Ob} (hl:us.length=zs.length) (hg:g=true∨zs.length=1) (h:∀ (k:Nat) (c:Cl),zs[k]?=some c→∃ y,us[k]?=some y∧RdC w St st β c y):AVR w St st β (mkA g zs) (mkV g us):=by
 cases g with
 | true =>
  simp only[mkA,bf,AVR,mkV]
  grind
 | false =>
  have hz:zs.length=1:=by simpa using hg
  match zs,us,hz,hl with
  | [z],[u],_,_ =>
   simp only[mkA,mkV,aB,aX,AVR,List.headD_cons]
   grind [aV,ak]
def AAA (P:Program) (vars:List ResultVar) (g:Bool) (us:List Value) (Q:List Cl→List AV→Prop) (s:MS):Prop:=
 ∃ zs cl' rs,Bi s.env 0 = .pin (mkA g zs) (mkV g us)∧(g=true∨zs.length=1)∧OwnL s.st zs cl' [] (fun _=>True)∧Fj cl'=true∧rs.all isV=true∧N7 P s vars=some rs∧Q cl' rs
def AHK (P:Program) (vars:List ResultVar) (g:Bool) (us:List Value) (Q:List Cl→List AV→Prop) (e:Ex) (s:MS):Prop:=match e with
 | .exit _=>False
 | _=>AAA P vars g us Q s
theorem tY {w0:World} {fn:Func} {g:Bool} {us:List Value} {Q:List Cl→List AV→Prop} {G:Nat→Nat→Prop} (hg:g=true∨us.length=1) (hs:Sim ⟨w0,fun x=>∃ k,G k x,fun _=>Go.undef⟩ St0 s a w) (hp:AAA P fn.results.toList g us Q s) :
  ∃ cl' rs rv,Q cl' rs∧(results fn a.tmps).run P w = .ok (Wi rv) w∧a.defers = []∧∃ G',Below 0 w0 w∧(∀ k,k<w0.heap.size→(∀ j,¬ G j k)→w.heap[k]?=w0.heap[k]?)∧(∀ k,k<w0.heap.size→wG w k=wG w0 k)∧RdAs w St0 rs rv∧RdL2 w St0 cl' us G'∧∀ k x,G' k x→(∃ j,G j x)∨(w0.heap.size≤x∧x<w.heap.size):=by
 obtain⟨St,β,h⟩:=hs
 obtain⟨zs,cl',rs,e0,hg2,ho,hclo,hrs,hret,hQ⟩:=hp
 have he:=h.env 0
 rw[U7 AOU] at he
 rw[e0] at he
 simp only[AVR] at he
 obtain⟨he1,he2⟩:=he
 rw[he1] at he2
 obtain⟨hul,hur⟩:=ADb hg2 hg he2
 obtain⟨φ,hφ⟩:=h.own
 have hrd:=AAG h hφ ho hul hur
 obtain⟨rv,h1,h2⟩:=Qu h fn.results.toList rs hret
 refine⟨cl',rs,rv,hQ, ?_,h.defers,_,h.below.rest,fun k hk hno=>h.below.blk k hk fun⟨j,hj⟩=>hno j hj,h.below.siz,z_ hrs (zn hrs h1),⟨hrd.len,hrd.dis,fun k c hk=>?_⟩, ?_⟩
 ·rw[UE,Sem.run_bind,abp,Sem.run_map,h2]
  exact AMv
 ·obtain⟨y,hy,hr⟩:=hrd.rd k c hk
  grind [RdO.clo,Ql,bC]
 ·rintro k x ⟨l,q1,q2⟩
  obtain⟨_,ob,p1,p2,_⟩:=N9 zs cl' [] _ ho k l q1
  obtain⟨r1,r2,r3⟩:=VG h hφ q2 fun ob' hob'=>by
   grind [Bo]
  rcases r1 with r1 | ⟨j,hj⟩
  ·exact .inr ⟨r1,r2⟩
  grind
theorem ACT {f:FuncId} {fn:Func} {c:Code} {g:Bool} {cl:List Cl} {args:List AV} {Q:List Cl→List AV→Prop} (hin:CallsIn P f) (hf:P.funcs[f]?=some fn) (hb:fn.body=some c) (hm:P.follows .mixedOrders=true) {n:Nat} (hn:fn.ntmps=n) {vars:Array ResultVar} (hvars:fn.results=vars) (hc:codeOk n c=true) (hlen0:(Nat.ble (args.length+1) n&&Nat.ble n 1000000)=true)
  (hg:g=true∨cl.length=1)
  (h:∀ us:List Value,WZ cl→ABP args→vp P c ⟨n,(0,.pin (mkA g (Jb 0 cl)) (mkV g us))::NP args 1,He cl⟩ (AHK P vars.toList g us Q)):MCtr P f g cl args Q:=by
 subst hn
 subst hvars
 obtain⟨hlen0,hlim0⟩:=Bool.and_eq_true_iff.1 hlen0
 have hlim:fn.ntmps≤1000000:=aaS hlim0
 have hlen:args.length+1≤fn.ntmps:=aaS hlen0
 refine⟨hin,hg,fun w St us G vs hSt hG hrd hvs=>?_⟩
 obtain⟨hvl,hva⟩:=Yp hvs
 have hcore0:Core ⟨w,fun x=>∃ k,G k x,fun _=>Go.undef⟩ St St (fun _=>none) ⟨fn.ntmps,NP (.un::args) 0,[]⟩ { tmps:=(mkV g us::vs).toArray++Array.replicate (fn.ntmps-(mkV g us::vs).toArray.size) Go.undef,defers:=[] } w:={
  defers:=rfl
  size:=AOS
  lim:=hlim
  env:=fun i=>by
   rw[xX AOS rfl]
   simp only[Pg,aA,bf,abd]
   cases i with
   | zero=>simp only[List.getD_cons_zero,AVR]
   | succ i =>
    simp only[List.getD_cons_succ]
    rcases bV i args.length with hi | hi
    ·obtain⟨u,hu,hr⟩:=hva i args[i] AP1
     have e1:args.getD i .un=args[i]:=AP1
     have e2:((mkV g us::vs).toArray++Array.replicate (fn.ntmps-(mkV g us::vs).toArray.size) Go.undef).getD (i+1) Go.undef=u:=by
      have hiv:i<vs.length:=AOQ
      simp only[aa7]
      rw[aax AOT]
      simp[hu]
     rw[e1,e2]
     exact hr.toAVR
    ·have e1:args.getD i .un = .un:=by simp[hi]
     rw[e1]
     simp only[AVR]
  below:=BelowB.refl _ _
  st0:=fun _ _ h=>h
  stOld:=fun _ _ h _ _=>h
  stIn:=hSt
  obs:=fun l ob b hl=>APr
  nil:=fun l ob hl=>APr
  inj:=fun l l' ob ob' b hl=>APr
  sep:=fun l ob b o hl=>APr
  own:=⟨fun _ _ _=>False,fun l ob b k c hl=>APr,fun _ _ _ h=>h.elim,fun _ _ _ _ _ h=>h.elim⟩ }
 have hN:Own ⟨w,fun x=>∃ k,G k x,fun _=>Go.undef⟩ (fun x=>∃ k,G k x) w St [] (fun _=>none):=⟨fun _ _ _=>False,fun l ob b k c hl=>APr,fun _ _ _ h=>h.elim,fun _ _ _ _ _ h=>h.elim⟩
 obtain⟨β',q1,q2,q3,q4,q5,q6⟩:=VE (s:=⟨fn.ntmps,NP (.un::args) 0,[]⟩) cl us G [] (fun _=>none) _ hcore0 hN hrd.len hrd.rd (fun k x hx=>⟨⟨k,hx⟩,.inr ⟨k,hx⟩,(hG k x hx).1,(hG k x hx).2,fun l o2 hl=>APr⟩) hrd.dis
 simp only[aO,aW] at q1 q3 q4
 have hgu:g=true∨us.length=1:=by rw[hrd.len]; exact hg
 have hval:=AHJ (g:=g) (by rw[q4]; exact hrd.len) AOT q3
 have hcore1:=q1.tell 0 (x:=.pin (mkA g (Jb 0 cl)) (mkV g us)) (by
  have:((mkV g us::vs).toArray++Array.replicate (fn.ntmps-(mkV g us::vs).toArray.size) Go.undef).getD 0 Go.undef=mkV g us:=by
   simp only[aa7]
   rw[aax AOR]
   simp
  simp only[AVR]
  rw[U7 AOU,this]
  exact⟨by first | trivial | rfl,hval⟩)
 have hcore2:=hcore1.congr (s':=⟨fn.ntmps,(0,.pin (mkA g (Jb 0 cl)) (mkV g us))::NP args 1,He cl⟩) rfl rfl (fun t=>by
  simp only[Bi,NP]
  grind)
 have hwf:WZ cl:=Zq cl fun k c hk=>by
  obtain⟨y,_,hr⟩:=hrd.rd k c hk
  exact RdO.wf c y _ hr
 refine calls_of_wp hf hb (wp_mono (zy (w0:=⟨w,fun x=>∃ k,G k x,fun _=>Go.undef⟩) (St0:=St) hm fn.ntmps c hc _ _ _ w rfl (h us hwf hvs.wf) ⟨St,β',hcore2⟩) ?_)
 rintro e a' w' ⟨ex,s',rfl,hq,_,hs'⟩
 cases ex with
 | exit i=>exact hq.elim
 | normal =>
  exact ANf
 | ret =>
  exact ANf
def Ws:List AV→Nat→List (Nat×AV)→List (Nat×AV)
 | [],_,e=>e
 | x::xs,k,e=>(k,x)::Ws xs (k+1) e
def yB:List (Nat×AV)→List (Nat×AV)
 | []=>[]
 | (k,x)::r=>(k+1000000,x)::yB r
def unE:List (Nat×AV)→List (Nat×AV)
 | []=>[]
 | (k,x)::r=>if k<1000000 then unE r else(k-1000000,x)::unE r
theorem Eg:∀ e,unE (yB e)=e
 | []=>rfl
 | (k,x)::r=>by simp[yB,unE,Eg r]
theorem tZ:∀ (e:List (Nat×AV)) (i:Nat),Bi (yB e) i=if i<1000000 then .un else Bi e (i-1000000)
 | [],i=>by simp[yB,Bi]
 | (k,x)::r,i=>by
  simp only[yB,Bi,tZ r i]
  by_cases h:i<1000000
  ·have:¬ k+1000000=i:=by omega
   simp only[h,this,bf,aX]
  ·by_cases e:k+1000000=i
   ·have:k=i-1000000:=by omega
    simp only[h,e,← this,bf,aX]
   ·have:¬ k=i-1000000:=by omega
    simp only[h,e,this,aX]
theorem Z9:∀ (e:List (Nat×AV)) (i:Nat),Bi (unE e) i=Bi e (i+1000000)
 | [],i=>rfl
 | (k,x)::r,i=>by
  simp only[unE,Bi]
  by_cases h:k<1000000
  ·rw[bF h,bz AOQ]
   exact Z9 r i
  ·rw[bz h]
   simp only[Bi]
   by_cases e:k=i+1000000
   ·rw[bF AOQ,bF e]
   ·rw[bz AOQ,bz e]
    exact Z9 r i
theorem jl:∀ (xs:List AV) (k:Nat) (e:List (Nat×AV)) (i:Nat),Bi (Ws xs k e) i=if k≤i∧i<k+xs.length then xs.getD (i-k) .un else Bi e i
 | [],k,e,i=>by
  have:¬ (k≤i∧i<k+([]:List AV).length):=AOR
  simp only[Ws,this,aX]
 | x::xs,k,e,i=>by
  simp only[Ws,Bi,jl xs (k+1) e i,aI]
  by_cases h:k=i
  ·subst h; simp
  ·by_cases h2:k+1≤i∧i<k+1+xs.length
   ·have e1:k≤i∧i<k+(xs.length+1):=by omega
    simp only[h,h2,e1,aX,and_self,bf]
    rw[show i-k=(i-(k+1))+1 from AOQ,List.getD_cons_succ]
   ·have e1:¬ (k≤i∧i<k+(xs.length+1)):=by omega
    simp only[h,h2,e1,aX]
def Lp (P:Program) (vars:List ResultVar) (m:Nat) (KK:AV→MS→Prop) (e:Ex) (t:MS):Prop:=match e with
 | .exit _=>False
 | _=>match N7 P t vars with
  | some xs=>KK (retA xs) ⟨m,unE t.env,t.st⟩
  | none=>False
def AHL (dst:Option Nat) (K:MS→Prop) (x:AV) (t:MS):Prop:=K (t.put dst x)
def AJF (st:List Ob) (env:List (Nat×AV)) (r x:AV) (t:MS):Prop:=t.st=st∧t.env=env∧x=r
theorem tq:∀ {xs:List AV} {us:List Value},AVRs w St s.st β xs us→us.length=xs.length
 | [],us,h=>by simp only[AVRs] at h; subst h; rfl
 | x::xs,us,h=>by
  simp only[AVRs] at h
  obtain⟨y,ys,rfl,_,h2⟩:=h
  simp[tq h2]
theorem SS {f:FuncId} {fn:Func} {c:Code} {args:List AV} {KK:AV→MS→Prop} (hf:P.funcs[f]?=some fn) (hb:fn.body=some c) (hm:P.follows .mixedOrders=true) {n:Nat} (hn:fn.ntmps=n) {vars:Array ResultVar} (hvars:fn.results=vars) (hc:codeOk n c=true)
  (hlen0:(Nat.ble args.length n&&Nat.ble n 1000000)=true) (h:∃ st1,Head ⟨n,Ws args 0 (yB s.env),s.st⟩ ⟨n,Ws args 0 (yB s.env),st1⟩∧vp P c ⟨n,Ws args 0 (yB s.env),st1⟩ (Lp P vars.toList s.n KK)) {us:List Value} (hcore:Core w0 St0 St β s a w) (hargs:AVRs w St s.st β args us) :
  Calls P f us.toArray w fun e w'=>∃ u,e = .returned u∧∃ (t:MS) (x:AV),t.n=s.n∧KK x t∧∃ St' β',Core w0 St0 St' β' t a w'∧AVR w' St' t.st β' x u:=by
 subst hn
 subst hvars
 obtain⟨hlen0,hlim0⟩:=Bool.and_eq_true_iff.1 hlen0
 have hlim:fn.ntmps≤1000000:=aaS hlim0
 have hlen:args.length≤fn.ntmps:=aaS hlen0
 have hul:=tq hargs
 have hua:=mf hargs
 have hcore2:Core ⟨w0.w,w0.own,nm w0 a⟩ St0 St β ⟨fn.ntmps,Ws args 0 (yB s.env),s.st⟩ { tmps:=us.toArray++Array.replicate (fn.ntmps-us.toArray.size) Go.undef,defers:=[] } w:={
  defers:=rfl
  size:=AOS
  lim:=hlim
  env:=fun i=>by
   rw[jl,tZ]
   by_cases hi:i<args.length
   ·obtain⟨u,hu,hr⟩:=hua i args[i] AP1
    have e1:args.getD (i-0) .un=args[i]:=AP1
    have e2:(us.toArray++Array.replicate (fn.ntmps-us.toArray.size) Go.undef).getD i Go.undef=u:=by
     have hiv:i<us.length:=AOQ
     simp only[aa7]
     rw[aax (by simpa using hiv)]
     simp[hu]
    rw[bF ⟨aA _,AOQ⟩,U7 AOQ,e1,e2]
    exact hr
   ·rw[bz AOQ]
    by_cases h2:i<1000000
    ·rw[bF h2]; simp only[AVR]
    ·rw[bz h2]
     rw[AGH h2]
     generalize i-1000000=j
     exact hcore.env j
  below:=⟨hcore.below.rest,hcore.below.blk,hcore.below.siz⟩
  st0:=hcore.st0
  stOld:=hcore.stOld
  stIn:=hcore.stIn
  obs:=hcore.obs
  nil:=hcore.nil
  inj:=hcore.inj
  sep:=hcore.sep
  own:=hcore.own }
 obtain⟨st1,hh,h⟩:=h
 obtain⟨St2,β2,hcore3⟩:=hh.2 _ _ _ _ _ _ hcore2
 refine calls_of_wp hf hb (wp_mono (zy (w0:=⟨w0.w,w0.own,nm w0 a⟩) (St0:=St0) hm fn.ntmps c hc _ _ _ w rfl h ⟨St2,β2,hcore3⟩) ?_)
 rintro e a' w' ⟨ex,s',rfl,hq,_,St1,β1,h1⟩
 have key:∀ xs,N7 P s' fn.results.toList=some xs→KK (retA xs) ⟨s.n,unE s'.env,s'.st⟩→∃ v,(results fn a'.tmps).run P w' = .ok v w'∧∃ (t:MS) (x:AV),t.n=s.n∧KK x t∧∃ St' β',Core w0 St0 St' β' t a w'∧AVR w' St' t.st β' x v:=fun xs hxs hK=>by
  obtain⟨rv,g1,g2⟩:=Qu h1 fn.results.toList xs hxs
  refine⟨Wi rv, ?_,⟨s.n,unE s'.env,s'.st⟩,retA xs,rfl,hK,St1,β1, ?_,Ky g1⟩
  ·rw[UE,Sem.run_bind,abp,Sem.run_map,g2]
   exact AMv
  ·exact {
    defers:=hcore.defers
    size:=hcore.size
    lim:=hcore.lim
    env:=fun i=>by
     have:=h1.env (i+1000000)
     rw[← Z9] at this
     have e:nm ⟨w0.w,w0.own,nm w0 a⟩ a' (i+1000000)=nm w0 a i:=by
      rw[AGH AOQ,Nat.add_sub_cancel]
     rwa [e] at this
    below:=⟨h1.below.rest,h1.below.blk,h1.below.siz⟩
    st0:=h1.st0
    stOld:=h1.stOld
    stIn:=h1.stIn
    obs:=h1.obs
    nil:=h1.nil
    inj:=h1.inj
    sep:=h1.sep
    own:=h1.own }
 have fin:∀ ex,Lp P fn.results.toList s.n KK ex s'→∃ xs,N7 P s' fn.results.toList=some xs∧KK (retA xs) ⟨s.n,unE s'.env,s'.st⟩:=fun ex hq=>by
  cases ex with
  | exit i=>exact hq.elim
  | normal =>
   exact AOF
  | ret =>
   exact AOF
 obtain⟨xs,hxs,hK⟩:=fin ex hq
 obtain⟨v,k1,k2⟩:=key xs hxs hK
 cases ex with
 | exit i=>exact hq.elim
 | normal=>exact⟨h1.defers,_,k1,v,rfl,k2⟩
 | ret=>exact⟨h1.defers,_,k1,v,rfl,k2⟩
theorem ACO {f:FuncId} {fn:Func} {c:Code} {args:List AV} {dst:Option Nat} {K:MS→Prop} {A B C:Prop} (hin:CallsIn P f) (hf:P.funcs[f]?=some fn) (hb:fn.body=some c) (hm:P.follows .mixedOrders=true) {n:Nat} (hn:fn.ntmps=n) {vars:Array ResultVar} (hvars:fn.results=vars) (hc:codeOk n c=true)
  (hlen0:(Nat.ble args.length n&&Nat.ble n 1000000)=true) (h:vp P c ⟨n,Ws args 0 (yB s.env),s.st⟩ (Lp P vars.toList s.n (AHL dst K))):NM A (NM B (NM C (InlK P f s args dst K))):=
 .inr (.inr (.inr ⟨hin,fun w0 St0 St β a w us hcore hargs=>SS hf hb hm hn hvars hc hlen0 ⟨_,⟨rfl,fun _ _ _ _ _ _ h=>⟨_,_,h⟩⟩,h⟩ hcore hargs⟩))
theorem ACR {f:FuncId} {fn:Func} {c:Code} {args:List AV} {st st':List Ob} {y:AV} (hin:CallsIn P f) (hf:P.funcs[f]?=some fn) (hb:fn.body=some c) (hm:P.follows .mixedOrders=true) {n:Nat} (hn:fn.ntmps=n) {vars:Array ResultVar} (hvars:fn.results=vars) (hc:codeOk n c=true)
  (hlen0:(Nat.ble args.length n&&Nat.ble n 1000000)=true) (h:∀ (m:Nat) (env:List (Nat×AV)),vp P c ⟨n,Ws args 0 (yB env),st⟩ (Lp P vars.toList m (AJF st' env y))):InlS P f st args y st':=
 ⟨hin,fun w0 St0 St β s a w us hst hcore hargs=>by
  subst hst
  refine(SS hf hb hm hn hvars hc hlen0 ⟨_,⟨rfl,fun _ _ _ _ _ _ h=>⟨_,_,h⟩⟩,h s.n s.env⟩ hcore hargs).mono fun e w' hx=>?_
  obtain⟨u,e1,t,x,q1,⟨q2,q3,rfl⟩,St',β',q4,q5⟩:=hx
  subst q2
  have:t=⟨s.n,s.env,t.st⟩:=by rw[← q1,← q3]
  rw[this] at q4
  exact⟨u,e1,St',β',q4,q5⟩⟩
def AFR (P:Program) (y:Code) (Q:Ex→MS→Prop):Ex→MS→Prop:=AJB (vp P y) Q
def cndC (P:Program) (x y:Code) (s:MS) (Q:Ex→MS→Prop) (b:Bool):Prop:=cndM (vp P x) (vp P y) s Q b
def AJG (P:Program) (x:Code) (Q:Ex→MS→Prop) (s:MS) (K:MS→Prop):Prop:=AJC (vp P x) Q s K
section
variable {P:Program} {s:MS} {Q:Ex→MS→Prop} {x y:Code} {K:MS→Prop}
@[go_sem] theorem AKB {σ:List Nat} {e1 e2:Nat} {l:List Oper}:IM σ e1 e2 l=nX σ e1 e2 l σ:=rfl
@[go_sem] theorem AJH {σ:List Nat} {e1 e2:Nat} {l:List Oper}:nX σ e1 e2 l [] = []:=rfl
@[go_sem] theorem AIJ {σ:List Nat} {e1 e2 i:Nat} {l:List Oper} {is:List Nat}:nX σ e1 e2 l (i::is)=AAF σ e1 e2 i l[i]? (nX σ e1 e2 l is):=rfl
@[go_sem] theorem AHM {σ:List Nat} {e1 e2 i:Nat} {d:Option Nat} {o:Op} {ty:TypeId} {ps:String} {af:Array Edge} {g:Option (Nat×Bool)} {r:List Oper} :
  AAF σ e1 e2 i (some ⟨d,o,ty,ps,af,g⟩) r=⟨d,o,ty,ps,(uD σ (ADm e1 e2 i af.toList)).toArray,rnG σ g⟩::r:=rfl
@[go_sem] theorem AJI {σ:List Nat}:uD σ [] = []:=rfl
@[go_sem] theorem AIK {σ:List Nat} {i:Nat} {g:Ground} {es:List Edge}:uD σ (⟨i,g⟩::es)=⟨Lr σ i,g⟩::uD σ es:=rfl
@[go_sem] theorem AJJ {σ:List Nat}:rnG σ none=none:=rfl
@[go_sem] theorem AJK {σ:List Nat} {j:Nat} {b:Bool}:rnG σ (some (j,b))=some (Lr σ j,b):=rfl
@[go_sem] theorem AJL {i:Nat}:Lr [] i=0:=rfl
@[go_sem] theorem AIL {x i:Nat} {xs:List Nat}:Lr (x::xs) i=if x=i then 0 else Lr xs i+1:=by
 simp only[Lr]
 grind [Nat.eq_of_beq_eq_true,abt]
@[go_sem] theorem AKC {e1 e2 i:Nat} {l:List Edge}:ADm e1 e2 i l=if i=e2 then⟨e1,.data⟩::l else l:=by
 simp only[ADm]
 grind [Nat.eq_of_beq_eq_true,abt]
@[go_sem] theorem AKD:vp P .skip s Q=Q .normal s:=rfl
@[go_sem] theorem AKj {id:Nat} {ops:Array Oper}:vp P (.region id ops false) s Q=vpR P ops (Q .normal) s:=rfl
@[go_sem] theorem AKE {id:Nat} {ops:Array Oper}:vp P (.region id ops true) s Q=DrawK P ops s (Q .normal):=rfl
@[go_sem] theorem AKk:vp P (.seq x y) s Q=vp P x s (AFR P y Q):=rfl
@[go_sem] theorem AKF {c:Operand}:vp P (.cond c x y) s Q=AAE (Ei s c) (cndC P x y s Q):=rfl
@[go_sem] theorem AJM {id:Nat}:vp P (.block id x) s Q=vp P x s (ABa id Q):=rfl
@[go_sem] theorem AKG:vp P (.loop x) s Q=LoopK s (AJG P x Q):=rfl
@[go_sem] theorem AKH {id:Nat}:vp P (.exit id) s Q=Q (.exit id) s:=rfl
@[go_sem] theorem AJN:vp P (.scope x) s Q=vp P x s Q:=rfl
@[go_sem] theorem AKl:vp P .ret s Q=Q .ret s:=rfl
@[go_sem] theorem AGM:AFR P y Q .normal s=vp P y s Q:=rfl
@[go_sem] theorem AIM {i:Nat}:AFR P y Q (.exit i) s=Q (.exit i) s:=rfl
@[go_sem] theorem AJO:AFR P y Q .ret s=Q .ret s:=rfl
@[go_sem] theorem AIN:cndC P x y s Q true=vp P x s Q:=ABb
@[go_sem] theorem AHN:cndC P x y s Q false=vp P y s Q:=xw
theorem ABG {b:Bool} (h1:b=true→vp P x s Q) (h2:b=false→vp P y s Q):cndC P x y s Q b:=cndM.mk h1 h2
@[go_sem] theorem AGN {id:Nat}:ABa id Q .normal s=Q .normal s:=rfl
@[go_sem] theorem AIO {id i:Nat}:ABa id Q (.exit i) s=if i=id then Q .normal s else Q (.exit i) s:=rfl
@[go_sem] theorem AJP {id:Nat}:ABa id Q .ret s=Q .ret s:=rfl
@[go_sem] theorem AKI:AJG P x Q s K=vp P x s (ADX K Q):=rfl
@[go_sem] theorem AGO:ADX K Q .normal s=K s:=rfl
@[go_sem] theorem AIP {i:Nat}:ADX K Q (.exit i) s=Q (.exit i) s:=rfl
@[go_sem] theorem AJQ:ADX K Q .ret s=Q .ret s:=rfl
@[go_sem] theorem AKJ {ops:Array Oper}:vpO P ops K [] s=K s:=rfl
@[go_sem] theorem AJR {ops:Array Oper} {o:Oper} {rest:List Oper}:vpO P ops K (o::rest) s=TQ (nU ops s.env o.guard) (gO P o (vpO P ops K rest) s):=rfl
@[go_sem] theorem AKK {ops:Array Oper}:vpD P ops K [] s=K s:=rfl
@[go_sem] theorem AJS {ops:Array Oper} {o:Oper} {rest:List Oper}:vpD P ops K (o::rest) s=TQ (nU ops s.env o.guard) (gD P o (vpD P ops K rest) s):=rfl
@[go_sem] theorem AKL {d:Option Nat} {v:AV} {st':List Ob}:ADQ s d K v st'=K (MS.put ⟨s.n,s.env,st'⟩ d v):=rfl
@[go_sem] theorem AJT {d:Option Nat} {v:AV}:uB s d K v=K (s.put d v):=rfl
@[go_sem] theorem AKM {d:Option Nat} {st1:List Ob} {rs:List Res}:ABX s d K st1 rs=K (MS.put ⟨s.n,s.env,(Ir st1 rs).2⟩ d (retA (Ir st1 rs).1)):=rfl
@[go_sem] theorem AIQ {f:FuncId} {d:Option Nat} {args:List AV} {st1:List Ob}:xq P f s d K args st1=CallK P f args (ABX s d K st1):=rfl
@[go_sem] theorem AGP {vars:List ResultVar} {rs:List Res}:AFQ P vars rs .normal s=Post P vars rs s:=rfl
theorem AEL {vars:List ResultVar} {rs:List Res} {t:MS} (h:Head s t) (hp:Post P vars rs t):EndH P vars rs .ret s:=⟨t,h,hp⟩
@[go_sem] theorem AJU {vars:List ResultVar} {rs:List Res}:AFQ P vars rs .ret s=Post P vars rs s:=rfl
def ADc (x:Option (List AV)) (m:Nat) (KK:AV→MS→Prop) (t:MS):Prop:=match x with
 | some xs=>KK (retA xs) ⟨m,unE t.env,t.st⟩
 | none=>False
@[go_sem] theorem AHO {vars:List ResultVar} {m:Nat} {KK:AV→MS→Prop} {t:MS}:Lp P vars m KK .ret t=ADc (N7 P t vars) m KK t:=by unfold Lp ADc; rfl
@[go_sem] theorem AEV {vars:List ResultVar} {m:Nat} {KK:AV→MS→Prop} {t:MS}:Lp P vars m KK .normal t=ADc (N7 P t vars) m KK t:=by unfold Lp ADc; rfl
@[go_sem] theorem AIR {xs:List AV} {m:Nat} {KK:AV→MS→Prop} {t:MS}:ADc (some xs) m KK t=KK (retA xs) ⟨m,unE t.env,t.st⟩:=rfl
@[go_sem] theorem AKN {d:Option Nat} {K:MS→Prop} {x:AV} {t:MS}:AHL d K x t=K (t.put d x):=rfl
@[go_sem] theorem AKO {st:List Ob} {env:List (Nat×AV)} {r x:AV} {t:MS}:AJF st env r x t=(t.st=st∧t.env=env∧x=r):=rfl
attribute [go_sem] Ws yB unE Eg
theorem AAM {f:FuncId} {args:List AV} {K:List Res→Prop} {B:Prop} (rs:List Res) (h:Ctr P f args rs) (hk:YS rs→K rs):NM (CallK P f args K) B:=.inl ⟨rs,h,hk⟩
theorem ACK {f:FuncId} {x:Option (List AV)} {K:List Res→Prop} {A B:Prop} {args:List AV} (rs:List Res) (hx:x=some args) (hc:rs.all Gn=true) (h:Ctr P f args rs) (hk:YS rs→K rs):NM A (NM (BorK P f s x K) B):=.inr (.inl ⟨args,rs,hx,hc,h,hk⟩)
theorem AEP {f:FuncId} {A B C:Prop} {args rest:List AV} {d:Option Nat} {zs cl:List Cl} {M:List Cl→List AV→Prop} (g:Bool) (h:MCtr P f g cl rest M) (hx:args=mkA g zs::rest) (ho:OwnL s.st zs cl [] (fun _=>True)) (h1:rest.all ABR=true)
  (hg:g=true∨zs.length=1) (hk:∀ cl' rs,M cl' rs→(rs.all isV=true∧YV cl cl')∧K (MS.put ⟨s.n,s.env,JH s.st zs cl'⟩ d (retA rs))):NM A (NM B (NM (MutK P f s args d K) C)):=.inr (.inr (.inl ⟨rest,g,zs,cl,M,hx,hg,ho,h1,h,hk⟩))
@[go_sem] theorem AKP {x:Option (Nat×Nat)} {ops:Array Oper} {i:Nat} {H:List (Nat×List Ob)} {pd:List PE}:vpE P x ops K [] i H pd s=K s:=rfl
@[go_sem] theorem AJV {x:Option (Nat×Nat)} {ops:Array Oper} {o:Oper} {rest:List Oper} {i:Nat} {H:List (Nat×List Ob)} {pd:List PE}:vpE P x ops K (o::rest) i H pd s=TQ (nU ops s.env o.guard) (gE P x o s H pd i (vpE P x ops K rest (i+1))):=rfl
section
variable {x:Option (Nat×Nat)} {o:Oper} {H:List (Nat×List Ob)} {pd:List PE} {i:Nat} {V:List (Nat×List Ob)→List PE→MS→Prop}
@[go_sem] theorem AKQ:gE P x o s H pd i V true=ADV P x o s H pd i V (Xr o.op):=KX
@[go_sem] theorem AHP:ADV P x o s H pd i V false=DrK P s o.op (rdP P o s H pd i V):=LX
@[go_sem] theorem AIS:ADV P x o s H pd i V true=CondK (Wq x i o H) (ADU P s o.op (AFM P o s H pd i V)) False:=KX
@[go_sem] theorem AKR {y:AV} {st':List Ob}:AFM P o s H pd i V y st'=(Wp P s.n o st' pd∧V ((i+1,st')::H) (UC o pd) (MS.put ⟨s.n,s.env,st'⟩ o.dst y)):=rfl
@[go_sem] theorem AKm {r:AV}:rdP P o s H pd i V r=(Wn P s.n s.env o r H H∧V H (⟨i,o.op,s.env,r⟩::pd) (s.put o.dst r)):=rfl
end
@[go_sem] theorem AKS {KK:AV→List Ob→Prop} {st1:List Ob} {rs:List Res}:AFL KK st1 rs=KK (retA (Ir st1 rs).1) (Ir st1 rs).2:=rfl
@[go_sem] theorem AIT {f:FuncId} {KK:AV→List Ob→Prop} {args:List AV} {st1:List Ob}:ADT P f KK args st1=CallE P f args (AFL KK st1):=rfl
theorem ACI {f:FuncId} {args:List AV} {KK:List Res→Prop} {B:Prop} (rs:List Res) (h:Ctr P f args rs) (hk:KK rs):NM (CallE P f args KK) B:=.inl ⟨rs,h,hk⟩
theorem ACM {f:FuncId} {x:Option (List AV)} {KK:List Res→Prop} {A:Prop} {args:List AV} (rs:List Res) (hx:x=some args) (hc:rs.all Gn=true) (h:Ctr P f args rs) (hk:KK rs) {C:Prop}:NM A (NM (BorE P f x KK) C):=.inr (.inl ⟨args,rs,hx,hc,h,hk⟩)
theorem ACP {f:FuncId} {st:List Ob} {args:List AV} {KK:AV→List Ob→Prop} {A B:Prop} (y:AV) (st':List Ob) (h:InlS P f st args y st') (hk:KK y st'):NM A (NM B (InlE P f st args KK)):=.inr (.inr ⟨y,st',h,hk⟩)
theorem DrK.call {o:Op} {c:Call} {f:FuncId} {K:AV→Prop} (ho:o = .call c) (hc:c.callee = .value (.func f)) {args:List AV} {rs:List Res} (hf:We s.st (c.args.toList.map (Ei s))=some (args,s.st)) (h:Ctr P f args rs) (hk:K (retA (Wj rs))):DrK P s o K:=by
 subst ho
 refine⟨_, ?_,hk⟩
 simp only[Ci,hc]
 exact .inl ⟨args,rs,.inl hf,h,rfl⟩
end
theorem DrK.op {P:Program} {s:MS} {o:Op} {K:AV→Prop} {r:AV} (h:Ci P s o r) (hk:K r):DrK P s o K:=⟨r,h,hk⟩
attribute [go_sem] NP nU AFX ADk AFH ADR Qn WC same Io Ei WV Bi MS.put AC9 Zo PZ sQ LW UA vwE vwQ ADK Tz ADN xk ADO xh ADM xm ADP AI9 List.any_cons List.any_nil jY Ib VA cellsA Cf OM AGJ TL fzC sH fzL fzA We Xq QO Ai Ic
@[go_sem] theorem AHQ {n:Nat}:Region.binds .any ⟨n,.data⟩=true:=rfl
@[go_sem] theorem AGQ {n:Nat}:Region.binds .any ⟨n,.chain⟩=true:=rfl
@[go_sem] theorem AGR {n:Nat}:Region.binds .any ⟨n,.guard⟩=true:=rfl
@[go_sem] theorem AGS {n:Nat}:Region.binds .any ⟨n,.phase⟩=true:=rfl
@[go_sem] theorem AJW {b:Bool}:CondK b True True=True:=by cases b<;>simp[CondK]
@[go_sem] theorem AGT {i:Nat} {o:Oper} {H:List (Nat×List Ob)}:Wq none i o H=chainB o H:=rfl
@[go_sem] theorem AGU {i j p:Nat} {o:Oper} {H:List (Nat×List Ob)}:Wq (some (j,p)) i o H=if i=j then nO p H else chainB o H:=rfl
attribute [go_sem] Bj Wl Wn Wp UC chainB nO Xr ADU Ci List.any_toArray List.any_cons List.any_nil abC bZ KX LX ak and_self
attribute [go_sem] AFI yG yH yI yJ
attribute [go_sem] nS Ir Wj retA N7 Post Qs Ov OwnL He Jb AAC B_ unpin YT ABS AE9 TM JH Jb Qi ES IL AEx AG_ AHA aUn
attribute [go_sem] abr bY aO aU aI aW aV aaW List.getElem?_nil aba List.drop_succ_cons aa9 abj YR di List.set_cons_zero List.set_cons_succ List.modify_cons List.toList_toArray bQ List.drop_nil List.take_nil
attribute [go_sem] sF abA aT and_self true_and xU eq_self bf aX decide_true abI aB ne_eq not_false_eq_true not_true_eq_false bW
attribute [go_sem] aP aS aj ag aN aK dh bZ Bool.or_true abC
@[go_sem] theorem AKT {x:Value}:J_ (.c (.v x))=true:=rfl
@[go_sem] theorem AJX {xs:List (List Cl)}:J_ (.c (.sl xs))=true:=rfl
@[go_sem] theorem AIU {l:Nat}:J_ (.c (.ref l))=true:=rfl
@[go_sem] theorem AIV:J_ (.agg [])=true:=rfl
@[go_sem] theorem AJY {x:Value} {r:List Cl}:J_ (.agg (.v x::r))=J_ (.agg r):=rfl
@[go_sem] theorem AIW {xs:List (List Cl)} {r:List Cl}:J_ (.agg (.sl xs::r))=J_ (.agg r):=rfl
@[go_sem] theorem AHR {l:Nat} {r:List Cl}:J_ (.agg (.ref l::r))=J_ (.agg r):=rfl
@[go_sem] theorem AGV {n:Nat}:Kz n []=true:=rfl
@[go_sem] theorem AFS {n:Nat} {r:List Cl} {ys:List (List Cl)}:Kz n (r::ys)=(rowOk n r&&Kz n ys):=rfl
@[go_sem] theorem AJZ {n:Nat} {r:List Cl}:rowOk n r=(r.length==n&&r.all fun c=>!Gm c):=rfl
@[go_sem] theorem AKn {x:Value}:Gm (.v x)=false:=rfl
@[go_sem] theorem AKU {x:List (List Cl)}:Gm (.sl x)=false:=rfl
@[go_sem] theorem AJa {l:Nat}:Gm (.ref l)=false:=rfl
@[go_sem] theorem AJb {ty sz:Nat} {xs:List (List Cl)}:J_ (.c (.ow ty sz xs))=false:=rfl
@[go_sem] theorem AKo {cl:List Cl}:mkA true cl = .agg cl:=rfl
@[go_sem] theorem AKp {c:Cl} {r:List Cl}:mkA false (c::r) = .c c:=rfl
@[go_sem] theorem AGW {P:Program} {vars:List ResultVar} {g:Bool} {us:List Value} {M:List Cl→List AV→Prop} {s:MS}:AHK P vars g us M .normal s=AAA P vars g us M s:=rfl
@[go_sem] theorem AJc {P:Program} {vars:List ResultVar} {g:Bool} {us:List Value} {M:List Cl→List AV→Prop} {s:MS}:AHK P vars g us M .ret s=AAA P vars g us M s:=rfl
@[go_sem] theorem AKq:(true==true)=true:=rfl
@[go_sem] theorem AKr:(true==false)=false:=rfl
@[go_sem] theorem AKs:(false==true)=false:=rfl
@[go_sem] theorem AKt:(false==false)=true:=rfl
theorem ADd (b:Bool):(b==true)=b:=APj
theorem ABg (b:Bool):(b==false) = !b:=AOT
attribute [go_sem] ADd ABg
@[go_sem] theorem Ih (k:IntKind) (n:Nat):KU (.c (.v (.int k (n:Int))))=some n:=by simp[KU]
@[go_sem] theorem AIX (k:IntKind):KU (.c (.v (.int k 0)))=some 0:=by simp[KU]
theorem wrap_i64 {n:Int} (h : -9223372036854775808≤n) (h2:n≤9223372036854775807):IntKind.i64.wrap n=n:=
 KT (by simp[Lit.wf,IntKind.min,IntKind.max,IntKind.signed,IntKind.bits]; omega)
theorem AA {α β:Type} (f:α→β) {l:List α} {k:Nat} (h:k<l.length):(l.map f)[k]?=some (f l[k]):=by simp[h]
theorem yC {c:Cl} (h:AB c=true):er c=c:=by cases c<;>simp_all [AB,er]
theorem Qv:∀ {cs:List Cl},C_ cs=true→KA cs=cs
 | [],_=>rfl
 | c::cs,h=>by
  simp only[C_,bi,ay] at h
  rw[KA,yC h.1,Qv (cs:=cs) h.2]
theorem Ii:∀ {xs:List (List Cl)},Gq xs=true→QG xs=xs
 | [],_=>rfl
 | x::xs,h=>by
  simp only[Gq,bi,ay] at h
  rw[QG,Qv h.1,Ii (xs:=xs) h.2]
theorem FZ {xs:List (List Cl)} (h:Gq xs=true):BJ xs=true:=
 aJ.2 fun x hx=>aJ.2 fun c hc=>by
  have:=aJ.1 (aJ.1 h x hx) c hc
  cases c<;>simp_all [AB,D6]
theorem SV {α:Type} {f:α→List Cl} {l:List α} (h:∀ x,(f x).all D6=true):BJ (l.map f)=true:=by
 unfold BJ
 grind
theorem Ctr.val {P:Program} {f:FuncId} {args:List AV} {ty sz:Nat} {xs:List (List Cl)} {wr:Bool} (h:Ctr P f args [.own ty sz xs wr]) (hp:Gq xs=true):Ctr P f args [.val (.c (.sl xs))]:=by
 have:=h.frz
 simp only[YR,di,Zt,Ii hp] at this
 exact this
theorem Ctr.aggVal {P:Program} {f:FuncId} {args:List AV} {cl ys:List Cl} (h:Ctr P f args [.agg cl]) (he:KA cl=ys):Ctr P f args [.val (.agg ys)]:=by
 subst he
 exact h.frz
theorem Ox {α:Type} {f g:α→List Cl} (h:∀ x,KA (f x)=g x) (l:List α):QG (l.map f)=l.map g:=by
 grind [nH,aaK]
section avgen
variable {w:World} {St:Nat→Nat→Prop} {st st':List Ob} {β β':Nat→Option Nat}
end avgen
section absorb
variable {w0:Bs} {St0 St:Nat→Nat→Prop} {β:Nat→Option Nat} {s:MS} {a:Act} {w:World}
def BV (N l0 i:Nat) (R:List (List Cl)) (row':List Cl) (ob:Ob) (st:List Ob):List Ob:=(st.take N).set l0 ⟨ob.ty,ob.sz,R.set i row',ob.wr,ob.live⟩
theorem Core.absTrim (h:Core w0 St0 St β s a w) {N l0 i:Nat} {keys:List Nat} {ob:Ob} {R:List (List Cl)} {row row':List Cl} (hl0:l0<N) (hob:Cf s.st l0=some ob) (hxs:ob.xs=R.set i row) (hi:i<R.length) (hwr:ob.wr=true)
  (ho:OwnL s.st row row' [l0] fun used=>∀ l∈used,l=l0∨N≤l) (henv:(keys.all fun k=>I8 N (Bi s.env k))=true) (hst:(BV N l0 i R row' ob s.st).all (Aw N)=true) :
  Core w0 St0 St β ⟨s.n,keys.map fun k=>(k,Bi s.env k),BV N l0 i R row' ob s.st⟩ a w:=by
 have hs0:(⟨ob.ty,ob.sz,ob.xs.set i row',ob.wr,ob.live⟩:Ob)=⟨ob.ty,ob.sz,R.set i row',ob.wr,ob.live⟩:=by rw[hxs,ai]
 have hc:=h.closeRow (i:=i) (used:=(List.range' N s.st.length)) hob (by rw[hxs]; simp[hi]) hwr AOS (OwnL.mono _ _ _ _ _ (fun us hu hk l hl=>by
  rcases hk l hl with e | e
  ·exact .inl e
  ·rcases hu l hl with q | q
   ·exact .inl (by simpa using q)
   ·exact .inr AOS) ho)
 have ht:(AQ (List.range' N s.st.length) l0 i row' ob s.st).take N=BV N l0 i R row' ob s.st:=by
  unfold AQ BV
  rw[Z7 _ AOS,hs0,List.take_set]
 have:=hc.trim (N:=N) (keys:=keys) ⟨henv,by rw[← hst,← ht]⟩
 unfold Go.Vm.trim at this
 simp only[ht] at this
 exact this
end absorb
def ABh (N l0:Nat) (keys:List Nat) (s t:MS):Prop:=∃ (i:Nat) (R:List (List Cl)) (row row':List Cl) (ob:Ob),(l0<N∧Cf s.st l0=some ob∧ob.xs=R.set i row∧i<R.length∧ob.wr=true)∧OwnL s.st row row' [l0] (fun used=>∀ l∈used,l=l0∨N≤l) ∧
 ((keys.all fun k=>I8 N (Bi s.env k))=true∧(BV N l0 i R row' ob s.st).all (Aw N)=true)∧(⟨s.n,keys.map fun k=>(k,Bi s.env k),BV N l0 i R row' ob s.st⟩:MS)=t
theorem ACS {s:MS} {body:MS→(MS→Prop)→Prop} (N l0:Nat) (keys:List Nat) {A:Type} (f:A→MS) (p:A→Prop) (μ:A→Nat) (x0:A) (h0:Pe N keys s∧trim N keys s=f x0∧p x0)
  (h:∀ x,p x→body (f x) fun s'=>∃ y,True∧((Pe N keys s'∧trim N keys s'=f y)∨ABh N l0 keys s' (f y))∧p y∧μ y<μ x):LoopK s body:=
 ⟨fun _=>True,fun s t=>(Pe N keys s∧trim N keys s=t)∨ABh N l0 keys s t,A,f,p,μ,fun s t _ h=>by
  rcases h with ⟨h1,h2⟩ | ⟨i,R,row,row',ob,⟨g1,g2,g3,g4,g5⟩,g6,⟨g7,g8⟩,g9⟩
  ·exact⟨by rw[← h2]; rfl,fun w0 St0 St β a w hc=>⟨St,β,by rw[← h2]; exact hc.trim h1⟩⟩
  ·exact⟨by rw[← g9],fun w0 St0 St β a w hc=>⟨St,β,by rw[← g9]; exact hc.absTrim g1 g2 g3 g4 g5 g6 g7 g8⟩⟩,⟨x0,trivial,.inl ⟨h0.1,h0.2.1⟩,h0.2.2⟩,h⟩
theorem ABf {s:MS} {body:MS→(MS→Prop)→Prop} (N:Nat) (keys:List Nat) {A:Type} (f:A→MS) (p:A→Prop) (μ:A→Nat) (x0:A) (h0:Pe N keys s∧trim N keys s=f x0∧p x0)
  (h:∀ x,p x→body (f x) fun s'=>∃ y,Pe N keys s'∧trim N keys s'=f y∧p y∧μ y<μ x):LoopK s body:=
 ⟨Pe N keys,fun s t=>trim N keys s=t,A,f,p,μ,fun s t h1 h2=>⟨by rw[← h2]; rfl,fun w0 St0 St β a w h=>⟨St,β,by rw[← h2]; exact h.trim h1⟩⟩,⟨x0,h0⟩,h⟩
theorem LoopR.mk {s:MS} {body:MS→(MS→Prop)→Prop} (keys:List Nat) {A:Type} (f:A→MS) (p:A→Prop) (μ:A→Nat) (x0:A) (sel0:List (Nat×Bool)) (h0:Qo sel0 keys s∧rel sel0 keys s=f x0) (hp:p x0)
  (h:∀ x,p x→body (f x) fun s'=>∃ y,True∧(∃ sel,Qo sel keys s'∧rel sel keys s'=f y)∧p y∧μ y<μ x):LoopK s body:=
 ⟨fun _=>True,fun s t=>∃ sel,Qo sel keys s∧rel sel keys s=t,A,f,p,μ,fun s t _ ⟨sel,h1,h2⟩=>⟨by rw[← h2]; rfl,fun w0 St0 St β a w h=>⟨St,VO sel β,by rw[← h2]; exact h.rel h1⟩⟩,⟨x0,trivial,⟨sel0,h0⟩,hp⟩,h⟩
theorem LoopB.mk {s:MS} {body:MS→(MS→Prop)→Prop} (N l0:Nat) (keys:List Nat) {A:Type} (f:A→MS) (p:A→Prop) (μ:A→Nat) (x0:A) (sel0:List (Nat×Bool)) (h0:Qo sel0 keys s∧rel sel0 keys s=f x0) (hp:p x0)
  (h:∀ x,p x→body (f x) fun s'=>∃ y,True∧(∃ sel,Qo sel keys s'∧(rel sel keys s'=f y∨ABh N l0 keys (rel sel keys s') (f y)))∧p y∧μ y<μ x):LoopK s body:=
 ⟨fun _=>True,fun s t=>∃ sel,Qo sel keys s∧(rel sel keys s=t∨ABh N l0 keys (rel sel keys s) t),A,f,p,μ,fun s t _ ⟨sel,h1,h2⟩=>by
  rcases h2 with h2 | ⟨i,R,row,row',ob,⟨g1,g2,g3,g4,g5⟩,g6,⟨g7,g8⟩,g9⟩
  ·exact⟨by rw[← h2]; rfl,fun w0 St0 St β a w h=>⟨St,VO sel β,by rw[← h2]; exact h.rel h1⟩⟩
  ·exact⟨by rw[← g9]; rfl,fun w0 St0 St β a w hc=>⟨St,VO sel β,by rw[← g9]; exact(hc.rel h1).absTrim g1 g2 g3 g4 g5 g6 g7 g8⟩⟩,⟨x0,trivial,⟨sel0,h0.1,.inl h0.2⟩,hp⟩,h⟩
theorem AGX {sel:List (Nat×Bool)} {x:List Cl} (h:x.all D6=true):x.map (QP sel)=x:=by
 conv=>rhs; rw[← List.map_id x]
 refine aaK fun c hc=>?_
 have:=aJ.1 h c hc
 cases c<;>simp_all [D6,QP]
theorem AGY {sel:List (Nat×Bool)} {x:List Cl} (h:x.all D6=true):x.all (zq sel)=true:=aJ.2 fun c hc=>by
 have:=aJ.1 h c hc
 cases c<;>simp_all [D6,zq]
theorem Jp {α:Type} {f:α→List Cl} (hf:∀ x,(f x).all D6=true) (sel:List (Nat×Bool)) (out:List α) (r row':List Cl) :
  (out.map f ++ [r]).map (fun x=>x.map (QP sel))=(out.map f ++ [row']).set out.length (r.map (QP sel)):=by
 rw[WU,abm _ _ AOR]
 congr 1
 ·grind [List.map_id,aaK,AGX]
 ·simp
theorem CV {α:Type} {f:α→List Cl} (out:List α) (x:α):(out.map f ++ [f x]).set out.length (f x)=(out ++ [x]).map f:=by
 simp_all
theorem Jq {α:Type} {f:α→List Cl} (hf:∀ x,(f x).all D6=true) (sel:List (Nat×Bool)) (out:List α) {r:List Cl} (hr:r.all (zq sel)=true):((out.map f ++ [r]).all fun x=>x.all (zq sel))=true:=by
 grind [aJ,AGY]
theorem AY {α:Type} {f:α→List Cl} {l:List α} (h:∀ x,C_ (f x)=true):Gq (l.map f)=true:=by
 unfold Gq
 grind
def NQ (x:Option AV) (K:AV→Prop):Prop:=match x with
 | some y=>K y
 | none=>False
@[go_sem] theorem AHS {y:AV} {K:AV→Prop}:NQ (some y) K=K y:=rfl
def CallF (P:Program) (f:FuncId) (args:List AV) (K:AV→Prop):Prop:=∃ rs,Ctr P f args rs∧K (retA (Wj rs))
theorem ABL {P:Program} {f:FuncId} {args:List AV} {K:AV→Prop} {B:Prop} (rs:List Res) (h:Ctr P f args rs) (hk:K (retA (Wj rs))):NM (CallF P f args K) B:=.inl ⟨rs,h,hk⟩
theorem CW {P:Program} {f:FuncId} {args args':List AV} {K:List Res→Prop} {B:Prop} {rs:List Res} (h:Ctr P f args' rs) (hk:YS rs→K rs) (e:args=args':= by simp only[go_sem]):NM (CallK P f args K) B:= .inl ⟨rs,e▸h,hk⟩
theorem CY {P:Program} {f:FuncId} {args args':List AV} {K:AV→Prop} {B:Prop} {rs:List Res} (h:Ctr P f args' rs) (hk:K (retA (Wj rs))) (e:args=args':= by simp only[go_sem]):NM (CallF P f args K) B:= .inl ⟨rs,e▸h,hk⟩
theorem CZ {P:Program} {f:FuncId} {args args':List AV} {KK:List Res→Prop} {B:Prop} {rs:List Res} (h:Ctr P f args' rs) (hk:KK rs) (e:args=args':= by simp only[go_sem]):NM (CallE P f args KK) B:= .inl ⟨rs,e▸h,hk⟩
def AHT (P:Program) (f:FuncId) (x:Option (List AV)) (K:AV→Prop):Prop:=∃ args rs,x=some args∧rs.all Gn=true∧Ctr P f args rs∧K (retA (Wj rs))
theorem AEQ {P:Program} {f:FuncId} {x:Option (List AV)} {K:AV→Prop} {A:Prop} {args:List AV} (rs:List Res) (hx:x=some args) (hc:rs.all Gn=true) (h:Ctr P f args rs) (hk:K (retA (Wj rs))) {C:Prop}:NM A (NM (AHT P f x K) C):=.inr (.inl ⟨args,rs,hx,hc,h,hk⟩)
def AHU (P:Program) (f:FuncId) (st:List Ob) (args:List AV) (K:AV→Prop):Prop:=∃ r,InlS P f st args r st∧K r
theorem AC5 {P:Program} {f:FuncId} {st:List Ob} {args:List AV} {K:AV→Prop} {A B:Prop} (r:AV) (h:InlS P f st args r st) (hk:K r):NM A (NM B (AHU P f st args K)):=.inr (.inr ⟨r,h,hk⟩)
def AAB (P:Program) (f:FuncId) (x:Option (List AV×List Ob)) (st:List Ob) (K:AV→Prop):Prop:=∃ args,x=some (args,st)∧CallF P f args K
@[go_sem] theorem AHV {P:Program} {f:FuncId} {args:List AV} {st:List Ob} {K:AV→Prop}:AAB P f (some (args,st)) st K=CallF P f args K:=by
 simp[AAB]
theorem QH {P:Program} {s:MS} {o:Op} {K:AV→Prop} (h:∀ r,Ci P s o r=(Io P s o=some r)):DrK P s o K=NQ (Io P s o) K:=by
 unfold DrK
 simp only[h]
 cases Io P s o<;>simp[NQ]
section
variable {P:Program} {s:MS} {K:AV→Prop}
@[go_sem] theorem AJd {x:Operand}:DrK P s (.move x) K=NQ (Io P s (.move x)) K:=QH fun _=>rfl
@[go_sem] theorem AHW {x:Operand}:DrK P s (.assign x) K=NQ (Io P s (.assign x)) K:=QH fun _=>rfl
@[go_sem] theorem AJe {c x y:Operand}:DrK P s (.pick c x y) K=NQ (Io P s (.pick c x y)) K:=QH fun _=>rfl
@[go_sem] theorem AJf {T:TypeId} {x:Operand}:DrK P s (.load T x) K=NQ (Io P s (.load T x)) K:=QH fun _=>rfl
@[go_sem] theorem AFT {x:Operand}:DrK P s (.nilCheck x) K=NQ (Io P s (.nilCheck x)) K:=QH fun _=>rfl
@[go_sem] theorem AIY {b:BinOp} {T T':TypeId} {x y:Operand}:DrK P s (.binOp b T x y T') K=NQ (Io P s (.binOp b T x y T')) K:=QH fun _=>rfl
@[go_sem] theorem AJg {b:UnOp} {T:TypeId} {x:Operand}:DrK P s (.unOp b T x) K=NQ (Io P s (.unOp b T x)) K:=QH fun _=>rfl
@[go_sem] theorem AGZ {T T':TypeId} {x:Operand}:DrK P s (.convert T T' x) K=NQ (Io P s (.convert T T' x)) K:=QH fun _=>rfl
@[go_sem] theorem AEW {T:TypeId} {x:Operand} {i:Nat}:DrK P s (.fieldAddr T x i) K=NQ (Io P s (.fieldAddr T x i)) K:=QH fun _=>rfl
@[go_sem] theorem AEX {T:TypeId} {x y:Operand}:DrK P s (.indexAddr T x y) K=NQ (Io P s (.indexAddr T x y)) K:=QH fun _=>rfl
@[go_sem] theorem AGa {x:Operand} {i:Nat}:DrK P s (.extract x i) K=NQ (Io P s (.extract x i)) K:=QH fun _=>rfl
@[go_sem] theorem AKV {args:Array Operand} {ts:Array TypeId}:DrK P s (.call ⟨.builtin .len,args,ts⟩) K=NQ (Io P s (.call ⟨.builtin .len,args,ts⟩)) K:=QH fun _=>rfl
@[go_sem] theorem AJh {f:FuncId} {args:Array Operand} {ts:Array TypeId}:DrK P s (.call ⟨.value (.func f),args,ts⟩) K=NM (AAB P f (We s.st (args.toList.map (Ei s))) s.st K) (NM (AHT P f (TM s.st (args.toList.map (Ei s))) K) (AHU P f s.st (args.toList.map (Ei s)) K)):=by
 simp only[DrK,AAB,CallF,Ci,AHT,AHU,NM]
 apply propext
 constructor
 ·rintro⟨r,⟨args',rs,h1,h2,rfl⟩ | hr,h3⟩
  ·rcases h1 with h1 | ⟨h1,h4⟩
   ·exact .inl ⟨args',h1,rs,h2,h3⟩
   ·exact .inr (.inl ⟨args',rs,h1,h4,h2,h3⟩)
  ·exact .inr (.inr ⟨r,hr,h3⟩)
 ·rintro(⟨args',h1,rs,h2,h3⟩ | ⟨args',rs,h1,h4,h2,h3⟩ | ⟨r,hr,h3⟩)
  ·exact⟨_,.inl ⟨args',rs,.inl h1,h2,rfl⟩,h3⟩
  ·exact⟨_,.inl ⟨args',rs,.inr ⟨h1,h4⟩,h2,rfl⟩,h3⟩
  ·exact⟨r,.inr hr,h3⟩
end
def ABi (b:Bool) (x:Option (AV×List Ob)) (st:List Ob) (K:AV→Prop):Prop:=match b,x with
 | true,some (r,st')=>st'=st∧K r
 | _,_=>False
@[go_sem] theorem AIZ {r:AV} {st:List Ob} {K:AV→Prop}:ABi true (some (r,st)) st K=K r:=by simp[ABi]
@[go_sem] theorem AIa {P:Program} {s:MS} {K:AV→Prop} {T:TypeId} {ps:Array (Nat×Operand)}:DrK P s (.build T ps) K=ABi (EX P T) (Tz P s T ps.toList) s.st K:=by
 unfold DrK ABi
 simp only[Ci]
 grind
@[go_sem] theorem AIb {P:Program} {s:MS} {K:AV→Prop} {T:TypeId} {x:Operand} {lo hi:Option Operand}:DrK P s (.slice T x lo hi none) K=ABi true (UA P s T (Ei s x) lo hi) s.st K:=by
 unfold DrK ABi
 simp only[Ci]
 grind
theorem KW {l:Int} (h:WfA (.c (.v (.int .i64 l)))):l≤9223372036854775807:=by
 simp only[WfA,sS,QN,Lit.wf,IntKind.min,IntKind.max,IntKind.signed,IntKind.bits] at h
 grind
theorem yD {s:ByteArray} (h:sS (.v (.string s))):s.size≤9223372036854775807:=by
 have h':decide (s.size≤maxLen)=true:=h
 have h2:=Yi h'
 simpa [maxLen] using h2
def grow (xs:List (List Cl)) (z:List Cl) (k:Nat):List (List Cl):=xs.take k++List.replicate (xs.length-k) z
theorem DC {xs:List (List Cl)} {z:List Cl}:grow xs z 0=List.replicate xs.length z:=by simp[grow]
theorem ADe {xs:List (List Cl)} {z:List Cl}:grow xs z xs.length=xs:=by simp[grow]
theorem Xw {xs:List (List Cl)} {z:List Cl} {k:Nat} (h:k≤xs.length):(grow xs z k).length=xs.length:=by simp[grow]; omega
theorem AFU {xs:List (List Cl)} {z:List Cl} {k:Nat} (h:k<xs.length):(grow xs z k)[k]?=some z:=by
 have h1:(xs.take k).length=k:=by rw[bI]; omega
 rw[grow,bn (Nat.le_of_eq h1),h1,jV,abh,bF AOQ]
theorem ADf {xs:List (List Cl)} {z:List Cl} {k:Nat} (h:k<xs.length):(grow xs z k).set k xs[k]=grow xs z (k+1):=by
 have h1:(xs.take k).length=k:=AOS
 apply abk
 intro i
 rw[wE,Xw AOQ]
 by_cases e:k=i
 ·subst e
  rw[bF rfl,bF h,grow,bH AOS]
  simp[h]
 ·rw[bz e]
  simp only[grow,List.getElem?_append,bI,aaB,abh]
  grind
theorem Bq {α:Type} {f:α→List Cl} {xs:List α} {z:List Cl} {k:Nat} (h:k≤xs.length):(grow (xs.map f) z k).length=xs.length:=by grind [Xw,ae]
theorem EL {α:Type} {f:α→List Cl} {xs:List α} {z:List Cl} {k:Nat} (h:k<xs.length):(grow (xs.map f) z k)[k]?=some z:=AFU AOz
theorem Gz {α:Type} {f:α→List Cl} {xs:List α} {z:List Cl} {k:Nat} (h:k<xs.length):(grow (xs.map f) z k).set k (f xs[k])=grow (xs.map f) z (k+1):=by
 have h2:k<(xs.map f).length:=AOz
 have:=ADf (z:=z) h2
 grind
theorem G5 {α:Type} {f:α→List Cl} {xs:List α} {z:List Cl}:grow (xs.map f) z xs.length=xs.map f:=by
 grind [ADe,ae]
theorem yE {x:List Cl} (h:C_ x=true):x.all (I7 1)=true:=by
 refine aJ.2 fun c hc=>?_
 have:=aJ.1 h c hc
 cases c<;>simp_all [AB,I7]
theorem NR {α:Type} {f:α→List Cl} (hf:∀ x,C_ (f x)=true) {z:List Cl} (hz:z.all (I7 1)=true) {xs:List α} {k T w:Nat} {wr live:Bool} :
  (List.take 1 [(⟨T,w,grow (xs.map f) z k,wr,live⟩:Ob)]).all (Aw 1)=true:=by
 simp only[aa9,abj,bi,bJ,aN,Aw,r_]
 refine .inr (aJ.2 fun x hx=>?_)
 simp only[grow,aa1] at hx
 grind [ru,yE]
theorem tu {N:Nat} {x:List Cl} (h:x.all D6=true):x.all (I7 N)=true:=by
 refine aJ.2 fun c hc=>?_
 have:=aJ.1 h c hc
 cases c<;>simp_all [D6,I7]
theorem Jc {α:Type} {f:α→List Cl} (hf:∀ x,(f x).all D6=true) {z:List Cl} (hz:z.all (I7 1)=true) {xs:List α} {k T w:Nat} {wr live:Bool} :
  [(⟨T,w,grow (xs.map f) z k,wr,live⟩:Ob)].all (Aw 1)=true:=by
 simp only[bi,bJ,aN,Aw,r_]
 refine .inr (aJ.2 fun x hx=>?_)
 simp only[grow,aa1] at hx
 grind [ru,tu]
theorem Iu:∀ (a b:List Cl),KA (a++b)=KA a++KA b
 | [],b=>by simp[KA]
 | c::a,b=>by simp[KA,Iu a b]
attribute [go_sem] aa4 Nat.reduceBEq Nat.reduceAdd Nat.reduceSub Nat.reduceMul Nat.reduceLT Nat.reduceLeDiff Nat.reduceEqDiff Nat.succ_ne_zero reduceIte true_or or_true
end Go.Vm
namespace Go.Vm
open Go.RowKit Go.WideShapes
def Old (w:World) (b o:Nat):Prop:=(w.cell? ⟨b,o,none⟩).isSome=true
def RdCs (w:World):List Value→List Cl→Prop
 | [],[]=>True
 | u::us,c::cs=>RdD w (Old w) c u∧RdCs w us cs
 | _,_=>False
theorem RdCs.append {w:World}:∀ {us:List Value} {cs:List Cl} {us':List Value} {cs':List Cl},RdCs w us cs→RdCs w us' cs'→RdCs w (us++us') (cs++cs')
 | [],[],_,_,_,h=>h
 | _::_,_::_,_,_,h,h'=>⟨h.1,RdCs.append h.2 h'⟩
 | [],_::_,_,_,h,_=>h.elim
 | _::_,[],_,_,h,_=>h.elim
theorem RdCs.len {w:World}:∀ {us:List Value} {cs:List Cl},RdCs w us cs→us.length=cs.length
 | [],[],_=>rfl
 | _::_,_::_,h=>by simp[RdCs.len h.2]
 | [],_::_,h=>h.elim
 | _::_,[],h=>h.elim
theorem RdCs.at {w:World}:∀ {us:List Value} {cs:List Cl},RdCs w us cs→∀ (k:Nat) (c:Cl),cs[k]?=some c→∃ y,us[k]?=some y∧RdD w (Old w) c y
 | [],[],_,k,c,hk=>APA
 | u::us,c0::cs,h,k,c,hk=>by
  cases k with
  | zero=>simp at hk; subst hk; exact⟨u,rfl,h.1⟩
  | succ k=>simpa using RdCs.at h.2 k c AOT
 | [],_::_,h,_,_,_=>h.elim
 | _::_,[],h,_,_,_=>h.elim
theorem RdCs.glue {w:World} {us:List Value} {o n m:Nat} {A B:List Cl} (hA:RdCs w ((us.drop o).take n) A) (hm:o+n=m) (hB:RdCs w (us.drop m) B):RdCs w (us.drop o) (A++B):=by
 subst hm
 have:=hA.append hB
 grind [List.drop_drop,List.take_append_drop]
theorem RdCs.last {w:World} {us:List Value} {o n:Nat} {A:List Cl} (hA:RdCs w ((us.drop o).take n) A) (hm:us.length=o+n):RdCs w (us.drop o) A:=by
 grind [aaD]
theorem RdCs.agg {w:World} {us:Array Value} {cs:List Cl} (h:RdCs w us.toList cs):RdA w (Old w) (.agg cs) (.agg us):=
 ⟨us.toList,AOR,h.len,fun k c hk=>h.at k c hk⟩
theorem RdCs.one {w:World} {v:Value} {c:Cl} (h:RdCs w [v] [c]):RdD w (Old w) c v:=h.1
variable {H:Type} {enc:TypeId×Value→H} {P:Program} {w:World} {sp:Nat→Bool} {held:Bool}
theorem mapM_each {α β:Type} {f:α→Option β}:∀ {l:List α} {ys:List β},l.mapM f=some ys→∀ (j:Nat) (x:α),l[j]?=some x→∃ y,f x=some y
 | [],_,_,j,x,hj=>by simp at hj
 | a::l,ys,h,j,x,hj=>by
  rw[List.mapM_cons] at h
  cases ha:f a with
  | none=>grind
  | some b =>
   cases hl:l.mapM f with
   | none=>grind
   | some bs =>
    cases j with
    | zero=>grind
    | succ j=>exact mapM_each hl j x AOT
theorem mapM_at {α β:Type} {f:α→Option β}:∀ {l:List α} {ys:List β},l.mapM f=some ys→∀ (j:Nat) (x:α),l[j]?=some x→∃ y,ys[j]?=some y∧f x=some y
 | [],_,_,j,x,hj=>by simp at hj
 | a::l,ys,h,j,x,hj=>by
  rw[List.mapM_cons] at h
  cases ha:f a with
  | none=>grind
  | some b =>
   cases hl:l.mapM f with
   | none=>grind
   | some bs =>
    simp[ha,hl] at h
    subst h
    cases j with
    | zero=>grind
    | succ j=>simpa using mapM_at hl j x AOT
theorem ADg {k:IntKind} {t:TypeId} (ht:P.underlying t=some (.int k)) {fuel:Nat} {cs:List Value} {y:DataW H×List MemPlace} (h:DataW.trod enc P w 0 sp held fuel t cs=some y) :
  ∃ n:Int,RdCs w cs [.v (.int k n)]:=by
 cases fuel with
 | zero=>simp[DataW.trod] at h
 | succ fuel =>
  unfold DataW.trod at h
  rw[ht] at h
  simp only at h
  split at h<;>simp_all
  rename_i k' n heq
  obtain⟨⟨rfl,hw⟩,_⟩:=h
  exact⟨n,⟨rfl,by simpa [QN] using hw⟩,trivial⟩
theorem AFV {t:TypeId} (ht:P.underlying t=some .bool) {fuel:Nat} {cs:List Value} {y:DataW H×List MemPlace} (h:DataW.trod enc P w 0 sp held fuel t cs=some y) :
  ∃ n:Bool,RdCs w cs [.v (.bool n)]:=by
 cases fuel with
 | zero=>simp[DataW.trod] at h
 | succ fuel =>
  rcases cs with _ | ⟨c,_ | ⟨c2,cs⟩⟩
  ·exact ANj
  ·cases c with
   | bool b=>exact⟨b,⟨rfl,rfl⟩,trivial⟩
   | _=>simp[DataW.trod,ht] at h
  ·exact ANj
theorem ABj {t:TypeId} (ht:P.underlying t=some .string) {fuel:Nat} {cs:List Value} {y:DataW H×List MemPlace} (h:DataW.trod enc P w 0 sp held fuel t cs=some y) :
  ∃ n:ByteArray,RdCs w cs [.v (.string n)]:=by
 cases fuel with
 | zero=>simp[DataW.trod] at h
 | succ fuel =>
  rcases cs with _ | ⟨c,_ | ⟨c2,cs⟩⟩
  ·exact ANj
  ·cases c with
   | string b =>
    simp only[DataW.trod,ht] at h
    split at h
    ·rename_i hb
     exact⟨b,⟨rfl,by simpa [QN] using hb⟩,trivial⟩
    ·cases h
   | _=>simp[DataW.trod,ht] at h
  ·exact ANj
theorem ABk {t:TypeId} {fs:Array Field} (ht:P.underlying t=some (.struct fs)) {fuel:Nat} {cs:List Value} {y:DataW H×List MemPlace} (h:DataW.trod enc P w 0 sp held (fuel+1) t cs=some y) :
  cs.length=P.cellsOf t∧∀ (j:Nat) (f:Field),fs.toList[j]?=some f→∃ y,DataW.trod enc P w 0 sp held fuel f.type ((cs.drop f.offset).take (P.cellsOf f.type))=some y:=by
 simp only[DataW.trod,ht] at h
 grind [zf,mapM_each]
theorem ADh {α:Type} {f:α→List Cl} {t e:TypeId} (ht:P.underlying t=some (.slice e)) {fuel:Nat} (hlen:∀ x,(f x).length=P.cellsOf e) (hpos:0<P.cellsOf e)
  (he:∀ (cs:List Value) (y:DataW H×List MemPlace),DataW.trod enc P w 0 sp held fuel e cs=some y→∃ x,RdCs w cs (f x))
  {cs:List Value} {y:DataW H×List MemPlace} (h:DataW.trod enc P w 0 sp held (fuel+1) t cs=some y):∃ xs:List α,RdCs w cs [.sl (xs.map f)]:=by
 rcases cs with _ | ⟨c,_ | ⟨c2,cs⟩⟩
 ·exact ANj
 ·cases c with
  | slice a len cap =>
   cases a with
   | none =>
    have:len=0∧cap=0:=by
     simp only[DataW.trod,ht] at h
     split at h<;>simp_all
    obtain⟨rfl,rfl⟩:=this
    exact⟨[],⟨by simp only[RdD]; exact⟨none,0,rfl,AOR,by simp[maxLen],⟨0,AOR⟩,.inl rfl⟩,trivial⟩⟩
   | some a =>
    simp only[DataW.trod,ht] at h
    split at h
    ·rename_i hb
     obtain⟨_,hlc,hcm⟩:=hb
     obtain⟨es,hes,_⟩:=Option.bind_eq_some_iff.1 h
     have hel:∀ i,i<len→∃ x:α,∃ vs:List Value,w.cells? 0 (a.add (i*P.cellsOf e)) (P.cellsOf e)=some vs∧RdCs w vs (f x):=by
      intro i hi
      obtain⟨z,hz⟩:=mapM_each hes i i AP1
      obtain⟨vs,hvs,hz⟩:=Option.bind_eq_some_iff.1 hz
      obtain⟨x,hx⟩:=he vs z hz
      exact⟨x,vs,hvs,hx⟩
     by_cases hz:len=0
     ·subst hz
      exact⟨[],⟨by simp only[RdD]; exact⟨some a,cap,rfl,AOR,hcm,⟨0,AOR⟩,.inl rfl⟩,trivial⟩⟩
     ·have hcell:∀ i,i<len→∀ k,k<P.cellsOf e→∃ u,w.cell? ((a.add (i*P.cellsOf e)).add k)=some u:=by
       intro i hi k hk
       obtain⟨x,vs,hvs,hx⟩:=hel i hi
       simp only[World.cells?,aA,bf] at hvs
       obtain⟨u,hu⟩:=mapM_each hvs k k (by simp[hk])
       exact⟨u,hu⟩
      have hspot:a.spot=none:=by
       obtain⟨u,hu⟩:=hcell 0 AOQ 0 hpos
       simp only[Nat.zero_mul,Addr.add,bf] at hu
       unfold World.cell? at hu
       split at hu
       ·simp_all
       ·cases hu
      obtain⟨b,off,spot⟩:=a
      simp only at hspot
      subst hspot
      have hadd:∀ i,(⟨b,off,none⟩:Addr).add i=⟨b,off+i,none⟩:=by
       intro i; unfold Addr.add; split
       ·grind
       ·rfl
      simp only[hadd] at hel
      have hch:∃ g:Nat→α,∀ i,i<len→∃ vs:List Value,w.cells? 0 ⟨b,off+i*P.cellsOf e,none⟩ (P.cellsOf e)=some vs∧RdCs w vs (f (g i)):=by
       obtain⟨x0,_⟩:=hel 0 AOQ
       refine⟨fun i=>if h:i<len then(hel i h).choose else x0,fun i hi=>?_⟩
       simp only[hi,dif_pos]
       exact(hel i hi).choose_spec
      obtain⟨g,hg⟩:=hch
      refine⟨(List.range len).map g,⟨?_,trivial⟩⟩
      simp only[RdD]
      refine⟨some ⟨b,off,none⟩,cap,AOR,AOT,hcm,⟨P.cellsOf e, ?_⟩,.inr ⟨b,off,rfl, ?_⟩⟩
      ·grind
      ·refine AEK (P.cellsOf e) ?_ fun i x hi=>?_
       ·grind
       ·have hil:i<len:=by
         rcases bV i len with h' | h'
         ·exact h'
         ·grind
        have hx:x=f (g i):=by simpa [hil] using hi.symm
        subst hx
        obtain⟨vs,hvs,hrd⟩:=hg i hil
        refine AEM fun j c hj=>?_
        obtain⟨u,hu,hc⟩:=hrd.at j c hj
        simp only[World.cells?,aA,bf] at hvs
        have hjl:j<P.cellsOf e:=by
         rw[← hlen (g i)]
         rcases bV j (f (g i)).length with h' | h'
         ·exact h'
         ·grind
        obtain⟨u2,hu2,hcl⟩:=mapM_at hvs j j (by simp[hjl])
        rw[hu2] at hu
        simp only[ak] at hu
        subst hu
        have hadd2:(⟨b,off+i*P.cellsOf e,none⟩:Addr).add j=⟨b,off+i*P.cellsOf e+j,none⟩:=by
         unfold Addr.add; split
         ·grind
         ·rfl
        rw[hadd2] at hcl
        exact⟨by simp[Old,hcl],u2,hcl,hc⟩
    ·cases h
  | _=>simp[DataW.trod,ht] at h
 ·exact ANj
theorem G6 {α:Type} {f:α→List Cl} {t e:TypeId} {n:Nat} (ht:P.underlying t=some (.slice e)) (hn:P.cellsOf e=n) (hlen:∀ x,(f x).length=n) (hpos:0<n) {fuel:Nat}
  (he:∀ fuel',fuel'<fuel→∀ (cs:List Value) (y:DataW H×List MemPlace),DataW.trod enc P w 0 sp held fuel' e cs=some y→∃ x,RdCs w cs (f x))
  {cs:List Value} {y:DataW H×List MemPlace} (h:DataW.trod enc P w 0 sp held fuel t cs=some y):∃ xs:List α,RdCs w cs [.sl (xs.map f)]:=by
 subst hn
 cases fuel with
 | zero=>simp[DataW.trod] at h
 | succ fuel=>exact ADh ht hlen hpos (he fuel AOQ) h
theorem EG {t:TypeId} {fs:Array Field} {n:Nat} (ht:P.underlying t=some (.struct fs)) (hn:P.cellsOf t=n) {fuel:Nat} {cs:List Value} {y:DataW H×List MemPlace} (h:DataW.trod enc P w 0 sp held fuel t cs=some y) :
  ∃ fuel',fuel'<fuel∧cs.length=n∧∀ (j:Nat) (f:Field),fs.toList[j]?=some f→∃ y,DataW.trod enc P w 0 sp held fuel' f.type ((cs.drop f.offset).take (P.cellsOf f.type))=some y:=by
 subst hn
 cases fuel with
 | zero=>simp[DataW.trod] at h
 | succ fuel=>exact⟨fuel,AOQ,ABk ht h⟩
theorem Old.lt {w:World} {b o:Nat} (h:Old w b o):b<w.heap.size:=by
 unfold Old World.cell? at h
 grind
end Go.Vm
