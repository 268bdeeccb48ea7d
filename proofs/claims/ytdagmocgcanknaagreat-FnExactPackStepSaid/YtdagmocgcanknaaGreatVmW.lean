/- A part. -/
import Derived.Test.YtdagmocgcanknaaGreatVmUb
set_option linter.unusedSimpArgs false
set_option linter.unusedVariables false
namespace Go.Vm
open Go.RowKit
def AFm (P:Program) (y:Code) (Q:Ex->MS->Prop):Ex->MS->Prop:=AJH (vp P y) Q
def cndC (P:Program) (x y:Code) (s:MS) (Q:Ex->MS->Prop) (b:Bool):Prop:=cndM (vp P x) (vp P y) s Q b
def AJM (P:Program) (x:Code) (Q:Ex->MS->Prop) (s:MS) (K:MS->Prop):Prop:=AJI (vp P x) Q s K
section
variable {P:Program} {s:MS} {Q:Ex->MS->Prop} {x y:Code} {K:MS->Prop}
@[go_sem] theorem AKE {σ:List Nat} {e1 e2:Nat} {l:List Oper}:Ia σ e1 e2 l=og σ e1 e2 l σ:=rfl
@[go_sem] theorem AJN {σ:List Nat} {e1 e2:Nat} {l:List Oper}:og σ e1 e2 l [] = []:=rfl
@[go_sem] theorem AIH {σ:List Nat} {e1 e2 i:Nat} {l:List Oper} {is:List Nat}:og σ e1 e2 l (i::is)=AAc σ e1 e2 i l[i]? (og σ e1 e2 l is):=rfl
@[go_sem] theorem AHR {σ:List Nat} {e1 e2 i:Nat} {d:Option Nat} {o:Op} {ty:TypeId} {ps:String} {af:Array Edge} {g:Option (Nat×Bool)} {r:List Oper} :
  AAc σ e1 e2 i (some ⟨d,o,ty,ps,af,g⟩) r=⟨d,o,ty,ps,(uh σ (ADr e1 e2 i af.toList)).toArray,rnG σ g⟩::r:=rfl
@[go_sem] theorem AJO {σ:List Nat}:uh σ [] = []:=rfl
@[go_sem] theorem AII {σ:List Nat} {i:Nat} {g:Ground} {es:List Edge}:uh σ (⟨i,g⟩::es)=⟨MQ σ i,g⟩::uh σ es:=rfl
@[go_sem] theorem AJP {σ:List Nat}:rnG σ none=none:=rfl
@[go_sem] theorem AJQ {σ:List Nat} {j:Nat} {b:Bool}:rnG σ (some (j,b))=some (MQ σ j,b):=rfl
@[go_sem] theorem AJR {i:Nat}:MQ [] i=0:=rfl
@[go_sem] theorem AIJ {x i:Nat} {xs:List Nat}:MQ (x::xs) i=if x=i then 0 else MQ xs i+1:=by simp only[MQ];grind [Nat.eq_of_beq_eq_true,aby]
@[go_sem] theorem AKF {e1 e2 i:Nat} {l:List Edge}:ADr e1 e2 i l=if i=e2 then⟨e1,.data⟩::l else l:=by simp only[ADr];grind [Nat.eq_of_beq_eq_true,aby]
@[go_sem] theorem AKG:vp P .skip s Q=Q .normal s:=rfl
@[go_sem] theorem AKk {id:Nat} {ops:Array Oper}:vp P (.region id ops false) s Q=vpR P ops (Q .normal) s:=rfl
@[go_sem] theorem AKH {id:Nat} {ops:Array Oper}:vp P (.region id ops true) s Q=DrawK P ops s (Q .normal):=rfl
@[go_sem] theorem AKl:vp P (.seq x y) s Q=vp P x s (AFm P y Q):=rfl
@[go_sem] theorem AKI {c:Operand}:vp P (.cond c x y) s Q=AAb (Eo s c) (cndC P x y s Q):=rfl
@[go_sem] theorem AJS {id:Nat}:vp P (.block id x) s Q=vp P x s (AB0 id Q):=rfl
@[go_sem] theorem AKJ:vp P (.loop x) s Q=LoopK s (AJM P x Q):=rfl
@[go_sem] theorem AKK {id:Nat}:vp P (.exit id) s Q=Q (.exit id) s:=rfl
@[go_sem] theorem AJT:vp P (.scope x) s Q=vp P x s Q:=rfl
@[go_sem] theorem AKm:vp P .ret s Q=Q .ret s:=rfl
@[go_sem] theorem AGP:AFm P y Q .normal s=vp P y s Q:=rfl
@[go_sem] theorem AIK {i:Nat}:AFm P y Q (.exit i) s=Q (.exit i) s:=rfl
@[go_sem] theorem AJU:AFm P y Q .ret s=Q .ret s:=rfl
@[go_sem] theorem AIL:cndC P x y s Q true=vp P x s Q:=AB1
@[go_sem] theorem AHS:cndC P x y s Q false=vp P y s Q:=yc
theorem AAQ {b:Bool} (h1:b=true->vp P x s Q) (h2:b=false->vp P y s Q):cndC P x y s Q b:=cndM.mk h1 h2
@[go_sem] theorem AGQ {id:Nat}:AB0 id Q .normal s=Q .normal s:=rfl
@[go_sem] theorem AIM {id i:Nat}:AB0 id Q (.exit i) s=if i=id then Q .normal s else Q (.exit i) s:=rfl
@[go_sem] theorem AJV {id:Nat}:AB0 id Q .ret s=Q .ret s:=rfl
@[go_sem] theorem AKL:AJM P x Q s K=vp P x s (AD1 K Q):=rfl
@[go_sem] theorem AGR:AD1 K Q .normal s=K s:=rfl
@[go_sem] theorem AIN {i:Nat}:AD1 K Q (.exit i) s=Q (.exit i) s:=rfl
@[go_sem] theorem AJW:AD1 K Q .ret s=Q .ret s:=rfl
@[go_sem] theorem AKM {ops:Array Oper}:vpO P ops K [] s=K s:=rfl
@[go_sem] theorem AJX {ops:Array Oper} {o:Oper} {rest:List Oper}:vpO P ops K (o::rest) s=UJ (oW ops s.env o.guard) (gO P o (vpO P ops K rest) s):=rfl
@[go_sem] theorem AKN {ops:Array Oper}:vpD P ops K [] s=K s:=rfl
@[go_sem] theorem AJY {ops:Array Oper} {o:Oper} {rest:List Oper}:vpD P ops K (o::rest) s=UJ (oW ops s.env o.guard) (gD P o (vpD P ops K rest) s):=rfl
@[go_sem] theorem AKO {d:Option Nat} {v:AV} {st':List Ob}:ADu s d K v st'=K (MS.put ⟨s.n,s.env,st'⟩ d v):=rfl
@[go_sem] theorem AJZ {d:Option Nat} {v:AV}:uf s d K v=K (s.put d v):=rfl
@[go_sem] theorem AKP {d:Option Nat} {st1:List Ob} {rs:List Res}:ABx s d K st1 rs=K (MS.put ⟨s.n,s.env,(JE st1 rs).2⟩ d (retA (JE st1 rs).1)):=rfl
@[go_sem] theorem AIO {f:FuncId} {d:Option Nat} {args:List AV} {st1:List Ob}:yY P f s d K args st1=CallK P f args (ABx s d K st1):=rfl
@[go_sem] theorem AGS {vars:List ResultVar} {rs:List Res}:AFl P vars rs .normal s=Post P vars rs s:=rfl
theorem ACk {vars:List ResultVar} {rs:List Res} {t:MS} (h:Head s t) (hp:Post P vars rs t):EndH P vars rs .ret s:=⟨t,h,hp⟩
@[go_sem] theorem AJa {vars:List ResultVar} {rs:List Res}:AFl P vars rs .ret s=Post P vars rs s:=rfl
def AD6 (x:Option (List AV)) (m:Nat) (KK:AV->MS->Prop) (t:MS):Prop:=match x with
 | some xs=>KK (retA xs) ⟨m,unE t.env,t.st⟩
 | none=>False
@[go_sem] theorem AHT {vars:List ResultVar} {m:Nat} {KK:AV->MS->Prop} {t:MS}:MR P vars m KK .ret t=AD6 (Ol P t vars) m KK t:=by unfold MR AD6; rfl
@[go_sem] theorem AEb {vars:List ResultVar} {m:Nat} {KK:AV->MS->Prop} {t:MS}:MR P vars m KK .normal t=AD6 (Ol P t vars) m KK t:=by unfold MR AD6; rfl
@[go_sem] theorem AIP {xs:List AV} {m:Nat} {KK:AV->MS->Prop} {t:MS}:AD6 (some xs) m KK t=KK (retA xs) ⟨m,unE t.env,t.st⟩:=rfl
@[go_sem] theorem AKQ {d:Option Nat} {K:MS->Prop} {x:AV} {t:MS}:AHQ d K x t=K (t.put d x):=rfl
@[go_sem] theorem AKR {st:List Ob} {env:List (Nat×AV)} {r x:AV} {t:MS}:AJL st env r x t=(t.st=st/\t.env=env/\x=r):=rfl
attribute [go_sem] Xn yl unE AAl
theorem AAO {f:FuncId} {args:List AV} {K:List Res->Prop} {B:Prop} (rs:List Res) (h:Ctr P f args rs) (hk:ZA rs->K rs):Ns (CallK P f args K) B:=.inl ⟨rs,h,hk⟩
theorem ABh {f:FuncId} {x:Option (List AV)} {K:List Res->Prop} {A B:Prop} {args:List AV} (rs:List Res) (hx:x=some args) (hc:rs.all EH=true) (h:Ctr P f args rs) (hk:ZA rs->K rs):Ns A (Ns (BorK P f s x K) B):=.inr (.inl ⟨args,rs,hx,hc,h,hk⟩)
theorem ADS {f:FuncId} {A B C:Prop} {args rest:List AV} {d:Option Nat} {zs cl:List Cl} {M:List Cl->List AV->Prop} (g:Bool) (h:MCtr P f g cl rest M) (hx:args=mkA g zs::rest) (ho:OwnL s.st zs cl [] (fun _=>True)) (h1:rest.all ABp=true)
  (hg:g=true\/zs.length=1) (hk:∀ cl' rs,M cl' rs->(rs.all isV=true/\ZC cl cl')/\K (MS.put ⟨s.n,s.env,Jc s.st zs cl'⟩ d (retA rs))):Ns A (Ns B (Ns (MutK P f s args d K) C)):=.inr (.inr (.inl ⟨rest,g,zs,cl,M,hx,hg,ho,h1,h,hk⟩))
@[go_sem] theorem AKS {x:Option (Nat×Nat)} {ops:Array Oper} {i:Nat} {H:List (Nat×List Ob)} {pd:List PE}:vpE P x ops K [] i H pd s=K s:=rfl
@[go_sem] theorem AJb {x:Option (Nat×Nat)} {ops:Array Oper} {o:Oper} {rest:List Oper} {i:Nat} {H:List (Nat×List Ob)} {pd:List PE}:vpE P x ops K (o::rest) i H pd s=UJ (oW ops s.env o.guard) (gE P x o s H pd i (vpE P x ops K rest (i+1))):=rfl
section
variable {x:Option (Nat×Nat)} {o:Oper} {H:List (Nat×List Ob)} {pd:List PE} {i:Nat} {V:List (Nat×List Ob)->List PE->MS->Prop}
@[go_sem] theorem AKT:gE P x o s H pd i V true=ADz P x o s H pd i V (Yc o.op):=LV
@[go_sem] theorem AJc:gE P x o s H pd i V false=V H pd (s.put o.dst .undef):=Jw
@[go_sem] theorem AHU:ADz P x o s H pd i V false=DrK P s o.op (rdP P o s H pd i V):=Jw
@[go_sem] theorem AIQ:ADz P x o s H pd i V true=CondK (Xm x i o H) (ADy P s o.op (AFh P o s H pd i V)) False:=LV
@[go_sem] theorem AKU {y:AV} {st':List Ob}:AFh P o s H pd i V y st'=(Xl P s.n o st' pd/\V ((i+1,st')::H) (Us o pd) (MS.put ⟨s.n,s.env,st'⟩ o.dst y)):=rfl
@[go_sem] theorem AKn {r:AV}:rdP P o s H pd i V r=(Xk P s.n s.env o r H H/\V H (⟨i,o.op,s.env,r⟩::pd) (s.put o.dst r)):=rfl
end
@[go_sem] theorem AKV {KK:AV->List Ob->Prop} {st1:List Ob} {rs:List Res}:AFg KK st1 rs=KK (retA (JE st1 rs).1) (JE st1 rs).2:=rfl
@[go_sem] theorem AIR {f:FuncId} {KK:AV->List Ob->Prop} {args:List AV} {st1:List Ob}:ADx P f KK args st1=CallE P f args (AFg KK st1):=rfl
theorem ABg {f:FuncId} {args:List AV} {KK:List Res->Prop} {B:Prop} (rs:List Res) (h:Ctr P f args rs) (hk:KK rs):Ns (CallE P f args KK) B:=.inl ⟨rs,h,hk⟩
theorem ABj {f:FuncId} {x:Option (List AV)} {KK:List Res->Prop} {A:Prop} {args:List AV} (rs:List Res) (hx:x=some args) (hc:rs.all EH=true) (h:Ctr P f args rs) (hk:KK rs) {C:Prop}:Ns A (Ns (BorE P f x KK) C):=.inr (.inl ⟨args,rs,hx,hc,h,hk⟩)
theorem ABz {f:FuncId} {st:List Ob} {args:List AV} {KK:AV->List Ob->Prop} {A B:Prop} (y:AV) (st':List Ob) (h:InlS P f st args y st') (hk:KK y st'):Ns A (Ns B (InlE P f st args KK)):=.inr (.inr ⟨y,st',h,hk⟩)
theorem DrK.call {o:Op} {c:Call} {f:FuncId} {K:AV->Prop} (ho:o = .call c) (hc:c.callee = .value (.func f)) {args:List AV} {rs:List Res} (hf:Xb s.st (c.args.toList.map (Eo s))=some (args,s.st)) (h:Ctr P f args rs) (hk:K (retA (Xe rs))):DrK P s o K:=by subst ho;refine⟨_, ?_,hk⟩;simp only[C9,hc];exact .inl ⟨args,rs,.inl hf,h,rfl⟩
end
theorem DrK.op {P:Program} {s:MS} {o:Op} {K:AV->Prop} {r:AV} (h:C9 P s o r) (hk:K r):DrK P s o K:=⟨r,h,hk⟩
attribute [go_sem] Nu oW AFZ ADp AFc ADv Rn XA same I4 Eo XW CG MS.put ADW dG QP uN MF Uo vwE vwQ ADh Um ADk yP ADl yO ADj yQ ADm AJE List.any_cons List.any_nil j_ I5 Vf cellsA DF O7 AGL UG fzC uH fzL fzA Xb Yb Qw Am I7
@[go_sem] theorem AHV {n:Nat}:Region.binds .any ⟨n,.data⟩=true:=rfl
@[go_sem] theorem AGT {n:Nat}:Region.binds .any ⟨n,.chain⟩=true:=rfl
@[go_sem] theorem AGU {n:Nat}:Region.binds .any ⟨n,.guard⟩=true:=rfl
@[go_sem] theorem AGV {n:Nat}:Region.binds .any ⟨n,.phase⟩=true:=rfl
@[go_sem] theorem AJd {b:Bool}:CondK b True True=True:=by cases b<;>simp[CondK]
@[go_sem] theorem AGW {i:Nat} {o:Oper} {H:List (Nat×List Ob)}:Xm none i o H=chainB o H:=rfl
@[go_sem] theorem AGX {i j p:Nat} {o:Oper} {H:List (Nat×List Ob)}:Xm (some (j,p)) i o H=if i=j then oz p H else chainB o H:=rfl
attribute [go_sem] Bj Xj Xk Xl Us chainB oz Yc ADy C9 List.any_toArray List.any_cons List.any_nil abD be LV Jw ai and_self
attribute [go_sem] AFd yS yT yU yV
attribute [go_sem] oU JE Xe retA Ol Post Rw PZ OwnL H7 Jv AAZ CV unpin Xf ABq AFP UH Jc Jv RY EW IZ AFD AHD AHE aUn
attribute [go_sem] abv bi aA aJ ag aj ab ae List.getElem?_nil abb List.drop_succ_cons aba abi ao ap List.set_cons_zero List.set_cons_succ List.modify_cons List.toList_toArray bc List.drop_nil List.take_nil
attribute [go_sem] nY abC aG and_self true_and yH eq_self aO aL decide_true abJ ax ne_eq not_false_eq_true not_true_eq_false aZ
attribute [go_sem] aD aH ah ac aw ay P7 be Bool.or_true abD
@[go_sem] theorem AKW {x:Value}:Ko (.c (.v x))=true:=rfl
@[go_sem] theorem AJe {xs:List (List Cl)}:Ko (.c (.sl xs))=true:=rfl
@[go_sem] theorem AIS {l:Nat}:Ko (.c (.ref l))=true:=rfl
@[go_sem] theorem AIT:Ko (.agg [])=true:=rfl
@[go_sem] theorem AJf {x:Value} {r:List Cl}:Ko (.agg (.v x::r))=Ko (.agg r):=rfl
@[go_sem] theorem AIU {xs:List (List Cl)} {r:List Cl}:Ko (.agg (.sl xs::r))=Ko (.agg r):=rfl
@[go_sem] theorem AHW {l:Nat} {r:List Cl}:Ko (.agg (.ref l::r))=Ko (.agg r):=rfl
@[go_sem] theorem AGY {n:Nat}:Ll n []=true:=rfl
@[go_sem] theorem AFn {n:Nat} {r:List Cl} {ys:List (List Cl)}:Ll n (r::ys)=(rowOk n r&&Ll n ys):=rfl
@[go_sem] theorem AJg {n:Nat} {r:List Cl}:rowOk n r=(r.length==n&&r.all fun c=>!HY c):=rfl
@[go_sem] theorem AKo {x:Value}:HY (.v x)=false:=rfl
@[go_sem] theorem AKX {x:List (List Cl)}:HY (.sl x)=false:=rfl
@[go_sem] theorem AJh {l:Nat}:HY (.ref l)=false:=rfl
@[go_sem] theorem AJi {ty sz:Nat} {xs:List (List Cl)}:Ko (.c (.ow ty sz xs))=false:=rfl
@[go_sem] theorem AKp {cl:List Cl}:mkA true cl = .agg cl:=rfl
@[go_sem] theorem AKq {c:Cl} {r:List Cl}:mkA false (c::r) = .c c:=rfl
@[go_sem] theorem AGZ {P:Program} {vars:List ResultVar} {g:Bool} {us:List Value} {M:List Cl->List AV->Prop} {s:MS}:AHP P vars g us M .normal s=AAk P vars g us M s:=rfl
@[go_sem] theorem AJj {P:Program} {vars:List ResultVar} {g:Bool} {us:List Value} {M:List Cl->List AV->Prop} {s:MS}:AHP P vars g us M .ret s=AAk P vars g us M s:=rfl
@[go_sem] theorem AKr:(true==true)=true:=rfl
@[go_sem] theorem AKs:(true==false)=false:=rfl
@[go_sem] theorem AKt:(false==true)=false:=rfl
@[go_sem] theorem AKu:(false==false)=true:=rfl
theorem AD7 (b:Bool):(b==true)=b:=AQA
theorem AB6 (b:Bool):(b==false) = !b:=AOo
attribute [go_sem] AD7 AB6
@[go_sem] theorem BL (k:IntKind) (n:Nat):E8 (.c (.v (.int k (n:Int))))=some n:=by simp[E8]
@[go_sem] theorem AIV (k:IntKind):E8 (.c (.v (.int k 0)))=some 0:=by simp[E8]
theorem wrap_i64 {n:Int} (h : -9223372036854775808<=n) (h2:n<=9223372036854775807):IntKind.i64.wrap n=n:=
 LU (by simp[Lit.wf,IntKind.min,IntKind.max,IntKind.signed,IntKind.bits]; omega)
theorem AA {α β:Type} (f:α->β) {l:List α} {k:Nat} (h:k<l.length):(l.map f)[k]?=some (f l[k]):=by simp[h]
theorem yu {c:Cl} (h:AB c=true):er c=c:=by cases c<;>simp_all [AB,er]
theorem Ry:∀ {cs:List Cl},DK cs=true->Kq cs=cs
 | [],_=>rfl
 | c::cs,h=>by simp only[DK,aI,ar] at h;rw[Kq,yu h.1,Ry (cs:=cs) h.2]
theorem I_:∀ {xs:List (List Cl)},GL xs=true->Qq xs=xs
 | [],_=>rfl
 | x::xs,h=>by simp only[GL,aI,ar] at h;rw[Qq,Ry h.1,I_ (xs:=xs) h.2]
theorem Fe {xs:List (List Cl)} (h:GL xs=true):DR xs=true:=
 aC.2 fun x hx=>aC.2 fun c hc=>by have:=aC.1 (aC.1 h x hx) c hc;cases c<;>simp_all [AB,Ij]
theorem TT {α:Type} {f:α->List Cl} {l:List α} (h:∀ x,(f x).all Ij=true):DR (l.map f)=true:=by unfold DR;grind
theorem Ctr.val {P:Program} {f:FuncId} {args:List AV} {ty sz:Nat} {xs:List (List Cl)} {wr:Bool} (h:Ctr P f args [.own ty sz xs wr]) (hp:GL xs=true):Ctr P f args [.val (.c (.sl xs))]:=by have:=h.frz;simp only[ao,ap,oK,I_ hp] at this;exact this
theorem Ctr.aggVal {P:Program} {f:FuncId} {args:List AV} {cl ys:List Cl} (h:Ctr P f args [.agg cl]) (he:Kq cl=ys):Ctr P f args [.val (.agg ys)]:=by subst he;exact h.frz
theorem Pe {α:Type} {f g:α->List Cl} (h:∀ x,Kq (f x)=g x) (l:List α):Qq (l.map f)=l.map g:=by grind [oJ,aaP]
section avgen
variable {w:World} {St:Nat->Nat->Prop} {st st':List Ob} {β β':Nat->Option Nat}
end avgen
section absorb
variable {w0:Bs} {St0 St:Nat->Nat->Prop} {β:Nat->Option Nat} {s:MS} {a:Act} {w:World}
def BJ (N l0 i:Nat) (R:List (List Cl)) (row':List Cl) (ob:Ob) (st:List Ob):List Ob:=(st.take N).set l0 ⟨ob.ty,ob.sz,R.set i row',ob.wr,ob.live⟩
theorem Core.absTrim (h:Core w0 St0 St β s a w) {N l0 i:Nat} {keys:List Nat} {ob:Ob} {R:List (List Cl)} {row row':List Cl} (hl0:l0<N) (hob:DF s.st l0=some ob) (hxs:ob.xs=R.set i row) (hi:i<R.length) (hwr:ob.wr=true)
  (ho:OwnL s.st row row' [l0] fun used=>∀ l∈used,l=l0\/N<=l) (henv:(keys.all fun k=>JR N (CG s.env k))=true) (hst:(BJ N l0 i R row' ob s.st).all (Aq N)=true) :
  Core w0 St0 St β ⟨s.n,keys.map fun k=>(k,CG s.env k),BJ N l0 i R row' ob s.st⟩ a w:=by
 have hs0:(⟨ob.ty,ob.sz,ob.xs.set i row',ob.wr,ob.live⟩:Ob)=⟨ob.ty,ob.sz,R.set i row',ob.wr,ob.live⟩:=by rw[hxs,al]
 have hc:=h.closeRow (i:=i) (used:=(List.range' N s.st.length)) hob (by rw[hxs]; simp[hi]) hwr AOn (OwnL.mono _ _ _ _ _ (fun us hu hk l hl=>by
  rcases hk l hl with e | e
  .exact .inl e
  .rcases hu l hl with q | q
   .exact .inl (by simpa using q)
   .exact .inr AOn) ho)
 have ht:(Aa (List.range' N s.st.length) l0 i row' ob s.st).take N=BJ N l0 i R row' ob s.st:=by unfold Aa BJ;rw[df _ AOn,hs0,List.take_set]
 have:=hc.trim (N:=N) (keys:=keys) ⟨henv,by rw[<- hst,<- ht]⟩
 unfold Go.Vm.trim at this
 simp only[ht] at this
 exact this
end absorb
def AB7 (N l0:Nat) (keys:List Nat) (s t:MS):Prop:=∃ (i:Nat) (R:List (List Cl)) (row row':List Cl) (ob:Ob),(l0<N/\DF s.st l0=some ob/\ob.xs=R.set i row/\i<R.length/\ob.wr=true)/\OwnL s.st row row' [l0] (fun used=>∀ l∈used,l=l0\/N<=l) /\
 ((keys.all fun k=>JR N (CG s.env k))=true/\(BJ N l0 i R row' ob s.st).all (Aq N)=true)/\(⟨s.n,keys.map fun k=>(k,CG s.env k),BJ N l0 i R row' ob s.st⟩:MS)=t
theorem ACd {s:MS} {body:MS->(MS->Prop)->Prop} (N l0:Nat) (keys:List Nat) {A:Type} (f:A->MS) (p:A->Prop) (μ:A->Nat) (x0:A) (h0:QS N keys s/\trim N keys s=f x0/\p x0)
  (h:∀ x,p x->body (f x) fun s'=>∃ y,True/\((QS N keys s'/\trim N keys s'=f y)\/AB7 N l0 keys s' (f y))/\p y/\μ y<μ x):LoopK s body:=
 ⟨fun _=>True,fun s t=>(QS N keys s/\trim N keys s=t)\/AB7 N l0 keys s t,A,f,p,μ,fun s t _ h=>by
  rcases h with ⟨h1,h2⟩ | ⟨i,R,row,row',ob,⟨g1,g2,g3,g4,g5⟩,g6,⟨g7,g8⟩,g9⟩
  .exact⟨by rw[<- h2]; rfl,fun w0 St0 St β a w hc=>⟨St,β,by rw[<- h2]; exact hc.trim h1⟩⟩
  .exact⟨by rw[<- g9],fun w0 St0 St β a w hc=>⟨St,β,by rw[<- g9]; exact hc.absTrim g1 g2 g3 g4 g5 g6 g7 g8⟩⟩,⟨x0,trivial,.inl ⟨h0.1,h0.2.1⟩,h0.2.2⟩,h⟩
theorem ABf {s:MS} {body:MS->(MS->Prop)->Prop} (N:Nat) (keys:List Nat) {A:Type} (f:A->MS) (p:A->Prop) (μ:A->Nat) (x0:A) (h0:QS N keys s/\trim N keys s=f x0/\p x0)
  (h:∀ x,p x->body (f x) fun s'=>∃ y,QS N keys s'/\trim N keys s'=f y/\p y/\μ y<μ x):LoopK s body:=
 ⟨QS N keys,fun s t=>trim N keys s=t,A,f,p,μ,fun s t h1 h2=>⟨by rw[<- h2]; rfl,fun w0 St0 St β a w h=>⟨St,β,by rw[<- h2]; exact h.trim h1⟩⟩,⟨x0,h0⟩,h⟩
theorem LoopR.mk {s:MS} {body:MS->(MS->Prop)->Prop} (keys:List Nat) {A:Type} (f:A->MS) (p:A->Prop) (μ:A->Nat) (x0:A) (sel0:List (Nat×Bool)) (h0:Ro sel0 keys s/\rel sel0 keys s=f x0) (hp:p x0)
  (h:∀ x,p x->body (f x) fun s'=>∃ y,True/\(∃ sel,Ro sel keys s'/\rel sel keys s'=f y)/\p y/\μ y<μ x):LoopK s body:=
 ⟨fun _=>True,fun s t=>∃ sel,Ro sel keys s/\rel sel keys s=t,A,f,p,μ,fun s t _ ⟨sel,h1,h2⟩=>⟨by rw[<- h2]; rfl,fun w0 St0 St β a w h=>⟨St,V3 sel β,by rw[<- h2]; exact h.rel h1⟩⟩,⟨x0,trivial,⟨sel0,h0⟩,hp⟩,h⟩
theorem AEU {s:MS} {body:MS->(MS->Prop)->Prop} (N l0:Nat) (keys:List Nat) {A:Type} (f:A->MS) (p:A->Prop) (μ:A->Nat) (x0:A) (sel0:List (Nat×Bool)) (h0:Ro sel0 keys s/\rel sel0 keys s=f x0) (hp:p x0)
  (h:∀ x,p x->body (f x) fun s'=>∃ y,True/\(∃ sel,Ro sel keys s'/\(rel sel keys s'=f y\/AB7 N l0 keys (rel sel keys s') (f y)))/\p y/\μ y<μ x):LoopK s body:=
 ⟨fun _=>True,fun s t=>∃ sel,Ro sel keys s/\(rel sel keys s=t\/AB7 N l0 keys (rel sel keys s) t),A,f,p,μ,fun s t _ ⟨sel,h1,h2⟩=>by
  rcases h2 with h2 | ⟨i,R,row,row',ob,⟨g1,g2,g3,g4,g5⟩,g6,⟨g7,g8⟩,g9⟩
  .exact⟨by rw[<- h2]; rfl,fun w0 St0 St β a w h=>⟨St,V3 sel β,by rw[<- h2]; exact h.rel h1⟩⟩
  .exact⟨by rw[<- g9]; rfl,fun w0 St0 St β a w hc=>⟨St,V3 sel β,by rw[<- g9]; exact(hc.rel h1).absTrim g1 g2 g3 g4 g5 g6 g7 g8⟩⟩,⟨x0,trivial,⟨sel0,h0.1,.inl h0.2⟩,hp⟩,h⟩
theorem AGa {sel:List (Nat×Bool)} {x:List Cl} (h:x.all Ij=true):x.map (QT sel)=x:=by
 conv=>rhs; rw[<- List.map_id x]
 refine aaP fun c hc=>?_;have:=aC.1 h c hc;cases c<;>simp_all [Ij,QT]
theorem AGb {sel:List (Nat×Bool)} {x:List Cl} (h:x.all Ij=true):x.all (inC sel)=true:=aC.2 fun c hc=>by have:=aC.1 h c hc;cases c<;>simp_all [Ij,inC]
theorem Ib {α:Type} {f:α->List Cl} (hf:∀ x,(f x).all Ij=true) (sel:List (Nat×Bool)) (out:List α) (r row':List Cl) :
  (out.map f ++ [r]).map (fun x=>x.map (QT sel))=(out.map f ++ [row']).set out.length (r.map (QT sel)):=by
 rw[bl,abn _ _ AOm]
 congr 1
 .grind [List.map_id,aaP,AGa]
 .simp
theorem BM {α:Type} {f:α->List Cl} (out:List α) (x:α):(out.map f ++ [f x]).set out.length (f x)=(out ++ [x]).map f:=by simp_all
theorem Ic {α:Type} {f:α->List Cl} (hf:∀ x,(f x).all Ij=true) (sel:List (Nat×Bool)) (out:List α) {r:List Cl} (hr:r.all (inC sel)=true):((out.map f ++ [r]).all fun x=>x.all (inC sel))=true:=by grind [aC,AGb]
theorem AY {α:Type} {f:α->List Cl} {l:List α} (h:∀ x,DK (f x)=true):GL (l.map f)=true:=by unfold GL;grind
def M_ (x:Option AV) (K:AV->Prop):Prop:=match x with
 | some y=>K y
 | none=>False
@[go_sem] theorem AHX {y:AV} {K:AV->Prop}:M_ (some y) K=K y:=rfl
def CallF (P:Program) (f:FuncId) (args:List AV) (K:AV->Prop):Prop:=∃ rs,Ctr P f args rs/\K (retA (Xe rs))
theorem AAt {P:Program} {f:FuncId} {args:List AV} {K:AV->Prop} {B:Prop} (rs:List Res) (h:Ctr P f args rs) (hk:K (retA (Xe rs))):Ns (CallF P f args K) B:=.inl ⟨rs,h,hk⟩
theorem CW {P:Program} {f:FuncId} {args args':List AV} {K:List Res->Prop} {B:Prop} {rs:List Res} (h:Ctr P f args' rs) (hk:ZA rs->K rs) (e:args=args':= by simp only[go_sem]):Ns (CallK P f args K) B:= .inl ⟨rs,e▸h,hk⟩
theorem CY {P:Program} {f:FuncId} {args args':List AV} {K:AV->Prop} {B:Prop} {rs:List Res} (h:Ctr P f args' rs) (hk:K (retA (Xe rs))) (e:args=args':= by simp only[go_sem]):Ns (CallF P f args K) B:= .inl ⟨rs,e▸h,hk⟩
theorem CZ {P:Program} {f:FuncId} {args args':List AV} {KK:List Res->Prop} {B:Prop} {rs:List Res} (h:Ctr P f args' rs) (hk:KK rs) (e:args=args':= by simp only[go_sem]):Ns (CallE P f args KK) B:= .inl ⟨rs,e▸h,hk⟩
def AHY (P:Program) (f:FuncId) (x:Option (List AV)) (K:AV->Prop):Prop:=∃ args rs,x=some args/\rs.all EH=true/\Ctr P f args rs/\K (retA (Xe rs))
theorem ACg {P:Program} {f:FuncId} {x:Option (List AV)} {K:AV->Prop} {A:Prop} {args:List AV} (rs:List Res) (hx:x=some args) (hc:rs.all EH=true) (h:Ctr P f args rs) (hk:K (retA (Xe rs))) {C:Prop}:Ns A (Ns (AHY P f x K) C):=.inr (.inl ⟨args,rs,hx,hc,h,hk⟩)
def AHZ (P:Program) (f:FuncId) (st:List Ob) (args:List AV) (K:AV->Prop):Prop:=∃ r,InlS P f st args r st/\K r
theorem AEV {P:Program} {f:FuncId} {st:List Ob} {args:List AV} {K:AV->Prop} {A B:Prop} (r:AV) (h:InlS P f st args r st) (hk:K r):Ns A (Ns B (AHZ P f st args K)):=.inr (.inr ⟨r,h,hk⟩)
def AAm (P:Program) (f:FuncId) (x:Option (List AV×List Ob)) (st:List Ob) (K:AV->Prop):Prop:=∃ args,x=some (args,st)/\CallF P f args K
@[go_sem] theorem AHa {P:Program} {f:FuncId} {args:List AV} {st:List Ob} {K:AV->Prop}:AAm P f (some (args,st)) st K=CallF P f args K:=by simp[AAm]
theorem Pg {P:Program} {s:MS} {o:Op} {K:AV->Prop} (h:∀ r,C9 P s o r=(I4 P s o=some r)):DrK P s o K=M_ (I4 P s o) K:=by unfold DrK;simp only[h];cases I4 P s o<;>simp[M_]
section
variable {P:Program} {s:MS} {K:AV->Prop}
@[go_sem] theorem AJk {x:Operand}:DrK P s (.move x) K=M_ (I4 P s (.move x)) K:=Pg fun _=>rfl
@[go_sem] theorem AHb {x:Operand}:DrK P s (.assign x) K=M_ (I4 P s (.assign x)) K:=Pg fun _=>rfl
@[go_sem] theorem AJl {c x y:Operand}:DrK P s (.pick c x y) K=M_ (I4 P s (.pick c x y)) K:=Pg fun _=>rfl
@[go_sem] theorem AJm {T:TypeId} {x:Operand}:DrK P s (.load T x) K=M_ (I4 P s (.load T x)) K:=Pg fun _=>rfl
@[go_sem] theorem AFo {x:Operand}:DrK P s (.nilCheck x) K=M_ (I4 P s (.nilCheck x)) K:=Pg fun _=>rfl
@[go_sem] theorem AIW {b:BinOp} {T T':TypeId} {x y:Operand}:DrK P s (.binOp b T x y T') K=M_ (I4 P s (.binOp b T x y T')) K:=Pg fun _=>rfl
@[go_sem] theorem AJn {b:UnOp} {T:TypeId} {x:Operand}:DrK P s (.unOp b T x) K=M_ (I4 P s (.unOp b T x)) K:=Pg fun _=>rfl
@[go_sem] theorem AGc {T T':TypeId} {x:Operand}:DrK P s (.convert T T' x) K=M_ (I4 P s (.convert T T' x)) K:=Pg fun _=>rfl
@[go_sem] theorem AEc {T:TypeId} {x:Operand} {i:Nat}:DrK P s (.fieldAddr T x i) K=M_ (I4 P s (.fieldAddr T x i)) K:=Pg fun _=>rfl
@[go_sem] theorem AIX {T:TypeId} {x:Operand} {i:Nat}:DrK P s (.field T x i) K=M_ (I4 P s (.field T x i)) K:=Pg fun _=>rfl
@[go_sem] theorem AEd {T:TypeId} {x y:Operand}:DrK P s (.indexAddr T x y) K=M_ (I4 P s (.indexAddr T x y)) K:=Pg fun _=>rfl
@[go_sem] theorem AGd {x:Operand} {i:Nat}:DrK P s (.extract x i) K=M_ (I4 P s (.extract x i)) K:=Pg fun _=>rfl
@[go_sem] theorem AKY {args:Array Operand} {ts:Array TypeId}:DrK P s (.call ⟨.builtin .len,args,ts⟩) K=M_ (I4 P s (.call ⟨.builtin .len,args,ts⟩)) K:=Pg fun _=>rfl
@[go_sem] theorem AJo {f:FuncId} {args:Array Operand} {ts:Array TypeId}:DrK P s (.call ⟨.value (.func f),args,ts⟩) K=Ns (AAm P f (Xb s.st (args.toList.map (Eo s))) s.st K) (Ns (AHY P f (UH s.st (args.toList.map (Eo s))) K) (AHZ P f s.st (args.toList.map (Eo s)) K)):=by
 simp only[DrK,AAm,CallF,C9,AHY,AHZ,Ns];apply propext;constructor
 .rintro⟨r,⟨args',rs,h1,h2,rfl⟩ | hr,h3⟩
  .rcases h1 with h1 | ⟨h1,h4⟩
   .exact .inl ⟨args',h1,rs,h2,h3⟩
   .exact .inr (.inl ⟨args',rs,h1,h4,h2,h3⟩)
  .exact .inr (.inr ⟨r,hr,h3⟩)
 .rintro(⟨args',h1,rs,h2,h3⟩ | ⟨args',rs,h1,h4,h2,h3⟩ | ⟨r,hr,h3⟩)
  .exact⟨_,.inl ⟨args',rs,.inl h1,h2,rfl⟩,h3⟩
  .exact⟨_,.inl ⟨args',rs,.inr ⟨h1,h4⟩,h2,rfl⟩,h3⟩
  .exact⟨r,.inr hr,h3⟩
end
def AB8 (b:Bool) (x:Option (AV×List Ob)) (st:List Ob) (K:AV->Prop):Prop:=match b,x with
 | true,some (r,st')=>st'=st/\K r
 | _,_=>False
@[go_sem] theorem AIY {r:AV} {st:List Ob} {K:AV->Prop}:AB8 true (some (r,st)) st K=K r:=by simp[AB8]
@[go_sem] theorem AIZ {P:Program} {s:MS} {K:AV->Prop} {T:TypeId} {ps:Array (Nat×Operand)}:DrK P s (.build T ps) K=AB8 (EG P T) (Um P s T ps.toList) s.st K:=by unfold DrK AB8;simp only[C9];grind
@[go_sem] theorem AIa {P:Program} {s:MS} {K:AV->Prop} {T:TypeId} {x:Operand} {lo hi:Option Operand}:DrK P s (.slice T x lo hi none) K=AB8 true (Uo P s T (Eo s x) lo hi) s.st K:=by unfold DrK AB8;simp only[C9];grind
theorem MV {l:Int} (h:WfA (.c (.v (.int .i64 l)))):l<=9223372036854775807:=by simp only[WfA,uO,Qv,Lit.wf,IntKind.min,IntKind.max,IntKind.signed,IntKind.bits] at h;grind
theorem yw {s:ByteArray} (h:uO (.v (.string s))):s.size<=9223372036854775807:=by have h':decide (s.size<=maxLen)=true:=h;have h2:=iT h';simpa [maxLen] using h2
def grow (xs:List (List Cl)) (z:List Cl) (k:Nat):List (List Cl):=xs.take k++List.replicate (xs.length-k) z
theorem DL {xs:List (List Cl)} {z:List Cl}:grow xs z 0=List.replicate xs.length z:=by simp[grow]
theorem AD8 {xs:List (List Cl)} {z:List Cl}:grow xs z xs.length=xs:=by simp[grow]
theorem Yg {xs:List (List Cl)} {z:List Cl} {k:Nat} (h:k<=xs.length):(grow xs z k).length=xs.length:=by simp[grow]; omega
theorem AFp {xs:List (List Cl)} {z:List Cl} {k:Nat} (h:k<xs.length):(grow xs z k)[k]?=some z:=by
 have h1:(xs.take k).length=k:=by rw[aU]; omega
 rw[grow,aS (Nat.le_of_eq h1),h1,jv,abh,aV AOl]
theorem AD9 {xs:List (List Cl)} {z:List Cl} {k:Nat} (h:k<xs.length):(grow xs z k).set k xs[k]=grow xs z (k+1):=by
 have h1:(xs.take k).length=k:=AOn;apply abl;intro i;rw[wu,Yg AOl];by_cases e:k=i
 .subst e;rw[aV rfl,aV h,grow,aY AOn];simp[h]
 .rw[aR e];simp only[grow,List.getElem?_append,aU,aaC,abh];grind
theorem Bq {α:Type} {f:α->List Cl} {xs:List α} {z:List Cl} {k:Nat} (h:k<=xs.length):(grow (xs.map f) z k).length=xs.length:=by grind [Yg,aa]
theorem EP {α:Type} {f:α->List Cl} {xs:List α} {z:List Cl} {k:Nat} (h:k<xs.length):(grow (xs.map f) z k)[k]?=some z:=AFp APO
theorem Ht {α:Type} {f:α->List Cl} {xs:List α} {z:List Cl} {k:Nat} (h:k<xs.length):(grow (xs.map f) z k).set k (f xs[k])=grow (xs.map f) z (k+1):=by have h2:k<(xs.map f).length:=APO;have:=AD9 (z:=z) h2;grind
theorem Hu {α:Type} {f:α->List Cl} {xs:List α} {z:List Cl}:grow (xs.map f) z xs.length=xs.map f:=by grind [AD8,aa]
theorem yx {x:List Cl} (h:DK x=true):x.all (JQ 1)=true:=by refine aC.2 fun c hc=>?_;have:=aC.1 h c hc;cases c<;>simp_all [AB,JQ]
theorem Nv {α:Type} {f:α->List Cl} (hf:∀ x,DK (f x)=true) {z:List Cl} (hz:z.all (JQ 1)=true) {xs:List α} {k T w:Nat} {wr live:Bool} :
  (List.take 1 [(⟨T,w,grow (xs.map f) z k,wr,live⟩:Ob)]).all (Aq 1)=true:=by
 simp only[aba,abi,aI,aM,aw,Aq,aaN]
 refine .inr (aC.2 fun x hx=>?_)
 simp only[grow,yF] at hx
 grind [uF,yx]
theorem uz {N:Nat} {x:List Cl} (h:x.all Ij=true):x.all (JQ N)=true:=by refine aC.2 fun c hc=>?_;have:=aC.1 h c hc;cases c<;>simp_all [Ij,JQ]
theorem Jy {α:Type} {f:α->List Cl} (hf:∀ x,(f x).all Ij=true) {z:List Cl} (hz:z.all (JQ 1)=true) {xs:List α} {k T w:Nat} {wr live:Bool} :
  [(⟨T,w,grow (xs.map f) z k,wr,live⟩:Ob)].all (Aq 1)=true:=by
 simp only[aI,aM,aw,Aq,aaN]
 refine .inr (aC.2 fun x hx=>?_)
 simp only[grow,yF] at hx
 grind [uF,uz]
theorem JF:∀ (a b:List Cl),Kq (a++b)=Kq a++Kq b
 | [],b=>by simp[Kq]
 | c::a,b=>by simp[Kq,JF a b]
attribute [go_sem] aa4 Nat.reduceBEq Nat.reduceAdd Nat.reduceSub Nat.reduceMul Nat.reduceLT Nat.reduceLeDiff Nat.reduceEqDiff Nat.succ_ne_zero reduceIte true_or or_true
