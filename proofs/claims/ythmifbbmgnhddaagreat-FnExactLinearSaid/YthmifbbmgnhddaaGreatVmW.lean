/- A part. -/
import Derived.Test.YthmifbbmgnhddaaGreatVmUb
set_option linter.unusedSimpArgs false
set_option linter.unusedVariables false
namespace Go.Vm
open Go.RowKit
def AIP (P:Program) (y:Code) (Q:Ex→MS→Prop):Ex→MS→Prop:=AL_ (vp P y) Q
def cndC (P:Program) (x y:Code) (s:MS) (Q:Ex→MS→Prop) (b:Bool):Prop:=cndM (vp P x) (vp P y) s Q b
def AMF (P:Program) (x:Code) (Q:Ex→MS→Prop) (s:MS) (K:MS→Prop):Prop:=AMA (vp P x) Q s K
section
variable {P:Program} {s:MS} {Q:Ex→MS→Prop} {x y:Code} {K:MS→Prop}
@[go_sem] theorem AM7 {σ:List Nat} {e1 e2:Nat} {l:List Oper}:Ij σ e1 e2 l=tY σ e1 e2 l σ:=rfl
@[go_sem] theorem AMG {σ:List Nat} {e1 e2:Nat} {l:List Oper}:tY σ e1 e2 l [] = []:=rfl
@[go_sem] theorem ALF {σ:List Nat} {e1 e2 i:Nat} {l:List Oper} {is:List Nat}:tY σ e1 e2 l (i::is)=ACw σ e1 e2 i l[i]? (tY σ e1 e2 l is):=rfl
@[go_sem] theorem AKS {σ:List Nat} {e1 e2 i:Nat} {d:Option Nat} {o:Op} {ty:TypeId} {ps:String} {af:Array Edge} {g:Option (Nat×Bool)} {r:List Oper} :
  ACw σ e1 e2 i (some ⟨d,o,ty,ps,af,g⟩) r=⟨d,o,ty,ps,(yh σ (AGW e1 e2 i af.toList)).toArray,rnG σ g⟩::r:=rfl
@[go_sem] theorem AMH {σ:List Nat}:yh σ [] = []:=rfl
@[go_sem] theorem ALG {σ:List Nat} {i:Nat} {g:Ground} {es:List Edge}:yh σ (⟨i,g⟩::es)=⟨NL σ i,g⟩::yh σ es:=rfl
@[go_sem] theorem AMI {σ:List Nat}:rnG σ none=none:=rfl
@[go_sem] theorem AMJ {σ:List Nat} {j:Nat} {b:Bool}:rnG σ (some (j,b))=some (NL σ j,b):=rfl
@[go_sem] theorem AMK {i:Nat}:NL [] i=0:=rfl
@[go_sem] theorem ALH {x i:Nat} {xs:List Nat}:NL (x::xs) i=if x=i then 0 else NL xs i+1:=by
 simp only[NL]
 grind [Nat.eq_of_beq_eq_true,abL]
@[go_sem] theorem AM8 {e1 e2 i:Nat} {l:List Edge}:AGW e1 e2 i l=if i=e2 then⟨e1,.data⟩::l else l:=by
 simp only[AGW]
 grind [Nat.eq_of_beq_eq_true,abL]
@[go_sem] theorem AM9:vp P .skip s Q=Q .normal s:=rfl
@[go_sem] theorem ANj {id:Nat} {ops:Array Oper}:vp P (.region id ops false) s Q=vpR P ops (Q .normal) s:=rfl
@[go_sem] theorem AM_ {id:Nat} {ops:Array Oper}:vp P (.region id ops true) s Q=DrawK P ops s (Q .normal):=rfl
@[go_sem] theorem ANk:vp P (.seq x y) s Q=vp P x s (AIP P y Q):=rfl
@[go_sem] theorem ANA {c:Operand}:vp P (.cond c x y) s Q=ACu (FC s c) (cndC P x y s Q):=rfl
@[go_sem] theorem AML {id:Nat}:vp P (.block id x) s Q=vp P x s (AEX id Q):=rfl
@[go_sem] theorem ANB:vp P (.loop x) s Q=LoopK s (AMF P x Q):=rfl
@[go_sem] theorem ANC {id:Nat}:vp P (.exit id) s Q=Q (.exit id) s:=rfl
@[go_sem] theorem AMM:vp P (.scope x) s Q=vp P x s Q:=rfl
@[go_sem] theorem ANl:vp P .ret s Q=Q .ret s:=rfl
@[go_sem] theorem AI8:AIP P y Q .normal s=vp P y s Q:=rfl
@[go_sem] theorem ALI {i:Nat}:AIP P y Q (.exit i) s=Q (.exit i) s:=rfl
@[go_sem] theorem AMN:AIP P y Q .ret s=Q .ret s:=rfl
@[go_sem] theorem ALJ:cndC P x y s Q true=vp P x s Q:=AEY
@[go_sem] theorem AKT:cndC P x y s Q false=vp P y s Q:=ABh
theorem AAP {b:Bool} (h1:b=true→vp P x s Q) (h2:b=false→vp P y s Q):cndC P x y s Q b:=cndM.mk h1 h2
@[go_sem] theorem AI9 {id:Nat}:AEX id Q .normal s=Q .normal s:=rfl
@[go_sem] theorem ALK {id i:Nat}:AEX id Q (.exit i) s=if i=id then Q .normal s else Q (.exit i) s:=rfl
@[go_sem] theorem AMO {id:Nat}:AEX id Q .ret s=Q .ret s:=rfl
@[go_sem] theorem ANE:AMF P x Q s K=vp P x s (AGg K Q):=rfl
@[go_sem] theorem AI_:AGg K Q .normal s=K s:=rfl
@[go_sem] theorem ALM {i:Nat}:AGg K Q (.exit i) s=Q (.exit i) s:=rfl
@[go_sem] theorem AMP:AGg K Q .ret s=Q .ret s:=rfl
@[go_sem] theorem ANF {ops:Array Oper}:vpO P ops K [] s=K s:=rfl
@[go_sem] theorem AMQ {ops:Array Oper} {o:Oper} {rest:List Oper}:vpO P ops K (o::rest) s=U6 (tK ops s.env o.guard) (gO P o (vpO P ops K rest) s):=rfl
@[go_sem] theorem ANG {ops:Array Oper}:vpD P ops K [] s=K s:=rfl
@[go_sem] theorem AMR {ops:Array Oper} {o:Oper} {rest:List Oper}:vpD P ops K (o::rest) s=U6 (tK ops s.env o.guard) (gD P o (vpD P ops K rest) s):=rfl
@[go_sem] theorem ANH {d:Option Nat} {v:AV} {st':List Ob}:AGY s d K v st'=K (MS.put ⟨s.n,s.env,st'⟩ d v):=rfl
@[go_sem] theorem AMS {d:Option Nat} {v:AV}:yc s d K v=K (s.put d v):=rfl
@[go_sem] theorem ANI {d:Option Nat} {st1:List Ob} {rs:List Res}:AGZ s d K st1 rs=K (MS.put ⟨s.n,s.env,(KG st1 rs).2⟩ d (retA (KG st1 rs).1)):=rfl
@[go_sem] theorem ALN {f:FuncId} {d:Option Nat} {args:List AV} {st1:List Ob}:ABg P f s d K args st1=CallK P f args (AGZ s d K st1):=rfl
@[go_sem] theorem AJA {vars:List ResultVar} {rs:List Res}:AIO P vars rs .normal s=Post P vars rs s:=rfl
theorem AE2 {vars:List ResultVar} {rs:List Res} {t:MS} (h:Head s t) (hp:Post P vars rs t):EndH P vars rs .ret s:=⟨t,h,hp⟩
@[go_sem] theorem AMT {vars:List ResultVar} {rs:List Res}:AIO P vars rs .ret s=Post P vars rs s:=rfl
def AGp (x:Option (List AV)) (m:Nat) (KK:AV→MS→Prop) (t:MS):Prop:=match x with
 | some xs=>KK (retA xs) ⟨m,unE t.env,t.st⟩
 | none=>False
@[go_sem] theorem AKU {vars:List ResultVar} {m:Nat} {KK:AV→MS→Prop} {t:MS}:Pj P vars m KK .ret t=AGp (PR P t vars) m KK t:=by unfold Pj AGp; rfl
@[go_sem] theorem AHG {vars:List ResultVar} {m:Nat} {KK:AV→MS→Prop} {t:MS}:Pj P vars m KK .normal t=AGp (PR P t vars) m KK t:=by unfold Pj AGp; rfl
@[go_sem] theorem ALO {xs:List AV} {m:Nat} {KK:AV→MS→Prop} {t:MS}:AGp (some xs) m KK t=KK (retA xs) ⟨m,unE t.env,t.st⟩:=rfl
@[go_sem] theorem ANJ {d:Option Nat} {K:MS→Prop} {x:AV} {t:MS}:AMD d K x t=K (t.put d x):=rfl
@[go_sem] theorem ANK {st:List Ob} {env:List (Nat×AV)} {r x:AV} {t:MS}:AME st env r x t=(t.st=st∧t.env=env∧x=r):=rfl
attribute [go_sem] uB shE unE AC2
theorem AAN {f:FuncId} {args:List AV} {K:List Res→Prop} {B:Prop} (rs:List Res) (h:Ctr P f args rs) (hk:lm rs→K rs):QS (CallK P f args K) B:=.inl ⟨rs,h,hk⟩
theorem ABQ {f:FuncId} {x:Option (List AV)} {K:List Res→Prop} {A B:Prop} {args:List AV} (rs:List Res) (hx:x=some args) (hc:rs.all O7=true) (h:Ctr P f args rs) (hk:lm rs→K rs):QS A (QS (BorK P f s x K) B):=.inr (.inl ⟨args,rs,hx,hc,h,hk⟩)
theorem ACg {f:FuncId} {A B C:Prop} {args rest:List AV} {d:Option Nat} {zs cl:List Cl} {M:List Cl→List AV→Prop} (g:Bool) (h:MCtr P f g cl rest M) (hx:args=mkA g zs::rest) (ho:OwnL s.st zs cl [] (fun _=>True)) (h1:rest.all AEP=true)
  (hg:g=true∨zs.length=1) (hk:∀ cl' rs,M cl' rs→(rs.all isV=true∧Z_ cl cl')∧K (MS.put ⟨s.n,s.env,Ji s.st zs cl'⟩ d (retA rs))):QS A (QS B (QS (MutK P f s args d K) C)):=.inr (.inr (.inl ⟨rest,g,zs,cl,M,hx,hg,ho,h1,h,hk⟩))
@[go_sem] theorem ANL {x:Option (Nat×Nat)} {ops:Array Oper} {i:Nat} {H:List (Nat×List Ob)} {pd:List PE}:vpE P x ops K [] i H pd s=K s:=rfl
@[go_sem] theorem AMU {x:Option (Nat×Nat)} {ops:Array Oper} {o:Oper} {rest:List Oper} {i:Nat} {H:List (Nat×List Ob)} {pd:List PE}:vpE P x ops K (o::rest) i H pd s=U6 (tK ops s.env o.guard) (gE P x o s H pd i (vpE P x ops K rest (i+1))):=rfl
section
variable {x:Option (Nat×Nat)} {o:Oper} {H:List (Nat×List Ob)} {pd:List PE} {i:Nat} {V:List (Nat×List Ob)→List PE→MS→Prop}
@[go_sem] theorem ANM:gE P x o s H pd i V true=AGe P x o s H pd i V (ZV o.op):=LZ
@[go_sem] theorem AKV:AGe P x o s H pd i V false=DrK P s o.op (rdP P o s H pd i V):=MZ
@[go_sem] theorem ALP:AGe P x o s H pd i V true=CondK (Yb x i o H) (AGd P s o.op (AIK P o s H pd i V)) False:=LZ
@[go_sem] theorem ANN {y:AV} {st':List Ob}:AIK P o s H pd i V y st'=(Ya P s.n o st' pd∧V ((i+1,st')::H) (Vg o pd) (MS.put ⟨s.n,s.env,st'⟩ o.dst y)):=rfl
@[go_sem] theorem ANm {r:AV}:rdP P o s H pd i V r=(YZ P s.n s.env o r H H∧V H (⟨i,o.op,s.env,r⟩::pd) (s.put o.dst r)):=rfl
end
@[go_sem] theorem ANO {KK:AV→List Ob→Prop} {st1:List Ob} {rs:List Res}:AIJ KK st1 rs=KK (retA (KG st1 rs).1) (KG st1 rs).2:=rfl
@[go_sem] theorem ALQ {f:FuncId} {KK:AV→List Ob→Prop} {args:List AV} {st1:List Ob}:AGc P f KK args st1=CallE P f args (AIJ KK st1):=rfl
theorem ABO {f:FuncId} {args:List AV} {KK:List Res→Prop} {B:Prop} (rs:List Res) (h:Ctr P f args rs) (hk:KK rs):QS (CallE P f args KK) B:=.inl ⟨rs,h,hk⟩
theorem BorE.mk {f:FuncId} {x:Option (List AV)} {KK:List Res→Prop} {A:Prop} {args:List AV} (rs:List Res) (hx:x=some args) (hc:rs.all O7=true) (h:Ctr P f args rs) (hk:KK rs) {C:Prop}:QS A (QS (BorE P f x KK) C):=.inr (.inl ⟨args,rs,hx,hc,h,hk⟩)
theorem AE3 {f:FuncId} {st:List Ob} {args:List AV} {KK:AV→List Ob→Prop} {A B:Prop} (y:AV) (st':List Ob) (h:InlS P f st args y st') (hk:KK y st'):QS A (QS B (InlE P f st args KK)):=.inr (.inr ⟨y,st',h,hk⟩)
theorem DrK.call {o:Op} {c:Call} {f:FuncId} {K:AV→Prop} (ho:o = .call c) (hc:c.callee = .value (.func f)) {args:List AV} {rs:List Res} (hf:XD s.st (c.args.toList.map (FC s))=some (args,s.st)) (h:Ctr P f args rs) (hk:K (retA (YU rs))):DrK P s o K:=by
 subst ho
 refine⟨_, ?_,hk⟩
 simp only[Bz,hc]
 exact .inl ⟨args,rs,.inl hf,h,rfl⟩
end
theorem DrK.op {P:Program} {s:MS} {o:Op} {K:AV→Prop} {r:AV} (h:Bz P s o r) (hk:K r):DrK P s o K:=⟨r,h,hk⟩
attribute [go_sem] Ol tK AIB AGS AIE AGa TL X7 same JJ FC YN CV MS.put AGC ig Qv yO MW Vf Vd ABY ABX AGP ABZ AL8 List.any_cons List.any_nil oD JC XC cellsA EH Ph AI4 U3 fzC yJ fzL fzA XD U8 Qu Ak J3
@[go_sem] theorem AKW {n:Nat}:Region.binds .any ⟨n,.data⟩=true:=rfl
@[go_sem] theorem AJB {n:Nat}:Region.binds .any ⟨n,.chain⟩=true:=rfl
@[go_sem] theorem AJC {n:Nat}:Region.binds .any ⟨n,.guard⟩=true:=rfl
@[go_sem] theorem AJD {n:Nat}:Region.binds .any ⟨n,.phase⟩=true:=rfl
@[go_sem] theorem AMV {b:Bool}:CondK b True True=True:=by cases b<;>simp[CondK]
@[go_sem] theorem AJE {i:Nat} {o:Oper} {H:List (Nat×List Ob)}:Yb none i o H=chainB o H:=rfl
@[go_sem] theorem AJF {i j p:Nat} {o:Oper} {H:List (Nat×List Ob)}:Yb (some (j,p)) i o H=if i=j then tq p H else chainB o H:=rfl
attribute [go_sem] Bg YY YZ Ya Vg chainB tq ZV AGd Bz List.any_toArray List.any_cons List.any_nil abQ bW LZ MZ ai vI
attribute [go_sem] AIF ABb ABc ABd ABe
attribute [go_sem] tH KG YU retA PR Post TP QG OwnL H7 KD ACs J4 unpin sW AEQ AH5 U4 Ji KD TD Dx G9 AHt AKF AKG aUn
attribute [go_sem] abH dm aG aT bz bV aX aa8 List.getElem?_nil aaR List.drop_succ_cons cu VY TA df List.set_cons_zero List.set_cons_succ List.modify_cons List.toList_toArray bK List.drop_nil List.take_nil
attribute [go_sem] Ry abu aI vI abV abP eq_self bH aY decide_true abU ay ne_eq not_false_eq_true not_true_eq_false YM
attribute [go_sem] aO aH ah ag aF aK Pv bW Bool.or_true abQ
@[go_sem] theorem ANP {x:Value}:LH (.c (.v x))=true:=rfl
@[go_sem] theorem AMW {xs:List (List Cl)}:LH (.c (.sl xs))=true:=rfl
@[go_sem] theorem ALR {l:Nat}:LH (.c (.ref l))=true:=rfl
@[go_sem] theorem ALS:LH (.agg [])=true:=rfl
@[go_sem] theorem AMX {x:Value} {r:List Cl}:LH (.agg (.v x::r))=LH (.agg r):=rfl
@[go_sem] theorem ALT {xs:List (List Cl)} {r:List Cl}:LH (.agg (.sl xs::r))=LH (.agg r):=rfl
@[go_sem] theorem AKX {l:Nat} {r:List Cl}:LH (.agg (.ref l::r))=LH (.agg r):=rfl
@[go_sem] theorem AJG {n:Nat}:Jq n []=true:=rfl
@[go_sem] theorem AIQ {n:Nat} {r:List Cl} {ys:List (List Cl)}:Jq n (r::ys)=(rowOk n r&&Jq n ys):=rfl
@[go_sem] theorem AMY {n:Nat} {r:List Cl}:rowOk n r=(r.length==n&&r.all fun c=>!G7 c):=rfl
@[go_sem] theorem ANn {x:Value}:G7 (.v x)=false:=rfl
@[go_sem] theorem ANQ {x:List (List Cl)}:G7 (.sl x)=false:=rfl
@[go_sem] theorem AMZ {l:Nat}:G7 (.ref l)=false:=rfl
@[go_sem] theorem AMa {ty sz:Nat} {xs:List (List Cl)}:LH (.c (.ow ty sz xs))=false:=rfl
@[go_sem] theorem ANo {cl:List Cl}:mkA true cl = .agg cl:=rfl
@[go_sem] theorem ANp {c:Cl} {r:List Cl}:mkA false (c::r) = .c c:=rfl
@[go_sem] theorem AJH {P:Program} {vars:List ResultVar} {g:Bool} {us:List Value} {M:List Cl→List AV→Prop} {s:MS}:AKR P vars g us M .normal s=AC1 P vars g us M s:=rfl
@[go_sem] theorem AMb {P:Program} {vars:List ResultVar} {g:Bool} {us:List Value} {M:List Cl→List AV→Prop} {s:MS}:AKR P vars g us M .ret s=AC1 P vars g us M s:=rfl
@[go_sem] theorem ANq:(true==true)=true:=rfl
@[go_sem] theorem ANr:(true==false)=false:=rfl
@[go_sem] theorem ANs:(false==true)=false:=rfl
@[go_sem] theorem ANt:(false==false)=true:=rfl
theorem AGq (b:Bool):(b==true)=b:=ASM
theorem AEd (b:Bool):(b==false) = !b:=AQ6
attribute [go_sem] AGq AEd
@[go_sem] theorem AMc (k:IntKind) (n:Nat):XB (.c (.v (.int k (n:Int))))=some n:=by simp[XB]
@[go_sem] theorem ALU (k:IntKind):XB (.c (.v (.int k 0)))=some 0:=by simp[XB]
theorem wrap_i64 {n:Int} (h : -9223372036854775808≤n) (h2:n≤9223372036854775807):IntKind.i64.wrap n=n:=
 KC (by simp[Lit.wf,IntKind.min,IntKind.max,IntKind.signed,IntKind.bits]; omega)
theorem AA {α β:Type} (f:α→β) {l:List α} {k:Nat} (h:k<l.length):(l.map f)[k]?=some (f l[k]):=by simp[h]
theorem ABl {c:Cl} (h:AC c=true):er c=c:=by cases c<;>simp_all [AC,er]
theorem TR:∀ {cs:List Cl},CS cs=true→Lu cs=cs
 | [],_=>rfl
 | c::cs,h=>by
  simp only[CS,aW,az] at h
  rw[Lu,ABl h.1,TR (cs:=cs) h.2]
theorem JG:∀ {xs:List (List Cl)},Fv xs=true→Ru xs=xs
 | [],_=>rfl
 | x::xs,h=>by
  simp only[Fv,aW,az] at h
  rw[Ru,TR h.1,JG (xs:=xs) h.2]
theorem Ea {xs:List (List Cl)} (h:Fv xs=true):D7 xs=true:=
 aS.2 fun x hx=>aS.2 fun c hc=>by
  have:=aS.1 (aS.1 h x hx) c hc
  cases c<;>simp_all [AC,O6]
theorem PS {α:Type} {f:α→List Cl} {l:List α} (h:∀ x,(f x).all O6=true):D7 (l.map f)=true:=by
 unfold D7
 grind
theorem Ctr.val {P:Program} {f:FuncId} {args:List AV} {ty sz:Nat} {xs:List (List Cl)} {wr:Bool} (h:Ctr P f args [.own ty sz xs wr]) (hp:Fv xs=true):Ctr P f args [.val (.c (.sl xs))]:=by
 have:=h.frz
 simp only[TA,df,XG,JG hp] at this
 exact this
theorem Ctr.valO {P:Program} {f:FuncId} {args:List AV} {ty sz:Nat} {xs ys:List (List Cl)} {wr:Bool} (h:Ctr P f args [.own ty sz xs wr]) (he:Ru xs=ys):Ctr P f args [.val (.c (.sl ys))]:=by
 subst he
 exact h.frz
theorem Ctr.aggVal {P:Program} {f:FuncId} {args:List AV} {cl ys:List Cl} (h:Ctr P f args [.agg cl]) (he:Lu cl=ys):Ctr P f args [.val (.agg ys)]:=by
 subst he
 exact h.frz
theorem QH {α:Type} {f g:α→List Cl} (h:∀ x,Lu (f x)=g x) (l:List α):Ru (l.map f)=l.map g:=by
 grind [sU,aaW]
section avgen
variable {w:World} {St:Nat→Nat→Prop} {st st':List Ob} {β β':Nat→Option Nat}
end avgen
section absorb
variable {w0:Bs} {St0 St:Nat→Nat→Prop} {β:Nat→Option Nat} {s:MS} {a:Act} {w:World}
def Am (N l0 i:Nat) (R:List (List Cl)) (row':List Cl) (ob:Ob) (st:List Ob):List Ob:=(st.take N).set l0 ⟨ob.ty,ob.sz,R.set i row',ob.wr,ob.live⟩
theorem Core.absTrim (h:Core w0 St0 St β s a w) {N l0 i:Nat} {keys:List Nat} {ob:Ob} {R:List (List Cl)} {row row':List Cl} (hl0:l0<N) (hob:EH s.st l0=some ob) (hxs:ob.xs=R.set i row) (hi:i<R.length) (hwr:ob.wr=true)
  (ho:OwnL s.st row row' [l0] fun used=>∀ l∈used,l=l0∨N≤l) (henv:(keys.all fun k=>Oj N (CV s.env k))=true) (hst:(Am N l0 i R row' ob s.st).all (Aq N)=true) :
  Core w0 St0 St β ⟨s.n,keys.map fun k=>(k,CV s.env k),Am N l0 i R row' ob s.st⟩ a w:=by
 have hs0:(⟨ob.ty,ob.sz,ob.xs.set i row',ob.wr,ob.live⟩:Ob)=⟨ob.ty,ob.sz,R.set i row',ob.wr,ob.live⟩:=by rw[hxs,dh]
 have hc:=h.closeRow (i:=i) (used:=(List.range' N s.st.length)) hob (by rw[hxs]; simp[hi]) hwr AQ5 (OwnL.mono _ _ _ _ _ (fun us hu hk l hl=>by
  rcases hk l hl with e | e
  ·exact .inl e
  ·rcases hu l hl with q | q
   ·exact .inl (by simpa using q)
   ·exact .inr AQ5) ho)
 have ht:(Dl (List.range' N s.st.length) l0 i row' ob s.st).take N=Am N l0 i R row' ob s.st:=by
  unfold Dl Am
  rw[jO _ AQ5,hs0,List.take_set]
 have:=hc.trim (N:=N) (keys:=keys) ⟨henv,by rw[← hst,← ht]⟩
 unfold Go.Vm.trim at this
 simp only[ht] at this
 exact this
end absorb
def AEe (N l0:Nat) (keys:List Nat) (s t:MS):Prop:=∃ (i:Nat) (R:List (List Cl)) (row row':List Cl) (ob:Ob),(l0<N∧EH s.st l0=some ob∧ob.xs=R.set i row∧i<R.length∧ob.wr=true)∧OwnL s.st row row' [l0] (fun used=>∀ l∈used,l=l0∨N≤l) ∧
 ((keys.all fun k=>Oj N (CV s.env k))=true∧(Am N l0 i R row' ob s.st).all (Aq N)=true)∧(⟨s.n,keys.map fun k=>(k,CV s.env k),Am N l0 i R row' ob s.st⟩:MS)=t
theorem ACi {s:MS} {body:MS→(MS→Prop)→Prop} (N l0:Nat) (keys:List Nat) {A:Type} (f:A→MS) (p:A→Prop) (μ:A→Nat) (x0:A) (h0:Qy N keys s∧trim N keys s=f x0∧p x0)
  (h:∀ x,p x→body (f x) fun s'=>∃ y,True∧((Qy N keys s'∧trim N keys s'=f y)∨AEe N l0 keys s' (f y))∧p y∧μ y<μ x):LoopK s body:=
 ⟨fun _=>True,fun s t=>(Qy N keys s∧trim N keys s=t)∨AEe N l0 keys s t,A,f,p,μ,fun s t _ h=>by
  rcases h with ⟨h1,h2⟩ | ⟨i,R,row,row',ob,⟨g1,g2,g3,g4,g5⟩,g6,⟨g7,g8⟩,g9⟩
  ·exact⟨by rw[← h2]; rfl,fun w0 St0 St β a w hc=>⟨St,β,by rw[← h2]; exact hc.trim h1⟩⟩
  ·exact⟨by rw[← g9],fun w0 St0 St β a w hc=>⟨St,β,by rw[← g9]; exact hc.absTrim g1 g2 g3 g4 g5 g6 g7 g8⟩⟩,⟨x0,trivial,.inl ⟨h0.1,h0.2.1⟩,h0.2.2⟩,h⟩
theorem AAa {s:MS} {body:MS→(MS→Prop)→Prop} (N:Nat) (keys:List Nat) {A:Type} (f:A→MS) (p:A→Prop) (μ:A→Nat) (x0:A) (h0:Qy N keys s∧trim N keys s=f x0∧p x0)
  (h:∀ x,p x→body (f x) fun s'=>∃ y,Qy N keys s'∧trim N keys s'=f y∧p y∧μ y<μ x):LoopK s body:=
 ⟨Qy N keys,fun s t=>trim N keys s=t,A,f,p,μ,fun s t h1 h2=>⟨by rw[← h2]; rfl,fun w0 St0 St β a w h=>⟨St,β,by rw[← h2]; exact h.trim h1⟩⟩,⟨x0,h0⟩,h⟩
theorem LoopR.mk {s:MS} {body:MS→(MS→Prop)→Prop} (keys:List Nat) {A:Type} (f:A→MS) (p:A→Prop) (μ:A→Nat) (x0:A) (sel0:List (Nat×Bool)) (h0:U9 sel0 keys s∧rel sel0 keys s=f x0) (hp:p x0)
  (h:∀ x,p x→body (f x) fun s'=>∃ y,True∧(∃ sel,U9 sel keys s'∧rel sel keys s'=f y)∧p y∧μ y<μ x):LoopK s body:=
 ⟨fun _=>True,fun s t=>∃ sel,U9 sel keys s∧rel sel keys s=t,A,f,p,μ,fun s t _ ⟨sel,h1,h2⟩=>⟨by rw[← h2]; rfl,fun w0 St0 St β a w h=>⟨St,XW sel β,by rw[← h2]; exact h.rel h1⟩⟩,⟨x0,trivial,⟨sel0,h0⟩,hp⟩,h⟩
theorem AE1 {s:MS} {body:MS→(MS→Prop)→Prop} (N l0:Nat) (keys:List Nat) {A:Type} (f:A→MS) (p:A→Prop) (μ:A→Nat) (x0:A) (sel0:List (Nat×Bool)) (h0:U9 sel0 keys s∧rel sel0 keys s=f x0) (hp:p x0)
  (h:∀ x,p x→body (f x) fun s'=>∃ y,True∧(∃ sel,U9 sel keys s'∧(rel sel keys s'=f y∨AEe N l0 keys (rel sel keys s') (f y)))∧p y∧μ y<μ x):LoopK s body:=
 ⟨fun _=>True,fun s t=>∃ sel,U9 sel keys s∧(rel sel keys s=t∨AEe N l0 keys (rel sel keys s) t),A,f,p,μ,fun s t _ ⟨sel,h1,h2⟩=>by
  rcases h2 with h2 | ⟨i,R,row,row',ob,⟨g1,g2,g3,g4,g5⟩,g6,⟨g7,g8⟩,g9⟩
  ·exact⟨by rw[← h2]; rfl,fun w0 St0 St β a w h=>⟨St,XW sel β,by rw[← h2]; exact h.rel h1⟩⟩
  ·exact⟨by rw[← g9]; rfl,fun w0 St0 St β a w hc=>⟨St,XW sel β,by rw[← g9]; exact(hc.rel h1).absTrim g1 g2 g3 g4 g5 g6 g7 g8⟩⟩,⟨x0,trivial,⟨sel0,h0.1,.inl h0.2⟩,hp⟩,h⟩
theorem AJI {sel:List (Nat×Bool)} {x:List Cl} (h:x.all O6=true):x.map (NM sel)=x:=by
 conv=>rhs; rw[← List.map_id x]
 refine aaW fun c hc=>?_
 have:=aS.1 h c hc
 cases c<;>simp_all [O6,NM]
theorem AJJ {sel:List (Nat×Bool)} {x:List Cl} (h:x.all O6=true):x.all (inC sel)=true:=aS.2 fun c hc=>by
 have:=aS.1 h c hc
 cases c<;>simp_all [O6,inC]
theorem FD {α:Type} {f:α→List Cl} (hf:∀ x,(f x).all O6=true) (sel:List (Nat×Bool)) (out:List α) (r row':List Cl) :
  (out.map f ++ [r]).map (fun x=>x.map (NM sel))=(out.map f ++ [row']).set out.length (r.map (NM sel)):=by
 rw[bQ,aaK _ _ AQ3]
 congr 1
 ·grind [List.map_id,aaW,AJI]
 ·simp
theorem Ae {α:Type} {f:α→List Cl} (out:List α) (x:α):(out.map f ++ [f x]).set out.length (f x)=(out ++ [x]).map f:=by
 simp_all
theorem FH {α:Type} {f:α→List Cl} (hf:∀ x,(f x).all O6=true) (sel:List (Nat×Bool)) (out:List α) {r:List Cl} (hr:r.all (inC sel)=true):((out.map f ++ [r]).all fun x=>x.all (inC sel))=true:=by
 grind [aS,AJJ]
theorem AP {α:Type} {f:α→List Cl} {l:List α} (h:∀ x,CS (f x)=true):Fv (l.map f)=true:=by
 unfold Fv
 grind
def Om (x:Option AV) (K:AV→Prop):Prop:=match x with
 | some y=>K y
 | none=>False
@[go_sem] theorem AKY {y:AV} {K:AV→Prop}:Om (some y) K=K y:=rfl
def CallF (P:Program) (f:FuncId) (args:List AV) (K:AV→Prop):Prop:=∃ rs,Ctr P f args rs∧K (retA (YU rs))
theorem AAS {P:Program} {f:FuncId} {args:List AV} {K:AV→Prop} {B:Prop} (rs:List Res) (h:Ctr P f args rs) (hk:K (retA (YU rs))):QS (CallF P f args K) B:=.inl ⟨rs,h,hk⟩
theorem CW {P:Program} {f:FuncId} {args args':List AV} {K:List Res→Prop} {B:Prop} {rs:List Res} (h:Ctr P f args' rs) (hk:lm rs→K rs) (e:args=args':= by simp only[go_sem]):QS (CallK P f args K) B:= .inl ⟨rs,e▸h,hk⟩
theorem CY {P:Program} {f:FuncId} {args args':List AV} {K:AV→Prop} {B:Prop} {rs:List Res} (h:Ctr P f args' rs) (hk:K (retA (YU rs))) (e:args=args':= by simp only[go_sem]):QS (CallF P f args K) B:= .inl ⟨rs,e▸h,hk⟩
theorem CZ {P:Program} {f:FuncId} {args args':List AV} {KK:List Res→Prop} {B:Prop} {rs:List Res} (h:Ctr P f args' rs) (hk:KK rs) (e:args=args':= by simp only[go_sem]):QS (CallE P f args KK) B:= .inl ⟨rs,e▸h,hk⟩
def AKZ (P:Program) (f:FuncId) (x:Option (List AV)) (K:AV→Prop):Prop:=∃ args rs,x=some args∧rs.all O7=true∧Ctr P f args rs∧K (retA (YU rs))
theorem AEF {P:Program} {f:FuncId} {x:Option (List AV)} {K:AV→Prop} {A:Prop} {args:List AV} (rs:List Res) (hx:x=some args) (hc:rs.all O7=true) (h:Ctr P f args rs) (hk:K (retA (YU rs))) {C:Prop}:QS A (QS (AKZ P f x K) C):=.inr (.inl ⟨args,rs,hx,hc,h,hk⟩)
def AKa (P:Program) (f:FuncId) (st:List Ob) (args:List AV) (K:AV→Prop):Prop:=∃ r,InlS P f st args r st∧K r
theorem InlF.mk {P:Program} {f:FuncId} {st:List Ob} {args:List AV} {K:AV→Prop} {A B:Prop} (r:AV) (h:InlS P f st args r st) (hk:K r):QS A (QS B (AKa P f st args K)):=.inr (.inr ⟨r,h,hk⟩)
def AC3 (P:Program) (f:FuncId) (x:Option (List AV×List Ob)) (st:List Ob) (K:AV→Prop):Prop:=∃ args,x=some (args,st)∧CallF P f args K
@[go_sem] theorem AKb {P:Program} {f:FuncId} {args:List AV} {st:List Ob} {K:AV→Prop}:AC3 P f (some (args,st)) st K=CallF P f args K:=by
 simp[AC3]
def AIR (P:Program) (x:AV) (y:Option (List AV×List Ob)) (st:List Ob) (K:AV→Prop):Prop:=match x with
 | .clo f xs=>∃ args,y=some (args,st)∧CallF P f (args++xs.map AV.ip) K
 | _=>False
@[go_sem] theorem AMd {P:Program} {f:FuncId} {xs:List (List Cl)} {args:List AV} {st:List Ob} {K:AV→Prop}:AIR P (.clo f xs) (some (args,st)) st K=QS (CallF P f (args++xs.map AV.ip) K) False:=by
 simp[AIR,QS]
theorem Rl {P:Program} {s:MS} {o:Op} {K:AV→Prop} (h:∀ r,Bz P s o r=(JJ P s o=some r)):DrK P s o K=Om (JJ P s o) K:=by
 unfold DrK
 simp only[h]
 cases JJ P s o<;>simp[Om]
section
variable {P:Program} {s:MS} {K:AV→Prop}
@[go_sem] theorem AMe {x:Operand}:DrK P s (.move x) K=Om (JJ P s (.move x)) K:=Rl fun _=>rfl
@[go_sem] theorem AKc {x:Operand}:DrK P s (.assign x) K=Om (JJ P s (.assign x)) K:=Rl fun _=>rfl
@[go_sem] theorem AMf {c x y:Operand}:DrK P s (.pick c x y) K=Om (JJ P s (.pick c x y)) K:=Rl fun _=>rfl
@[go_sem] theorem AMg {T:TypeId} {x:Operand}:DrK P s (.load T x) K=Om (JJ P s (.load T x)) K:=Rl fun _=>rfl
@[go_sem] theorem AIS {x:Operand}:DrK P s (.nilCheck x) K=Om (JJ P s (.nilCheck x)) K:=Rl fun _=>rfl
@[go_sem] theorem ALV {b:BinOp} {T T':TypeId} {x y:Operand}:DrK P s (.binOp b T x y T') K=Om (JJ P s (.binOp b T x y T')) K:=Rl fun _=>rfl
@[go_sem] theorem AMh {b:UnOp} {T:TypeId} {x:Operand}:DrK P s (.unOp b T x) K=Om (JJ P s (.unOp b T x)) K:=Rl fun _=>rfl
@[go_sem] theorem AJK {T T':TypeId} {x:Operand}:DrK P s (.convert T T' x) K=Om (JJ P s (.convert T T' x)) K:=Rl fun _=>rfl
@[go_sem] theorem AHH {T:TypeId} {x:Operand} {i:Nat}:DrK P s (.fieldAddr T x i) K=Om (JJ P s (.fieldAddr T x i)) K:=Rl fun _=>rfl
@[go_sem] theorem AHI {T:TypeId} {x y:Operand}:DrK P s (.indexAddr T x y) K=Om (JJ P s (.indexAddr T x y)) K:=Rl fun _=>rfl
@[go_sem] theorem AJL {x:Operand} {i:Nat}:DrK P s (.extract x i) K=Om (JJ P s (.extract x i)) K:=Rl fun _=>rfl
@[go_sem] theorem ANR {args:Array Operand} {ts:Array TypeId}:DrK P s (.call ⟨.builtin .len,args,ts⟩) K=Om (JJ P s (.call ⟨.builtin .len,args,ts⟩)) K:=Rl fun _=>rfl
@[go_sem] theorem AMi {f:FuncId} {args:Array Operand} {ts:Array TypeId}:DrK P s (.call ⟨.value (.func f),args,ts⟩) K=QS (AC3 P f (XD s.st (args.toList.map (FC s))) s.st K) (QS (AKZ P f (U4 s.st (args.toList.map (FC s))) K) (AKa P f s.st (args.toList.map (FC s)) K)):=by
 simp only[DrK,AC3,CallF,Bz,AKZ,AKa,QS]
 apply propext
 constructor
 ·rintro⟨r,⟨args',rs,h1,h2,rfl⟩ | hr,h3⟩
  ·rcases h1 with h1 | ⟨h1,h4⟩
   ·exact .inl ⟨args',h1,rs,h2,h3⟩
   ·exact .inr (.inl ⟨args',rs,h1,h4,h2,h3⟩)
  ·exact .inr (.inr ⟨r,hr,h3⟩)
 ·rintro(⟨args',h1,rs,h2,h3⟩ | ⟨args',rs,h1,h4,h2,h3⟩ | ⟨r,hr,h3⟩)
  ·exact⟨_,.inl ⟨args',rs,.inl h1,h2,rfl⟩,h3⟩
  ·exact⟨_,.inl ⟨args',rs,.inr ⟨h1,h4⟩,h2,rfl⟩,h3⟩
  ·exact⟨r,.inr hr,h3⟩
@[go_sem] theorem ANT {t:Nat} {args:Array Operand} {ts:Array TypeId}:DrK P s (.call ⟨.value (.tmp t),args,ts⟩) K=AIR P (unpin (CV s.env t)) (XD s.st (args.toList.map (FC s))) s.st K:=by
 simp only[DrK,AIR,CallF,Bz]
 grind
end
def AEf (b:Bool) (x:Option (AV×List Ob)) (st:List Ob) (K:AV→Prop):Prop:=match b,x with
 | true,some (r,st')=>st'=st∧K r
 | _,_=>False
@[go_sem] theorem ALW {r:AV} {st:List Ob} {K:AV→Prop}:AEf true (some (r,st)) st K=K r:=by simp[AEf]
@[go_sem] theorem ALX {P:Program} {s:MS} {K:AV→Prop} {T:TypeId} {ps:Array (Nat×Operand)}:DrK P s (.build T ps) K=AEf (D6 P T) (Vd P s T ps.toList) s.st K:=by
 unfold DrK AEf
 simp only[Bz]
 grind
@[go_sem] theorem ALY {P:Program} {s:MS} {K:AV→Prop} {T:TypeId} {x:Operand} {lo hi:Option Operand}:DrK P s (.slice T x lo hi none) K=AEf true (Vf P s T (FC s x) lo hi) s.st K:=by
 unfold DrK AEf
 simp only[Bz]
 grind
theorem NP {l:Int} (h:WfA (.c (.v (.int .i64 l)))):l≤9223372036854775807:=by
 simp only[WfA,yP,Rz,Lit.wf,IntKind.min,IntKind.max,IntKind.signed,IntKind.bits] at h
 grind
theorem ABm {s:ByteArray} (h:yP (.v (.string s))):s.size≤9223372036854775807:=by
 have h':decide (s.size≤maxLen)=true:=h
 have h2:=YL h'
 simpa [maxLen] using h2
def grow (xs:List (List Cl)) (z:List Cl) (k:Nat):List (List Cl):=xs.take k++List.replicate (xs.length-k) z
theorem Cj {xs:List (List Cl)} {z:List Cl}:grow xs z 0=List.replicate xs.length z:=by simp[grow]
theorem AGr {xs:List (List Cl)} {z:List Cl}:grow xs z xs.length=xs:=by simp[grow]
theorem ZZ {xs:List (List Cl)} {z:List Cl} {k:Nat} (h:k≤xs.length):(grow xs z k).length=xs.length:=by simp[grow]; omega
theorem AIT {xs:List (List Cl)} {z:List Cl} {k:Nat} (h:k<xs.length):(grow xs z k)[k]?=some z:=by
 have h1:(xs.take k).length=k:=by rw[bJ]; omega
 rw[grow,bf (Nat.le_of_eq h1),h1,ZO,List.getElem?_replicate,bG AQ2]
theorem AGs {xs:List (List Cl)} {z:List Cl} {k:Nat} (h:k<xs.length):(grow xs z k).set k xs[k]=grow xs z (k+1):=by
 have h1:(xs.take k).length=k:=AQ5
 apply abE
 intro i
 rw[vG,ZZ AQ2]
 by_cases e:k=i
 ·subst e
  rw[bG rfl,bG h,grow,bM AQ5]
  simp[h]
 ·rw[bu e]
  simp only[grow,List.getElem?_append,bJ,aa2,List.getElem?_replicate]
  grind
theorem Bh {α:Type} {f:α→List Cl} {xs:List α} {z:List Cl} {k:Nat} (h:k≤xs.length):(grow (xs.map f) z k).length=xs.length:=by grind [ZZ,ae]
theorem EI {α:Type} {f:α→List Cl} {xs:List α} {z:List Cl} {k:Nat} (h:k<xs.length):(grow (xs.map f) z k)[k]?=some z:=AIT ARY
theorem Ht {α:Type} {f:α→List Cl} {xs:List α} {z:List Cl} {k:Nat} (h:k<xs.length):(grow (xs.map f) z k).set k (f xs[k])=grow (xs.map f) z (k+1):=by
 have h2:k<(xs.map f).length:=ARY
 have:=AGs (z:=z) h2
 grind
theorem Hu {α:Type} {f:α→List Cl} {xs:List α} {z:List Cl}:grow (xs.map f) z xs.length=xs.map f:=by
 grind [AGr,ae]
theorem ABn {x:List Cl} (h:CS x=true):x.all (KY 1)=true:=by
 refine aS.2 fun c hc=>?_
 have:=aS.1 h c hc
 cases c<;>simp_all [AC,KY]
theorem Oo {α:Type} {f:α→List Cl} (hf:∀ x,CS (f x)=true) {z:List Cl} (hz:z.all (KY 1)=true) {xs:List α} {k T w:Nat} {wr live:Bool} :
  (List.take 1 [(⟨T,w,grow (xs.map f) z k,wr,live⟩:Ob)]).all (Aq 1)=true:=by
 simp only[cu,VY,aW,bn,aF,Aq,aaY]
 refine .inr (aS.2 fun x hx=>?_)
 simp only[grow,lN] at hx
 grind [aaz,ABn]
theorem y_ {N:Nat} {x:List Cl} (h:x.all O6=true):x.all (KY N)=true:=by
 refine aS.2 fun c hc=>?_
 have:=aS.1 h c hc
 cases c<;>simp_all [O6,KY]
theorem KE {α:Type} {f:α→List Cl} (hf:∀ x,(f x).all O6=true) {z:List Cl} (hz:z.all (KY 1)=true) {xs:List α} {k T w:Nat} {wr live:Bool} :
  [(⟨T,w,grow (xs.map f) z k,wr,live⟩:Ob)].all (Aq 1)=true:=by
 simp only[aW,bn,aF,Aq,aaY]
 refine .inr (aS.2 fun x hx=>?_)
 simp only[grow,lN] at hx
 grind [aaz,y_]
theorem Io:∀ (a b:List Cl),Lu (a++b)=Lu a++Lu b
 | [],b=>by simp[Lu]
 | c::a,b=>by simp[Lu,Io a b]
attribute [go_sem] abo Nat.reduceBEq Nat.reduceAdd Nat.reduceSub Nat.reduceMul Nat.reduceLT Nat.reduceLeDiff Nat.reduceEqDiff Nat.succ_ne_zero reduceIte true_or or_true
end Go.Vm
