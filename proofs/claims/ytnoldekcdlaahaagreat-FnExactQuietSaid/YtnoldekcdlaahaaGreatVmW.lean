/- A part. -/
import Derived.Test.YtnoldekcdlaahaaGreatVmUb
set_option linter.unusedSimpArgs false
set_option linter.unusedVariables false
namespace Go.Vm
open Go.RowKit
def AF3 (P:Program) (y:Code) (Q:Ex→MS→Prop):Ex→MS→Prop:=AJh (vp P y) Q
def cndC (P:Program) (x y:Code) (s:MS) (Q:Ex→MS→Prop) (b:Bool):Prop:=cndM (vp P x) (vp P y) s Q b
def AJn (P:Program) (x:Code) (Q:Ex→MS→Prop) (s:MS) (K:MS→Prop):Prop:=AJi (vp P x) Q s K
section
variable {P:Program} {s:MS} {Q:Ex→MS→Prop} {x y:Code} {K:MS→Prop}
@[go_sem] theorem AKg {σ:List Nat} {e1 e2:Nat} {l:List Oper}:II σ e1 e2 l=pK σ e1 e2 l σ:=rfl
@[go_sem] theorem AJo {σ:List Nat} {e1 e2:Nat} {l:List Oper}:pK σ e1 e2 l [] = []:=rfl
@[go_sem] theorem AIm {σ:List Nat} {e1 e2 i:Nat} {l:List Oper} {is:List Nat}:pK σ e1 e2 l (i::is)=AAz σ e1 e2 i l[i]? (pK σ e1 e2 l is):=rfl
@[go_sem] theorem AHq {σ:List Nat} {e1 e2 i:Nat} {d:Option Nat} {o:Op} {ty:TypeId} {ps:String} {af:Array Edge} {g:Option (Nat×Bool)} {r:List Oper} :
  AAz σ e1 e2 i (some ⟨d,o,ty,ps,af,g⟩) r=⟨d,o,ty,ps,(vF σ (AED e1 e2 i af.toList)).toArray,rnG σ g⟩::r:=rfl
@[go_sem] theorem AJp {σ:List Nat}:vF σ [] = []:=rfl
@[go_sem] theorem AIn {σ:List Nat} {i:Nat} {g:Ground} {es:List Edge}:vF σ (⟨i,g⟩::es)=⟨MB σ i,g⟩::vF σ es:=rfl
@[go_sem] theorem AJq {σ:List Nat}:rnG σ none=none:=rfl
@[go_sem] theorem AJr {σ:List Nat} {j:Nat} {b:Bool}:rnG σ (some (j,b))=some (MB σ j,b):=rfl
@[go_sem] theorem AJs {i:Nat}:MB [] i=0:=rfl
@[go_sem] theorem AIo {x i:Nat} {xs:List Nat}:MB (x::xs) i=if x=i then 0 else MB xs i+1:=by
 simp only[MB]
 grind [Nat.eq_of_beq_eq_true,abv]
@[go_sem] theorem AKh {e1 e2 i:Nat} {l:List Edge}:AED e1 e2 i l=if i=e2 then⟨e1,.data⟩::l else l:=by
 simp only[AED]
 grind [Nat.eq_of_beq_eq_true,abv]
@[go_sem] theorem AKi:vp P .skip s Q=Q .normal s:=rfl
@[go_sem] theorem ALD {id:Nat} {ops:Array Oper}:vp P (.region id ops false) s Q=vpR P ops (Q .normal) s:=rfl
@[go_sem] theorem AKj {id:Nat} {ops:Array Oper}:vp P (.region id ops true) s Q=DrawK P ops s (Q .normal):=rfl
@[go_sem] theorem ALE:vp P (.seq x y) s Q=vp P x s (AF3 P y Q):=rfl
@[go_sem] theorem AKk {c:Operand}:vp P (.cond c x y) s Q=AAx (Ew s c) (cndC P x y s Q):=rfl
@[go_sem] theorem AJt {id:Nat}:vp P (.block id x) s Q=vp P x s (ACM id Q):=rfl
@[go_sem] theorem AKl:vp P (.loop x) s Q=LoopK s (AJn P x Q):=rfl
@[go_sem] theorem AKm {id:Nat}:vp P (.exit id) s Q=Q (.exit id) s:=rfl
@[go_sem] theorem AJu:vp P (.scope x) s Q=vp P x s Q:=rfl
@[go_sem] theorem ALF:vp P .ret s Q=Q .ret s:=rfl
@[go_sem] theorem AGn:AF3 P y Q .normal s=vp P y s Q:=rfl
@[go_sem] theorem AIp {i:Nat}:AF3 P y Q (.exit i) s=Q (.exit i) s:=rfl
@[go_sem] theorem AJv:AF3 P y Q .ret s=Q .ret s:=rfl
@[go_sem] theorem AIq:cndC P x y s Q true=vp P x s Q:=ACN
@[go_sem] theorem AHr:cndC P x y s Q false=vp P y s Q:=zS
theorem AA0 {b:Bool} (h1:b=true→vp P x s Q) (h2:b=false→vp P y s Q):cndC P x y s Q b:=cndM.mk h1 h2
@[go_sem] theorem AGo {id:Nat}:ACM id Q .normal s=Q .normal s:=rfl
@[go_sem] theorem AIr {id i:Nat}:ACM id Q (.exit i) s=if i=id then Q .normal s else Q (.exit i) s:=rfl
@[go_sem] theorem AJw {id:Nat}:ACM id Q .ret s=Q .ret s:=rfl
@[go_sem] theorem AKn:AJn P x Q s K=vp P x s (AEM K Q):=rfl
@[go_sem] theorem AGp:AEM K Q .normal s=K s:=rfl
@[go_sem] theorem AIs {i:Nat}:AEM K Q (.exit i) s=Q (.exit i) s:=rfl
@[go_sem] theorem AJx:AEM K Q .ret s=Q .ret s:=rfl
@[go_sem] theorem AKo {ops:Array Oper}:vpO P ops K [] s=K s:=rfl
@[go_sem] theorem AJy {ops:Array Oper} {o:Oper} {rest:List Oper}:vpO P ops K (o::rest) s=Tj (pF ops s.env o.guard) (gO P o (vpO P ops K rest) s):=rfl
@[go_sem] theorem AKp {ops:Array Oper}:vpD P ops K [] s=K s:=rfl
@[go_sem] theorem AJz {ops:Array Oper} {o:Oper} {rest:List Oper}:vpD P ops K (o::rest) s=Tj (pF ops s.env o.guard) (gD P o (vpD P ops K rest) s):=rfl
@[go_sem] theorem AKq {d:Option Nat} {v:AV} {st':List Ob}:AEF s d K v st'=K (MS.put ⟨s.n,s.env,st'⟩ d v):=rfl
@[go_sem] theorem AJ0 {d:Option Nat} {v:AV}:u_ s d K v=K (s.put d v):=rfl
@[go_sem] theorem AKr {d:Option Nat} {st1:List Ob} {rs:List Res}:ACI s d K st1 rs=K (MS.put ⟨s.n,s.env,(Iw st1 rs).2⟩ d (retA (Iw st1 rs).1)):=rfl
@[go_sem] theorem AIt {f:FuncId} {d:Option Nat} {args:List AV} {st1:List Ob}:zO P f s d K args st1=CallK P f args (ACI s d K st1):=rfl
@[go_sem] theorem AGq {vars:List ResultVar} {rs:List Res}:AF2 P vars rs .normal s=Post P vars rs s:=rfl
theorem AC6 {vars:List ResultVar} {rs:List Res} {t:MS} (h:Head s t) (hp:Post P vars rs t):EndH P vars rs .ret s:=⟨t,h,hp⟩
@[go_sem] theorem AJ1 {vars:List ResultVar} {rs:List Res}:AF2 P vars rs .ret s=Post P vars rs s:=rfl
def AEU (x:Option (List AV)) (m:Nat) (KK:AV→MS→Prop) (t:MS):Prop:=match x with
 | some xs=>KK (retA xs) ⟨m,unE t.env,t.st⟩
 | none=>False
@[go_sem] theorem AHs {vars:List ResultVar} {m:Nat} {KK:AV→MS→Prop} {t:MS}:Ot P vars m KK .ret t=AEU (OU P t vars) m KK t:=by unfold Ot AEU; rfl
@[go_sem] theorem AE4 {vars:List ResultVar} {m:Nat} {KK:AV→MS→Prop} {t:MS}:Ot P vars m KK .normal t=AEU (OU P t vars) m KK t:=by unfold Ot AEU; rfl
@[go_sem] theorem AIu {xs:List AV} {m:Nat} {KK:AV→MS→Prop} {t:MS}:AEU (some xs) m KK t=KK (retA xs) ⟨m,unE t.env,t.st⟩:=rfl
@[go_sem] theorem AKs {d:Option Nat} {K:MS→Prop} {x:AV} {t:MS}:AJl d K x t=K (t.put d x):=rfl
@[go_sem] theorem AKt {st:List Ob} {env:List (Nat×AV)} {r x:AV} {t:MS}:AJm st env r x t=(t.st=st∧t.env=env∧x=r):=rfl
attribute [go_sem] fC shE unE AA6
theorem AAT {f:FuncId} {args:List AV} {K:List Res→Prop} {B:Prop} (rs:List Res) (h:Ctr P f args rs) (hk:Yy rs→K rs):PK (CallK P f args K) B:=.inl ⟨rs,h,hk⟩
theorem ACw {f:FuncId} {x:Option (List AV)} {K:List Res→Prop} {A B:Prop} {args:List AV} (rs:List Res) (hx:x=some args) (hc:rs.all Ji=true) (h:Ctr P f args rs) (hk:Yy rs→K rs):PK A (PK (BorK P f s x K) B):=.inr (.inl ⟨args,rs,hx,hc,h,hk⟩)
theorem ADr {f:FuncId} {A B C:Prop} {args rest:List AV} {d:Option Nat} {zs cl:List Cl} {M:List Cl→List AV→Prop} (g:Bool) (h:MCtr P f g cl rest M) (hx:args=mkA g zs::rest) (ho:OwnL s.st zs cl [] (fun _=>True)) (h1:rest.all ACC=true)
  (hg:g=true∨zs.length=1) (hk:∀ cl' rs,M cl' rs→(rs.all isV=true∧Yz cl cl')∧K (MS.put ⟨s.n,s.env,JI s.st zs cl'⟩ d (retA rs))):PK A (PK B (PK (MutK P f s args d K) C)):=.inr (.inr (.inl ⟨rest,g,zs,cl,M,hx,hg,ho,h1,h,hk⟩))
@[go_sem] theorem AKu {x:Option (Nat×Nat)} {ops:Array Oper} {i:Nat} {H:List (Nat×List Ob)} {pd:List PE}:vpE P x ops K [] i H pd s=K s:=rfl
@[go_sem] theorem AJ2 {x:Option (Nat×Nat)} {ops:Array Oper} {o:Oper} {rest:List Oper} {i:Nat} {H:List (Nat×List Ob)} {pd:List PE}:vpE P x ops K (o::rest) i H pd s=Tj (pF ops s.env o.guard) (gE P x o s H pd i (vpE P x ops K rest (i+1))):=rfl
section
variable {x:Option (Nat×Nat)} {o:Oper} {H:List (Nat×List Ob)} {pd:List PE} {i:Nat} {V:List (Nat×List Ob)→List PE→MS→Prop}
@[go_sem] theorem AKv:gE P x o s H pd i V true=AEK P x o s H pd i V (YO o.op):=Kq
@[go_sem] theorem AHt:AEK P x o s H pd i V false=DrK P s o.op (rdP P o s H pd i V):=Lh
@[go_sem] theorem AIv:AEK P x o s H pd i V true=CondK (XT x i o H) (AEJ P s o.op (AFy P o s H pd i V)) False:=Kq
@[go_sem] theorem AKw {y:AV} {st':List Ob}:AFy P o s H pd i V y st'=(XR P s.n o st' pd∧V ((i+1,st')::H) (UU o pd) (MS.put ⟨s.n,s.env,st'⟩ o.dst y)):=rfl
@[go_sem] theorem ALG {r:AV}:rdP P o s H pd i V r=(XQ P s.n s.env o r H H∧V H (⟨i,o.op,s.env,r⟩::pd) (s.put o.dst r)):=rfl
end
@[go_sem] theorem AKx {KK:AV→List Ob→Prop} {st1:List Ob} {rs:List Res}:AFx KK st1 rs=KK (retA (Iw st1 rs).1) (Iw st1 rs).2:=rfl
@[go_sem] theorem AIw {f:FuncId} {KK:AV→List Ob→Prop} {args:List AV} {st1:List Ob}:AEI P f KK args st1=CallE P f args (AFx KK st1):=rfl
theorem ACJ {f:FuncId} {args:List AV} {KK:List Res→Prop} {B:Prop} (rs:List Res) (h:Ctr P f args rs) (hk:KK rs):PK (CallE P f args KK) B:=.inl ⟨rs,h,hk⟩
theorem AC2 {f:FuncId} {x:Option (List AV)} {KK:List Res→Prop} {A:Prop} {args:List AV} (rs:List Res) (hx:x=some args) (hc:rs.all Ji=true) (h:Ctr P f args rs) (hk:KK rs) {C:Prop}:PK A (PK (BorE P f x KK) C):=.inr (.inl ⟨args,rs,hx,hc,h,hk⟩)
theorem ACt {f:FuncId} {st:List Ob} {args:List AV} {KK:AV→List Ob→Prop} {A B:Prop} (y:AV) (st':List Ob) (h:InlS P f st args y st') (hk:KK y st'):PK A (PK B (InlE P f st args KK)):=.inr (.inr ⟨y,st',h,hk⟩)
theorem DrK.call {o:Op} {c:Call} {f:FuncId} {K:AV→Prop} (ho:o = .call c) (hc:c.callee = .value (.func f)) {args:List AV} {rs:List Res} (hf:XI s.st (c.args.toList.map (Ew s))=some (args,s.st)) (h:Ctr P f args rs) (hk:K (retA (XL rs))):DrK P s o K:=by
 subst ho
 refine⟨_, ?_,hk⟩
 simp only[CU,hc]
 exact .inl ⟨args,rs,.inl hf,h,rfl⟩
end
theorem DrK.op {P:Program} {s:MS} {o:Op} {K:AV→Prop} {r:AV} (h:CU P s o r) (hk:K r):DrK P s o K:=⟨r,h,hk⟩
attribute [go_sem] Nb pF AFp AEA AFs AEG RH WZ same Ip Ew XD Cb MS.put ADw dQ P9 ui Ld UT UQ zG zF AD8 zH AJe List.any_cons List.any_nil kR Ih VU cellsA DT Om AGj Td fzC uY fzL fzA XI YN Qi Aj JW
@[go_sem] theorem AHu {n:Nat}:Region.binds .any ⟨n,.data⟩=true:=rfl
@[go_sem] theorem AGr {n:Nat}:Region.binds .any ⟨n,.chain⟩=true:=rfl
@[go_sem] theorem AGs {n:Nat}:Region.binds .any ⟨n,.guard⟩=true:=rfl
@[go_sem] theorem AGt {n:Nat}:Region.binds .any ⟨n,.phase⟩=true:=rfl
@[go_sem] theorem AJ3 {b:Bool}:CondK b True True=True:=by cases b<;>simp[CondK]
@[go_sem] theorem AGu {i:Nat} {o:Oper} {H:List (Nat×List Ob)}:XT none i o H=chainB o H:=rfl
@[go_sem] theorem AGv {i j p:Nat} {o:Oper} {H:List (Nat×List Ob)}:XT (some (j,p)) i o H=if i=j then pO p H else chainB o H:=rfl
attribute [go_sem] Be XP XQ XR UU chainB pO YO AEJ CU List.any_toArray List.any_cons List.any_nil abE bT Kq Lh ak and_self
attribute [go_sem] AFt zJ zK zL zM
attribute [go_sem] o9 Iw XL retA OU Post RN PL OwnL G6 Jf AAv Bc unpin dX ACD AFi Tf JI Jf Q5 EP IG AFW AHd AHe aUn
attribute [go_sem] abu bW aN aU df y7 aQ aaN List.getElem?_nil aa5 List.drop_succ_cons abg abe YG cu List.set_cons_zero List.set_cons_succ List.modify_cons List.toList_toArray bI List.drop_nil List.take_nil
attribute [go_sem] uX abJ aT and_self true_and abG eq_self aX aW decide_true abK aC ne_eq not_false_eq_true not_true_eq_false bH
attribute [go_sem] aJ aK aj ai aS aH cZ bT Bool.or_true abE
@[go_sem] theorem AKy {x:Value}:KH (.c (.v x))=true:=rfl
@[go_sem] theorem AJ4 {xs:List (List Cl)}:KH (.c (.sl xs))=true:=rfl
@[go_sem] theorem AIx {l:Nat}:KH (.c (.ref l))=true:=rfl
@[go_sem] theorem AIy:KH (.agg [])=true:=rfl
@[go_sem] theorem AJ5 {x:Value} {r:List Cl}:KH (.agg (.v x::r))=KH (.agg r):=rfl
@[go_sem] theorem AIz {xs:List (List Cl)} {r:List Cl}:KH (.agg (.sl xs::r))=KH (.agg r):=rfl
@[go_sem] theorem AHv {l:Nat} {r:List Cl}:KH (.agg (.ref l::r))=KH (.agg r):=rfl
@[go_sem] theorem AGw {n:Nat}:LG n []=true:=rfl
@[go_sem] theorem AF4 {n:Nat} {r:List Cl} {ys:List (List Cl)}:LG n (r::ys)=(rowOk n r&&LG n ys):=rfl
@[go_sem] theorem AJ6 {n:Nat} {r:List Cl}:rowOk n r=(r.length==n&&r.all fun c=>!Gi c):=rfl
@[go_sem] theorem ALH {x:Value}:Gi (.v x)=false:=rfl
@[go_sem] theorem AKz {x:List (List Cl)}:Gi (.sl x)=false:=rfl
@[go_sem] theorem AJ7 {l:Nat}:Gi (.ref l)=false:=rfl
@[go_sem] theorem AJ8 {ty sz:Nat} {xs:List (List Cl)}:KH (.c (.ow ty sz xs))=false:=rfl
@[go_sem] theorem ALI {cl:List Cl}:mkA true cl = .agg cl:=rfl
@[go_sem] theorem ALJ {c:Cl} {r:List Cl}:mkA false (c::r) = .c c:=rfl
@[go_sem] theorem AGx {P:Program} {vars:List ResultVar} {g:Bool} {us:List Value} {M:List Cl→List AV→Prop} {s:MS}:AHp P vars g us M .normal s=AA5 P vars g us M s:=rfl
@[go_sem] theorem AJ9 {P:Program} {vars:List ResultVar} {g:Bool} {us:List Value} {M:List Cl→List AV→Prop} {s:MS}:AHp P vars g us M .ret s=AA5 P vars g us M s:=rfl
@[go_sem] theorem ALK:(true==true)=true:=rfl
@[go_sem] theorem ALM:(true==false)=false:=rfl
@[go_sem] theorem ALN:(false==true)=false:=rfl
@[go_sem] theorem ALO:(false==false)=true:=rfl
theorem AEV (b:Bool):(b==true)=b:=by simp_all
theorem ACT (b:Bool):(b==false) = !b:=AOk
attribute [go_sem] AEV ACT
@[go_sem] theorem Nc (k:IntKind) (n:Nat):Oo (.c (.v (.int k (n:Int))))=some n:=by simp[Oo]
@[go_sem] theorem AI0 (k:IntKind):Oo (.c (.v (.int k 0)))=some 0:=by simp[Oo]
theorem wrap_i64 {n:Int} (h : -9223372036854775808≤n) (h2:n≤9223372036854775807):IntKind.i64.wrap n=n:=
 Ko (by simp[Lit.wf,IntKind.min,IntKind.max,IntKind.signed,IntKind.bits]; omega)
theorem AA {α β:Type} (f:α→β) {l:List α} {k:Nat} (h:k<l.length):(l.map f)[k]?=some (f l[k]):=by simp[h]
theorem zW {c:Cl} (h:AB c=true):er c=c:=by cases c<;>simp_all [AB,er]
theorem RQ:∀ {cs:List Cl},DJ cs=true→KI cs=cs
 | [],_=>rfl
 | c::cs,h=>by
  simp only[DJ,bC,ay] at h
  rw[KI,zW h.1,RQ (cs:=cs) h.2]
theorem Ik:∀ {xs:List (List Cl)},G5 xs=true→Qa xs=xs
 | [],_=>rfl
 | x::xs,h=>by
  simp only[G5,bC,ay] at h
  rw[Qa,RQ h.1,Ik (xs:=xs) h.2]
theorem FW {xs:List (List Cl)} (h:G5 xs=true):DI xs=true:=
 aP.2 fun x hx=>aP.2 fun c hc=>by
  have:=aP.1 (aP.1 h x hx) c hc
  cases c<;>simp_all [AB,Hr]
theorem S9 {α:Type} {f:α→List Cl} {l:List α} (h:∀ x,(f x).all Hr=true):DI (l.map f)=true:=by
 unfold DI
 grind
theorem Ctr.val {P:Program} {f:FuncId} {args:List AV} {ty sz:Nat} {xs:List (List Cl)} {wr:Bool} (h:Ctr P f args [.own ty sz xs wr]) (hp:G5 xs=true):Ctr P f args [.val (.c (.sl xs))]:=by
 have:=h.frz
 simp only[YG,cu,dV,Ik hp] at this
 exact this
theorem Ctr.aggVal {P:Program} {f:FuncId} {args:List AV} {cl ys:List Cl} (h:Ctr P f args [.agg cl]) (he:KI cl=ys):Ctr P f args [.val (.agg ys)]:=by
 subst he
 exact h.frz
theorem PM {α:Type} {f g:α→List Cl} (h:∀ x,KI (f x)=g x) (l:List α):Qa (l.map f)=l.map g:=by
 grind [oq,aaM]
section avgen
variable {w:World} {St:Nat→Nat→Prop} {st st':List Ob} {β β':Nat→Option Nat}
end avgen
section absorb
variable {w0:Bs} {St0 St:Nat→Nat→Prop} {β:Nat→Option Nat} {s:MS} {a:Act} {w:World}
def BO (N l0 i:Nat) (R:List (List Cl)) (row':List Cl) (ob:Ob) (st:List Ob):List Ob:=(st.take N).set l0 ⟨ob.ty,ob.sz,R.set i row',ob.wr,ob.live⟩
theorem Core.absTrim (h:Core w0 St0 St β s a w) {N l0 i:Nat} {keys:List Nat} {ob:Ob} {R:List (List Cl)} {row row':List Cl} (hl0:l0<N) (hob:DT s.st l0=some ob) (hxs:ob.xs=R.set i row) (hi:i<R.length) (hwr:ob.wr=true)
  (ho:OwnL s.st row row' [l0] fun used=>∀ l∈used,l=l0∨N≤l) (henv:(keys.all fun k=>Na N (Cb s.env k))=true) (hst:(BO N l0 i R row' ob s.st).all (BD N)=true) :
  Core w0 St0 St β ⟨s.n,keys.map fun k=>(k,Cb s.env k),BO N l0 i R row' ob s.st⟩ a w:=by
 have hs0:(⟨ob.ty,ob.sz,ob.xs.set i row',ob.wr,ob.live⟩:Ob)=⟨ob.ty,ob.sz,R.set i row',ob.wr,ob.live⟩:=by rw[hxs,ah]
 have hc:=h.closeRow (i:=i) (used:=(List.range' N s.st.length)) hob (by rw[hxs]; simp[hi]) hwr AOj (OwnL.mono _ _ _ _ _ (fun us hu hk l hl=>by
  rcases hk l hl with e | e
  ·exact .inl e
  ·rcases hu l hl with q | q
   ·exact .inl (by simpa using q)
   ·exact .inr AOj) ho)
 have ht:(Ar (List.range' N s.st.length) l0 i row' ob s.st).take N=BO N l0 i R row' ob s.st:=by
  unfold Ar BO
  rw[fA _ AOj,hs0,List.take_set]
 have:=hc.trim (N:=N) (keys:=keys) ⟨henv,by rw[← hst,← ht]⟩
 unfold Go.Vm.trim at this
 simp only[ht] at this
 exact this
end absorb
def ACU (N l0:Nat) (keys:List Nat) (s t:MS):Prop:=∃ (i:Nat) (R:List (List Cl)) (row row':List Cl) (ob:Ob),(l0<N∧DT s.st l0=some ob∧ob.xs=R.set i row∧i<R.length∧ob.wr=true)∧OwnL s.st row row' [l0] (fun used=>∀ l∈used,l=l0∨N≤l) ∧
 ((keys.all fun k=>Na N (Cb s.env k))=true∧(BO N l0 i R row' ob s.st).all (BD N)=true)∧(⟨s.n,keys.map fun k=>(k,Cb s.env k),BO N l0 i R row' ob s.st⟩:MS)=t
theorem ACz {s:MS} {body:MS→(MS→Prop)→Prop} (N l0:Nat) (keys:List Nat) {A:Type} (f:A→MS) (p:A→Prop) (μ:A→Nat) (x0:A) (h0:QB N keys s∧trim N keys s=f x0∧p x0)
  (h:∀ x,p x→body (f x) fun s'=>∃ y,True∧((QB N keys s'∧trim N keys s'=f y)∨ACU N l0 keys s' (f y))∧p y∧μ y<μ x):LoopK s body:=
 ⟨fun _=>True,fun s t=>(QB N keys s∧trim N keys s=t)∨ACU N l0 keys s t,A,f,p,μ,fun s t _ h=>by
  rcases h with ⟨h1,h2⟩ | ⟨i,R,row,row',ob,⟨g1,g2,g3,g4,g5⟩,g6,⟨g7,g8⟩,g9⟩
  ·exact⟨by rw[← h2]; rfl,fun w0 St0 St β a w hc=>⟨St,β,by rw[← h2]; exact hc.trim h1⟩⟩
  ·exact⟨by rw[← g9],fun w0 St0 St β a w hc=>⟨St,β,by rw[← g9]; exact hc.absTrim g1 g2 g3 g4 g5 g6 g7 g8⟩⟩,⟨x0,trivial,.inl ⟨h0.1,h0.2.1⟩,h0.2.2⟩,h⟩
theorem AB7 {s:MS} {body:MS→(MS→Prop)→Prop} (N:Nat) (keys:List Nat) {A:Type} (f:A→MS) (p:A→Prop) (μ:A→Nat) (x0:A) (h0:QB N keys s∧trim N keys s=f x0∧p x0)
  (h:∀ x,p x→body (f x) fun s'=>∃ y,QB N keys s'∧trim N keys s'=f y∧p y∧μ y<μ x):LoopK s body:=
 ⟨QB N keys,fun s t=>trim N keys s=t,A,f,p,μ,fun s t h1 h2=>⟨by rw[← h2]; rfl,fun w0 St0 St β a w h=>⟨St,β,by rw[← h2]; exact h.trim h1⟩⟩,⟨x0,h0⟩,h⟩
theorem LoopR.mk {s:MS} {body:MS→(MS→Prop)→Prop} (keys:List Nat) {A:Type} (f:A→MS) (p:A→Prop) (μ:A→Nat) (x0:A) (sel0:List (Nat×Bool)) (h0:Tn sel0 keys s∧rel sel0 keys s=f x0) (hp:p x0)
  (h:∀ x,p x→body (f x) fun s'=>∃ y,True∧(∃ sel,Tn sel keys s'∧rel sel keys s'=f y)∧p y∧μ y<μ x):LoopK s body:=
 ⟨fun _=>True,fun s t=>∃ sel,Tn sel keys s∧rel sel keys s=t,A,f,p,μ,fun s t _ ⟨sel,h1,h2⟩=>⟨by rw[← h2]; rfl,fun w0 St0 St β a w h=>⟨St,Vp sel β,by rw[← h2]; exact h.rel h1⟩⟩,⟨x0,trivial,⟨sel0,h0⟩,hp⟩,h⟩
theorem LoopB.mk {s:MS} {body:MS→(MS→Prop)→Prop} (N l0:Nat) (keys:List Nat) {A:Type} (f:A→MS) (p:A→Prop) (μ:A→Nat) (x0:A) (sel0:List (Nat×Bool)) (h0:Tn sel0 keys s∧rel sel0 keys s=f x0) (hp:p x0)
  (h:∀ x,p x→body (f x) fun s'=>∃ y,True∧(∃ sel,Tn sel keys s'∧(rel sel keys s'=f y∨ACU N l0 keys (rel sel keys s') (f y)))∧p y∧μ y<μ x):LoopK s body:=
 ⟨fun _=>True,fun s t=>∃ sel,Tn sel keys s∧(rel sel keys s=t∨ACU N l0 keys (rel sel keys s) t),A,f,p,μ,fun s t _ ⟨sel,h1,h2⟩=>by
  rcases h2 with h2 | ⟨i,R,row,row',ob,⟨g1,g2,g3,g4,g5⟩,g6,⟨g7,g8⟩,g9⟩
  ·exact⟨by rw[← h2]; rfl,fun w0 St0 St β a w h=>⟨St,Vp sel β,by rw[← h2]; exact h.rel h1⟩⟩
  ·exact⟨by rw[← g9]; rfl,fun w0 St0 St β a w hc=>⟨St,Vp sel β,by rw[← g9]; exact(hc.rel h1).absTrim g1 g2 g3 g4 g5 g6 g7 g8⟩⟩,⟨x0,trivial,⟨sel0,h0.1,.inl h0.2⟩,hp⟩,h⟩
theorem AGy {sel:List (Nat×Bool)} {x:List Cl} (h:x.all Hr=true):x.map (TU sel)=x:=by
 conv=>rhs; rw[← List.map_id x]
 refine aaM fun c hc=>?_
 have:=aP.1 h c hc
 cases c<;>simp_all [Hr,TU]
theorem AGz {sel:List (Nat×Bool)} {x:List Cl} (h:x.all Hr=true):x.all (inC sel)=true:=aP.2 fun c hc=>by
 have:=aP.1 h c hc
 cases c<;>simp_all [Hr,inC]
theorem Jy {α:Type} {f:α→List Cl} (hf:∀ x,(f x).all Hr=true) (sel:List (Nat×Bool)) (out:List α) (r row':List Cl) :
  (out.map f ++ [r]).map (fun x=>x.map (TU sel))=(out.map f ++ [row']).set out.length (r.map (TU sel)):=by
 rw[XC,abh _ _ AOi]
 congr 1
 ·grind [List.map_id,aaM,AGy]
 ·simp
theorem B_ {α:Type} {f:α→List Cl} (out:List α) (x:α):(out.map f ++ [f x]).set out.length (f x)=(out ++ [x]).map f:=by
 simp_all
theorem Jz {α:Type} {f:α→List Cl} (hf:∀ x,(f x).all Hr=true) (sel:List (Nat×Bool)) (out:List α) {r:List Cl} (hr:r.all (inC sel)=true):((out.map f ++ [r]).all fun x=>x.all (inC sel))=true:=by
 grind [aP,AGz]
theorem AY {α:Type} {f:α→List Cl} {l:List α} (h:∀ x,DJ (f x)=true):G5 (l.map f)=true:=by
 unfold G5
 grind
def Nh (x:Option AV) (K:AV→Prop):Prop:=match x with
 | some y=>K y
 | none=>False
@[go_sem] theorem AHw {y:AV} {K:AV→Prop}:Nh (some y) K=K y:=rfl
def CallF (P:Program) (f:FuncId) (args:List AV) (K:AV→Prop):Prop:=∃ rs,Ctr P f args rs∧K (retA (XL rs))
theorem AB5 {P:Program} {f:FuncId} {args:List AV} {K:AV→Prop} {B:Prop} (rs:List Res) (h:Ctr P f args rs) (hk:K (retA (XL rs))):PK (CallF P f args K) B:=.inl ⟨rs,h,hk⟩
theorem CW {P:Program} {f:FuncId} {args args':List AV} {K:List Res→Prop} {B:Prop} {rs:List Res} (h:Ctr P f args' rs) (hk:Yy rs→K rs) (e:args=args':= by simp only[go_sem]):PK (CallK P f args K) B:= .inl ⟨rs,e▸h,hk⟩
theorem CY {P:Program} {f:FuncId} {args args':List AV} {K:AV→Prop} {B:Prop} {rs:List Res} (h:Ctr P f args' rs) (hk:K (retA (XL rs))) (e:args=args':= by simp only[go_sem]):PK (CallF P f args K) B:= .inl ⟨rs,e▸h,hk⟩
theorem CZ {P:Program} {f:FuncId} {args args':List AV} {KK:List Res→Prop} {B:Prop} {rs:List Res} (h:Ctr P f args' rs) (hk:KK rs) (e:args=args':= by simp only[go_sem]):PK (CallE P f args KK) B:= .inl ⟨rs,e▸h,hk⟩
def AHx (P:Program) (f:FuncId) (x:Option (List AV)) (K:AV→Prop):Prop:=∃ args rs,x=some args∧rs.all Ji=true∧Ctr P f args rs∧K (retA (XL rs))
theorem AC3 {P:Program} {f:FuncId} {x:Option (List AV)} {K:AV→Prop} {A:Prop} {args:List AV} (rs:List Res) (hx:x=some args) (hc:rs.all Ji=true) (h:Ctr P f args rs) (hk:K (retA (XL rs))) {C:Prop}:PK A (PK (AHx P f x K) C):=.inr (.inl ⟨args,rs,hx,hc,h,hk⟩)
def AHy (P:Program) (f:FuncId) (st:List Ob) (args:List AV) (K:AV→Prop):Prop:=∃ r,InlS P f st args r st∧K r
theorem AC4 {P:Program} {f:FuncId} {st:List Ob} {args:List AV} {K:AV→Prop} {A B:Prop} (r:AV) (h:InlS P f st args r st) (hk:K r):PK A (PK B (AHy P f st args K)):=.inr (.inr ⟨r,h,hk⟩)
def AA7 (P:Program) (f:FuncId) (x:Option (List AV×List Ob)) (st:List Ob) (K:AV→Prop):Prop:=∃ args,x=some (args,st)∧CallF P f args K
@[go_sem] theorem AHz {P:Program} {f:FuncId} {args:List AV} {st:List Ob} {K:AV→Prop}:AA7 P f (some (args,st)) st K=CallF P f args K:=by
 simp[AA7]
theorem Qc {P:Program} {s:MS} {o:Op} {K:AV→Prop} (h:∀ r,CU P s o r=(Ip P s o=some r)):DrK P s o K=Nh (Ip P s o) K:=by
 unfold DrK
 simp only[h]
 cases Ip P s o<;>simp[Nh]
section
variable {P:Program} {s:MS} {K:AV→Prop}
@[go_sem] theorem AJ_ {x:Operand}:DrK P s (.move x) K=Nh (Ip P s (.move x)) K:=Qc fun _=>rfl
@[go_sem] theorem AH0 {x:Operand}:DrK P s (.assign x) K=Nh (Ip P s (.assign x)) K:=Qc fun _=>rfl
@[go_sem] theorem AKA {c x y:Operand}:DrK P s (.pick c x y) K=Nh (Ip P s (.pick c x y)) K:=Qc fun _=>rfl
@[go_sem] theorem AKB {T:TypeId} {x:Operand}:DrK P s (.load T x) K=Nh (Ip P s (.load T x)) K:=Qc fun _=>rfl
@[go_sem] theorem AF5 {x:Operand}:DrK P s (.nilCheck x) K=Nh (Ip P s (.nilCheck x)) K:=Qc fun _=>rfl
@[go_sem] theorem AI1 {b:BinOp} {T T':TypeId} {x y:Operand}:DrK P s (.binOp b T x y T') K=Nh (Ip P s (.binOp b T x y T')) K:=Qc fun _=>rfl
@[go_sem] theorem AKC {b:UnOp} {T:TypeId} {x:Operand}:DrK P s (.unOp b T x) K=Nh (Ip P s (.unOp b T x)) K:=Qc fun _=>rfl
@[go_sem] theorem AG0 {T T':TypeId} {x:Operand}:DrK P s (.convert T T' x) K=Nh (Ip P s (.convert T T' x)) K:=Qc fun _=>rfl
@[go_sem] theorem AE5 {T:TypeId} {x:Operand} {i:Nat}:DrK P s (.fieldAddr T x i) K=Nh (Ip P s (.fieldAddr T x i)) K:=Qc fun _=>rfl
@[go_sem] theorem AE6 {T:TypeId} {x y:Operand}:DrK P s (.indexAddr T x y) K=Nh (Ip P s (.indexAddr T x y)) K:=Qc fun _=>rfl
@[go_sem] theorem AG1 {x:Operand} {i:Nat}:DrK P s (.extract x i) K=Nh (Ip P s (.extract x i)) K:=Qc fun _=>rfl
@[go_sem] theorem AK0 {args:Array Operand} {ts:Array TypeId}:DrK P s (.call ⟨.builtin .len,args,ts⟩) K=Nh (Ip P s (.call ⟨.builtin .len,args,ts⟩)) K:=Qc fun _=>rfl
@[go_sem] theorem AKD {f:FuncId} {args:Array Operand} {ts:Array TypeId}:DrK P s (.call ⟨.value (.func f),args,ts⟩) K=PK (AA7 P f (XI s.st (args.toList.map (Ew s))) s.st K) (PK (AHx P f (Tf s.st (args.toList.map (Ew s))) K) (AHy P f s.st (args.toList.map (Ew s)) K)):=by
 simp only[DrK,AA7,CallF,CU,AHx,AHy,PK]
 apply propext
 constructor
 ·rintro⟨r,⟨args',rs,h1,h2,rfl⟩ | hr,h3⟩
  ·rcases h1 with h1 | ⟨h1,h4⟩
   ·exact .inl ⟨args',h1,rs,h2,h3⟩
   ·exact .inr (.inl ⟨args',rs,h1,h4,h2,h3⟩)
  ·exact .inr (.inr ⟨r,hr,h3⟩)
 ·rintro(⟨args',h1,rs,h2,h3⟩ | ⟨args',rs,h1,h4,h2,h3⟩ | ⟨r,hr,h3⟩)
  ·exact⟨_,.inl ⟨args',rs,.inl h1,h2,rfl⟩,h3⟩
  ·exact⟨_,.inl ⟨args',rs,.inr ⟨h1,h4⟩,h2,rfl⟩,h3⟩
  ·exact⟨r,.inr hr,h3⟩
end
def ACV (b:Bool) (x:Option (AV×List Ob)) (st:List Ob) (K:AV→Prop):Prop:=match b,x with
 | true,some (r,st')=>st'=st∧K r
 | _,_=>False
@[go_sem] theorem AI2 {r:AV} {st:List Ob} {K:AV→Prop}:ACV true (some (r,st)) st K=K r:=by simp[ACV]
@[go_sem] theorem AI3 {P:Program} {s:MS} {K:AV→Prop} {T:TypeId} {ps:Array (Nat×Operand)}:DrK P s (.build T ps) K=ACV (EF P T) (UQ P s T ps.toList) s.st K:=by
 unfold DrK ACV
 simp only[CU]
 grind
@[go_sem] theorem AI4 {P:Program} {s:MS} {K:AV→Prop} {T:TypeId} {x:Operand} {lo hi:Option Operand}:DrK P s (.slice T x lo hi none) K=ACV true (UT P s T (Ew s x) lo hi) s.st K:=by
 unfold DrK ACV
 simp only[CU]
 grind
theorem J3 {l:Int} (h:WfA (.c (.v (.int .i64 l)))):l≤9223372036854775807:=by
 simp only[WfA,uj,QZ,Lit.wf,IntKind.min,IntKind.max,IntKind.signed,IntKind.bits] at h
 grind
theorem zX {s:ByteArray} (h:uj (.v (.string s))):s.size≤9223372036854775807:=by
 have h':decide (s.size≤maxLen)=true:=h
 have h2:=bZ h'
 simpa [maxLen] using h2
def grow (xs:List (List Cl)) (z:List Cl) (k:Nat):List (List Cl):=xs.take k++List.replicate (xs.length-k) z
theorem DC {xs:List (List Cl)} {z:List Cl}:grow xs z 0=List.replicate xs.length z:=by simp[grow]
theorem AEW {xs:List (List Cl)} {z:List Cl}:grow xs z xs.length=xs:=by simp[grow]
theorem YS {xs:List (List Cl)} {z:List Cl} {k:Nat} (h:k≤xs.length):(grow xs z k).length=xs.length:=by simp[grow]; omega
theorem AF6 {xs:List (List Cl)} {z:List Cl} {k:Nat} (h:k<xs.length):(grow xs z k)[k]?=some z:=by
 have h1:(xs.take k).length=k:=by rw[bz]; omega
 rw[grow,aY (Nat.le_of_eq h1),h1,jP,List.getElem?_replicate,bu AOh]
theorem AEX {xs:List (List Cl)} {z:List Cl} {k:Nat} (h:k<xs.length):(grow xs z k).set k xs[k]=grow xs z (k+1):=by
 have h1:(xs.take k).length=k:=AOj
 apply abp
 intro i
 rw[yz,YS AOh]
 by_cases e:k=i
 ·subst e
  rw[bu rfl,bu h,grow,bG AOj]
  simp[h]
 ·rw[aZ e]
  simp only[grow,List.getElem?_append,bz,aaJ,List.getElem?_replicate]
  grind
theorem Bg {α:Type} {f:α→List Cl} {xs:List α} {z:List Cl} {k:Nat} (h:k≤xs.length):(grow (xs.map f) z k).length=xs.length:=by grind [YS,ae]
theorem EH {α:Type} {f:α→List Cl} {xs:List α} {z:List Cl} {k:Nat} (h:k<xs.length):(grow (xs.map f) z k)[k]?=some z:=AF6 AO7
theorem Gv {α:Type} {f:α→List Cl} {xs:List α} {z:List Cl} {k:Nat} (h:k<xs.length):(grow (xs.map f) z k).set k (f xs[k])=grow (xs.map f) z (k+1):=by
 have h2:k<(xs.map f).length:=AO7
 have:=AEX (z:=z) h2
 grind
theorem Gw {α:Type} {f:α→List Cl} {xs:List α} {z:List Cl}:grow (xs.map f) z xs.length=xs.map f:=by
 grind [AEW,ae]
theorem zY {x:List Cl} (h:DJ x=true):x.all (Jw 1)=true:=by
 refine aP.2 fun c hc=>?_
 have:=aP.1 h c hc
 cases c<;>simp_all [AB,Jw]
theorem Nj {α:Type} {f:α→List Cl} (hf:∀ x,DJ (f x)=true) {z:List Cl} (hz:z.all (Jw 1)=true) {xs:List α} {k T w:Nat} {wr live:Bool} :
  (List.take 1 [(⟨T,w,grow (xs.map f) z k,wr,live⟩:Ob)]).all (BD 1)=true:=by
 simp only[abg,abe,bC,bU,aS,BD,qw]
 refine .inr (aP.2 fun x hx=>?_)
 simp only[grow,aaY] at hx
 grind [aar,zY]
theorem vS {N:Nat} {x:List Cl} (h:x.all Hr=true):x.all (Jw N)=true:=by
 refine aP.2 fun c hc=>?_
 have:=aP.1 h c hc
 cases c<;>simp_all [Hr,Jw]
theorem Jg {α:Type} {f:α→List Cl} (hf:∀ x,(f x).all Hr=true) {z:List Cl} (hz:z.all (Jw 1)=true) {xs:List α} {k T w:Nat} {wr live:Bool} :
  [(⟨T,w,grow (xs.map f) z k,wr,live⟩:Ob)].all (BD 1)=true:=by
 simp only[bC,bU,aS,BD,qw]
 refine .inr (aP.2 fun x hx=>?_)
 simp only[grow,aaY] at hx
 grind [aar,vS]
theorem Iy:∀ (a b:List Cl),KI (a++b)=KI a++KI b
 | [],b=>by simp[KI]
 | c::a,b=>by simp[KI,Iy a b]
attribute [go_sem] aa7 Nat.reduceBEq Nat.reduceAdd Nat.reduceSub Nat.reduceMul Nat.reduceLT Nat.reduceLeDiff Nat.reduceEqDiff Nat.succ_ne_zero reduceIte true_or or_true
end Go.Vm
