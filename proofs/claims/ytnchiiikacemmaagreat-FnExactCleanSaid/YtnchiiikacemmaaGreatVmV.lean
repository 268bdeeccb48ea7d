/- A part. -/
import Derived.Test.YtnchiiikacemmaaGreatVmU
set_option linter.unusedSimpArgs false
set_option linter.unusedVariables false
namespace Go.Vm
open Go.RowKit
def ADN (P:Program) (y:Code) (Q:Ex→MS→Prop):Ex→MS→Prop:=AGl (vp P y) Q
def cndC (P:Program) (x y:Code) (s:MS) (Q:Ex→MS→Prop) (b:Bool):Prop:=cndM (vp P x) (vp P y) s Q b
def AGp (P:Program) (x:Code) (Q:Ex→MS→Prop) (s:MS) (K:MS→Prop):Prop:=AGm (vp P x) Q s K
section
variable {P:Program} {s:MS} {Q:Ex→MS→Prop} {x y:Code} {K:MS→Prop}
@[go_sem] theorem AHi {σ:List Nat} {e1 e2:Nat} {l:List Oper}:Gx σ e1 e2 l=ja σ e1 e2 l σ:=rfl
@[go_sem] theorem AGq {σ:List Nat} {e1 e2:Nat} {l:List Oper}:ja σ e1 e2 l [] = []:=rfl
@[go_sem] theorem AFo {σ:List Nat} {e1 e2 i:Nat} {l:List Oper} {is:List Nat}:ja σ e1 e2 l (i::is)=xO σ e1 e2 i l[i]? (ja σ e1 e2 l is):=rfl
@[go_sem] theorem AE7 {σ:List Nat} {e1 e2 i:Nat} {d:Option Nat} {o:Op} {ty:TypeId} {ps:String} {af:Array Edge} {g:Option (Nat×Bool)} {r:List Oper} :
  xO σ e1 e2 i (some ⟨d,o,ty,ps,af,g⟩) r=⟨d,o,ty,ps,(o8 σ (ABX e1 e2 i af.toList)).toArray,rnG σ g⟩::r:=rfl
@[go_sem] theorem AGr {σ:List Nat}:o8 σ [] = []:=rfl
@[go_sem] theorem AFp {σ:List Nat} {i:Nat} {g:Ground} {es:List Edge}:o8 σ (⟨i,g⟩::es)=⟨Js σ i,g⟩::o8 σ es:=rfl
@[go_sem] theorem AGs {σ:List Nat}:rnG σ none=none:=rfl
@[go_sem] theorem AGt {σ:List Nat} {j:Nat} {b:Bool}:rnG σ (some (j,b))=some (Js σ j,b):=rfl
@[go_sem] theorem AGu {i:Nat}:Js [] i=0:=rfl
@[go_sem] theorem AFq {x i:Nat} {xs:List Nat}:Js (x::xs) i=if x=i then 0 else Js xs i+1:=by
 simp only[Js]
 cases h:Nat.beq x i with
 | true=>rw[aX (Nat.eq_of_beq_eq_true h)]
 | false=>rw[aV (aby h)]
@[go_sem] theorem AHj {e1 e2 i:Nat} {l:List Edge}:ABX e1 e2 i l=if i=e2 then⟨e1,.data⟩::l else l:=by
 simp only[ABX]
 cases h:Nat.beq i e2 with
 | true=>rw[aX (Nat.eq_of_beq_eq_true h)]
 | false=>rw[aV (aby h)]
@[go_sem] theorem AHk:vp P .skip s Q=Q .normal s:=rfl
@[go_sem] theorem AIB {id:Nat} {ops:Array Oper}:vp P (.region id ops false) s Q=vpR P ops (Q .normal) s:=rfl
@[go_sem] theorem AHl {id:Nat} {ops:Array Oper}:vp P (.region id ops true) s Q=DrawK P ops s (Q .normal):=rfl
@[go_sem] theorem AIC:vp P (.seq x y) s Q=vp P x s (ADN P y Q):=rfl
@[go_sem] theorem AHm {c:Operand}:vp P (.cond c x y) s Q=xM (EU s c) (cndC P x y s Q):=rfl
@[go_sem] theorem AGv {id:Nat}:vp P (.block id x) s Q=vp P x s (zX id Q):=rfl
@[go_sem] theorem AHn:vp P (.loop x) s Q=LoopK s (AGp P x Q):=rfl
@[go_sem] theorem AHo {id:Nat}:vp P (.exit id) s Q=Q (.exit id) s:=rfl
@[go_sem] theorem AGw:vp P (.scope x) s Q=vp P x s Q:=rfl
@[go_sem] theorem AID:vp P .ret s Q=Q .ret s:=rfl
@[go_sem] theorem AD3:ADN P y Q .normal s=vp P y s Q:=rfl
@[go_sem] theorem AFr {i:Nat}:ADN P y Q (.exit i) s=Q (.exit i) s:=rfl
@[go_sem] theorem AGx:ADN P y Q .ret s=Q .ret s:=rfl
@[go_sem] theorem AFs:cndC P x y s Q true=vp P x s Q:=zY
@[go_sem] theorem AE8:cndC P x y s Q false=vp P y s Q:=uX
theorem cndC.mk {b:Bool} (h1:b=true→vp P x s Q) (h2:b=false→vp P y s Q):cndC P x y s Q b:=cndM.mk h1 h2
@[go_sem] theorem AD4 {id:Nat}:zX id Q .normal s=Q .normal s:=rfl
@[go_sem] theorem AFt {id i:Nat}:zX id Q (.exit i) s=if i=id then Q .normal s else Q (.exit i) s:=rfl
@[go_sem] theorem AGy {id:Nat}:zX id Q .ret s=Q .ret s:=rfl
@[go_sem] theorem AHp:AGp P x Q s K=vp P x s (ABg K Q):=rfl
@[go_sem] theorem AD5:ABg K Q .normal s=K s:=rfl
@[go_sem] theorem AFu {i:Nat}:ABg K Q (.exit i) s=Q (.exit i) s:=rfl
@[go_sem] theorem AGz:ABg K Q .ret s=Q .ret s:=rfl
@[go_sem] theorem AHq {ops:Array Oper}:vpO P ops K [] s=K s:=rfl
@[go_sem] theorem AG0 {ops:Array Oper} {o:Oper} {rest:List Oper}:vpO P ops K (o::rest) s=Qu (jY ops s.env o.guard) (gO P o (vpO P ops K rest) s):=rfl
@[go_sem] theorem AHr {ops:Array Oper}:vpD P ops K [] s=K s:=rfl
@[go_sem] theorem AG1 {ops:Array Oper} {o:Oper} {rest:List Oper}:vpD P ops K (o::rest) s=Qu (jY ops s.env o.guard) (gD P o (vpD P ops K rest) s):=rfl
@[go_sem] theorem AHs {d:Option Nat} {v:AV} {st':List Ob}:ABZ s d K v st'=K (MS.put ⟨s.n,s.env,st'⟩ d v):=rfl
@[go_sem] theorem AG2 {d:Option Nat} {v:AV}:xN s d K v=K (s.put d v):=rfl
@[go_sem] theorem AHt {d:Option Nat} {st1:List Ob} {rs:List Res}:ADB s d K st1 rs=K (MS.put ⟨s.n,s.env,(Il st1 rs).2⟩ d (retA (Il st1 rs).1)):=rfl
@[go_sem] theorem AFv {f:FuncId} {d:Option Nat} {args:List AV} {st1:List Ob}:uV P f s d K args st1=CallK P f args (ADB s d K st1):=rfl
@[go_sem] theorem AD6 {vars:List ResultVar} {rs:List Res}:ADM P vars rs .normal s=Post P vars rs s:=rfl
theorem EndH.mk {vars:List ResultVar} {rs:List Res} {t:MS} (h:Head s t) (hp:Post P vars rs t):EndH P vars rs .ret s:=⟨t,h,hp⟩
@[go_sem] theorem AG3 {vars:List ResultVar} {rs:List Res}:ADM P vars rs .ret s=Post P vars rs s:=rfl
theorem CallK.mk {f:FuncId} {args:List AV} {K:List Res→Prop} {B:Prop} (rs:List Res) (h:Ctr P f args rs) (hk:jR rs→K rs):U7 (CallK P f args K) B:=.inl ⟨rs,h,hk⟩
theorem BorK.mk {f:FuncId} {x:Option (List AV)} {K:List Res→Prop} {A B:Prop} {args:List AV} (rs:List Res) (hx:x=some args) (hc:rs.all Qk=true) (h:Ctr P f args rs) (hk:jR rs→K rs):U7 A (U7 (BorK P f s x K) B):=.inr (.inl ⟨args,rs,hx,hc,h,hk⟩)
theorem MutK.mk {f:FuncId} {A B C:Prop} {args rest:List AV} {d:Option Nat} {zs cl:List Cl} {M:List Cl→List AV→Prop} (g:Bool) (h:MCtr P f g cl rest M) (hx:args=mkA g zs::rest) (ho:BX s.st zs cl [] (fun _=>True)) (h1:rest.all isV=true)
  (hg:g=true∨zs.length=1) (hk:∀ cl' rs,M cl' rs→(rs.all isV=true∧Wx cl cl')∧K (MS.put ⟨s.n,s.env,H_ s.st zs cl'⟩ d (retA rs))):U7 A (U7 B (U7 (MutK P f s args d K) C)):=.inr (.inr (.inl ⟨rest,g,zs,cl,M,hx,hg,ho,h1,h,hk⟩))
theorem PtrK.mk {f:FuncId} {A B C:Prop} {args rest rest' rs:List AV} {d:Option Nat} {l:Nat} {ob:Ob} {zs cl cl':List Cl} {st1 st2:List Ob} (h:PCtr P f ob.ty cl rest' cl' rs) (hx:args = .lp l 0 0::rest) (hob:ES s.st l=some ob) (hwr:ob.wr=true) (hxs:ob.xs = [zs])
  (hf:fzL s.st zs=some (cl,st1)) (hfs:TP st1 rest=some (rest',st2)) (hob2:ES st2 l=some ob) (hk:K (MS.put ⟨s.n,s.env,st2.set l ⟨ob.ty,ob.sz,[cl'],true,true⟩⟩ d (retA rs))):U7 A (U7 B (U7 C (PtrK P f s args d K))):=
 .inr (.inr (.inr ⟨l,rest,rest',ob,zs,cl,cl',st1,st2,rs,hx,hob,hwr,hxs,hf,hfs,hob2,h,hk⟩))
@[go_sem] theorem AHu {x:Option (Nat×Nat)} {ops:Array Oper} {i:Nat} {H:List (Nat×List Ob)} {pd:List PE}:vpE P x ops K [] i H pd s=K s:=rfl
@[go_sem] theorem AG4 {x:Option (Nat×Nat)} {ops:Array Oper} {o:Oper} {rest:List Oper} {i:Nat} {H:List (Nat×List Ob)} {pd:List PE}:vpE P x ops K (o::rest) i H pd s=Qu (jY ops s.env o.guard) (gE P x o s H pd i (vpE P x ops K rest (i+1))):=rfl
section
variable {x:Option (Nat×Nat)} {o:Oper} {H:List (Nat×List Ob)} {pd:List PE} {i:Nat} {V:List (Nat×List Ob)→List PE→MS→Prop}
@[go_sem] theorem AHv:gE P x o s H pd i V true=ABe P x o s H pd i V (V_ o.op):=JU
@[go_sem] theorem AE9:ABe P x o s H pd i V false=DrK P s o.op (rdP P o s H pd i V):=Jq
@[go_sem] theorem AFw:ABe P x o s H pd i V true=CondK (VA x i o H) (ABd P s o.op (ADJ P o s H pd i V)) False:=JU
@[go_sem] theorem AHw {y:AV} {st':List Ob}:ADJ P o s H pd i V y st'=(U_ P s.n o st' pd∧V ((i+1,st')::H) (Rj o pd) (MS.put ⟨s.n,s.env,st'⟩ o.dst y)):=rfl
@[go_sem] theorem AIE {r:AV}:rdP P o s H pd i V r=(U9 P s.n s.env o r H H∧V H (⟨i,o.op,s.env,r⟩::pd) (s.put o.dst r)):=rfl
end
@[go_sem] theorem AHx {KK:AV→List Ob→Prop} {st1:List Ob} {rs:List Res}:ADI KK st1 rs=KK (retA (Il st1 rs).1) (Il st1 rs).2:=rfl
@[go_sem] theorem AFx {f:FuncId} {KK:AV→List Ob→Prop} {args:List AV} {st1:List Ob}:ABc P f KK args st1=CallE P f args (ADI KK st1):=rfl
theorem CallE.mk {f:FuncId} {args:List AV} {KK:List Res→Prop} {B:Prop} (rs:List Res) (h:Ctr P f args rs) (hk:KK rs):U7 (CallE P f args KK) B:=.inl ⟨rs,h,hk⟩
theorem BorE.mk {f:FuncId} {x:Option (List AV)} {KK:List Res→Prop} {A:Prop} {args:List AV} (rs:List Res) (hx:x=some args) (hc:rs.all Qk=true) (h:Ctr P f args rs) (hk:KK rs):U7 A (BorE P f x KK):=.inr ⟨args,rs,hx,hc,h,hk⟩
theorem DrK.call {o:Op} {c:Call} {f:FuncId} {K:AV→Prop} (ho:o = .call c) (hc:c.callee = .value (.func f)) {args:List AV} {rs:List Res} (hf:TP s.st (c.args.toList.map (EU s))=some (args,s.st)) (h:Ctr P f args rs) (hk:K (retA (Wp rs))):DrK P s o K:=by
 subst ho
 refine⟨_, ?_,hk⟩
 simp only[Bj,hc]
 exact⟨args,rs,.inl hf,h,rfl⟩
end
theorem DrK.op {P:Program} {s:MS} {o:Op} {K:AV→Prop} {r:AV} (h:Bj P s o r) (hk:K r):DrK P s o K:=⟨r,h,hk⟩
attribute [go_sem] JJ jY AC9 ABU ADC ABa Qw Ws same H7 EU U0 Cm MS.put ABE YG Nv oQ Jp Ri Rh uM uJ ABR uN AGj List.any_cons List.any_nil dZ He TM cellsA ES MK ADz Qq fzC oK fzL fzA TP V9 RY Ae IW
@[go_sem] theorem AE_ {n:Nat}:Region.binds .any ⟨n,.data⟩=true:=rfl
@[go_sem] theorem AD7 {n:Nat}:Region.binds .any ⟨n,.chain⟩=true:=rfl
@[go_sem] theorem AD8 {n:Nat}:Region.binds .any ⟨n,.guard⟩=true:=rfl
@[go_sem] theorem AD9 {n:Nat}:Region.binds .any ⟨n,.phase⟩=true:=rfl
@[go_sem] theorem AG5 {b:Bool}:CondK b True True=True:=by cases b<;>simp[CondK]
@[go_sem] theorem AD_ {i:Nat} {o:Oper} {H:List (Nat×List Ob)}:VA none i o H=chainB o H:=rfl
@[go_sem] theorem AEA {i j p:Nat} {o:Oper} {H:List (Nat×List Ob)}:VA (some (j,p)) i o H=if i=j then jd p H else chainB o H:=rfl
attribute [go_sem] BM U8 U9 U_ Rj chainB jd V_ ABd Bj List.any_toArray List.any_cons List.any_nil abw bT JU Jq ah and_self
attribute [go_sem] ADE uP uQ uS uT
attribute [go_sem] Il Wp retA Qz Post PQ NI BX Fq Ii xK IX unpin jU zQ AC2 Qr H_ Ii PH FB Iu ACr AEu AEv aUn
attribute [go_sem] abl bU bi bH bY oI aB aaD List.getElem?_nil aa7 List.drop_succ_cons abk abh V3 cZ List.set_cons_zero List.set_cons_succ List.modify_cons List.toList_toArray bz List.drop_nil List.take_nil
attribute [go_sem] oJ abE aK and_self true_and zK eq_self aW aI decide_true abJ az ne_eq not_false_eq_true not_true_eq_false bV
attribute [go_sem] aQ aN ai ag aU aJ Om bT Bool.or_true abw
@[go_sem] theorem AHy {x:Value}:JI (.c (.v x))=true:=rfl
@[go_sem] theorem AG6 {xs:List (List Cl)}:JI (.c (.sl xs))=true:=rfl
@[go_sem] theorem AFy {l:Nat}:JI (.c (.ref l))=true:=rfl
@[go_sem] theorem AFz:JI (.agg [])=true:=rfl
@[go_sem] theorem AG7 {x:Value} {r:List Cl}:JI (.agg (.v x::r))=JI (.agg r):=rfl
@[go_sem] theorem AF0 {xs:List (List Cl)} {r:List Cl}:JI (.agg (.sl xs::r))=JI (.agg r):=rfl
@[go_sem] theorem AFA {l:Nat} {r:List Cl}:JI (.agg (.ref l::r))=JI (.agg r):=rfl
@[go_sem] theorem AEB {n:Nat}:Jc n []=true:=rfl
@[go_sem] theorem ADO {n:Nat} {r:List Cl} {ys:List (List Cl)}:Jc n (r::ys)=(rowOk n r&&Jc n ys):=rfl
@[go_sem] theorem AG8 {n:Nat} {r:List Cl}:rowOk n r=(r.length==n&&r.all fun c=>!Fb c):=rfl
@[go_sem] theorem AIF {x:Value}:Fb (.v x)=false:=rfl
@[go_sem] theorem AHz {x:List (List Cl)}:Fb (.sl x)=false:=rfl
@[go_sem] theorem AG9 {l:Nat}:Fb (.ref l)=false:=rfl
@[go_sem] theorem AG_ {ty sz:Nat} {xs:List (List Cl)}:JI (.c (.ow ty sz xs))=false:=rfl
@[go_sem] theorem AIG {cl:List Cl}:mkA true cl = .agg cl:=rfl
@[go_sem] theorem AIH {c:Cl} {r:List Cl}:mkA false (c::r) = .c c:=rfl
@[go_sem] theorem AEC {P:Program} {vars:List ResultVar} {b:Nat} {ty:TypeId} {cl':List Cl} {rs:List AV} {s:MS}:AE6 P vars b ty cl' rs .normal s=xZ P vars b ty cl' rs s:=rfl
@[go_sem] theorem AHA {P:Program} {vars:List ResultVar} {b:Nat} {ty:TypeId} {cl':List Cl} {rs:List AV} {s:MS}:AE6 P vars b ty cl' rs .ret s=xZ P vars b ty cl' rs s:=rfl
@[go_sem] theorem AED {P:Program} {vars:List ResultVar} {g:Bool} {us:List Value} {M:List Cl→List AV→Prop} {s:MS}:AE5 P vars g us M .normal s=xY P vars g us M s:=rfl
@[go_sem] theorem AHB {P:Program} {vars:List ResultVar} {g:Bool} {us:List Value} {M:List Cl→List AV→Prop} {s:MS}:AE5 P vars g us M .ret s=xY P vars g us M s:=rfl
@[go_sem] theorem AII:(true==true)=true:=rfl
@[go_sem] theorem AIJ:(true==false)=false:=rfl
@[go_sem] theorem AIK:(false==true)=false:=rfl
@[go_sem] theorem AIL:(false==false)=true:=rfl
theorem ABm (b:Bool):(b==true)=b:=by cases b<;>rfl
theorem zh (b:Bool):(b==false) = !b:=by cases b<;>rfl
attribute [go_sem] ABm zh
@[go_sem] theorem AHC (k:IntKind) (n:Nat):Zu (.c (.v (.int k (n:Int))))=some n:=by simp[Zu]
@[go_sem] theorem AF1 (k:IntKind):Zu (.c (.v (.int k 0)))=some 0:=by simp[Zu]
theorem wrap_i64 {n:Int} (h : -9223372036854775808≤n) (h2:n≤9223372036854775807):IntKind.i64.wrap n=n:=
 JS (by simp[Lit.wf,IntKind.min,IntKind.max,IntKind.signed,IntKind.bits]; omega)
theorem AA {α β:Type} (f:α→β) {l:List α} {k:Nat} (h:k<l.length):(l.map f)[k]?=some (f l[k]):=by simp[h]
theorem uf {c:Cl} (h:AY c=true):er c=c:=by cases c<;>simp_all [AY,er]
theorem PS:∀ {cs:List Cl},CQ cs=true→J5 cs=cs
 | [],_=>rfl
 | c::cs,h=>by
  simp only[CQ,bK,ax] at h
  rw[J5,uf h.1,PS (cs:=cs) h.2]
theorem Hm:∀ {xs:List (List Cl)},Gj xs=true→Oq xs=xs
 | [],_=>rfl
 | x::xs,h=>by
  simp only[Gj,bK,ax] at h
  rw[Oq,PS h.1,Hm (xs:=xs) h.2]
theorem CS {xs:List (List Cl)} (h:Gj xs=true):FT xs=true:=
 aG.2 fun x hx=>aG.2 fun c hc=>by
  have:=aG.1 (aG.1 h x hx) c hc
  cases c<;>simp_all [AY,NG]
theorem QO {α:Type} {f:α→List Cl} {l:List α} (h:∀ x,(f x).all NG=true):FT (l.map f)=true:=by
 unfold FT
 rw[List.all_map]
 exact aG.2 fun x _=>h x
theorem Ctr.val {P:Program} {f:FuncId} {args:List AV} {ty sz:Nat} {xs:List (List Cl)} {wr:Bool} (h:Ctr P f args [.own ty sz xs wr]) (hp:Gj xs=true):Ctr P f args [.val (.c (.sl xs))]:=by
 have:=h.frz
 simp only[V3,cZ,jS,Hm hp] at this
 exact this
theorem Ctr.valO {P:Program} {f:FuncId} {args:List AV} {ty sz:Nat} {xs ys:List (List Cl)} {wr:Bool} (h:Ctr P f args [.own ty sz xs wr]) (he:Oq xs=ys):Ctr P f args [.val (.c (.sl ys))]:=by
 subst he
 exact h.frz
theorem Ctr.aggVal {P:Program} {f:FuncId} {args:List AV} {cl ys:List Cl} (h:Ctr P f args [.agg cl]) (he:J5 cl=ys):Ctr P f args [.val (.agg ys)]:=by
 subst he
 exact h.frz
theorem PT {α:Type} {f g:α→List Cl} (h:∀ x,J5 (f x)=g x) (l:List α):Oq (l.map f)=l.map g:=by
 rw[jQ]
 exact aaM fun x _=>h x
theorem pM {xs:List (List Cl)} {sz:Nat} (hl:∀ x∈xs,x.length=sz):∀ {k:Nat} {c:Cl},xs.flatten[k]?=some c→∃ (i j:Nat) (x:List Cl),xs[i]?=some x∧x[j]?=some c∧k=i*sz+j∧j<sz:=by
 induction xs with
 | nil=>intro k c h; simp at h
 | cons x xs ih =>
  intro k c h
  have hx:x.length=sz:=hl x (by simp)
  simp only[bM] at h
  rcases bf k x.length with h' | h'
  ·rw[au h'] at h
   exact⟨0,k,x,by simp,h,by omega,by omega⟩
  ·rw[aF h'] at h
   obtain⟨i,j,y,q1,q2,q3,q4⟩:=ih (fun y hy=>hl y (by simp[hy])) h
   exact⟨i+1,j,y,by simpa using q1,q2,by rw[Qj]; omega,q4⟩
theorem AFB {i i' j j' sz:Nat} (hj:j<sz) (hj':j'<sz) (h:i*sz+j=i'*sz+j'):i=i'∧j=j':=by
 have h1:(i*sz+j)/sz=i:=by rw[abI,Nat.mul_add_div (by omega),Nat.div_eq_of_lt hj]; rfl
 have h2:(i'*sz+j')/sz=i':=by rw[abI,Nat.mul_add_div (by omega),Nat.div_eq_of_lt hj']; rfl
 have:i=i':=by rw[← h1,h,h2]
 subst this
 exact⟨rfl,by omega⟩
section avgen
variable {w:World} {St:Nat→Nat→Prop} {st st':List Ob} {β β':Nat→Option Nat}
mutual
theorem jh (N:Nat) (hC:∀ (c:Cl) (u:Value),FQ N c=true→RdC w St st β c u→RdC w St st' β' c u) (hL:∀ (l i off:Nat) (u:Value),l<N→AVR w St st β (.lp l i off) u→AVR w St st' β' (.lp l i off) u) :
  ∀ (x:AV) (u:Value),Hg N x=true→AVR w St st β x u→AVR w St st' β' x u
 | .c x,u,hc,h=>by simp only[AVR] at h ⊢; exact hC x u (by simpa [Hg] using hc) h
 | .agg xs,u,hc,h=>by
  simp only[AVR] at h ⊢
  simp only[Hg] at hc
  obtain⟨us,h1,h2,h3⟩:=h
  refine⟨us,h1,h2,fun k c hk=>?_⟩
  obtain⟨y,hy,hr⟩:=h3 k c hk
  exact⟨y,hy,hC c y (aG.1 hc c (aZ hk)) hr⟩
 | .lp l i off,u,hc,h=>hL l i off u (by simpa [Hg] using hc) h
 | .ip xs,u,_,h=>by simp only[AVR] at h ⊢; exact h
 | .tup xs,u,hc,h=>by
  simp only[AVR] at h ⊢
  obtain⟨us,h1,h2⟩:=h
  exact⟨us,h1,pO N hC hL xs us (by simpa [Hg] using hc) h2⟩
 | .undef,u,_,h=>by simp only[AVR] at h ⊢; exact h
 | .un,u,_,h=>by simp only[AVR]
 | .pin x u0,u,hc,h=>by
  simp only[AVR] at h ⊢
  exact⟨h.1,jh N hC hL x u (by simpa [Hg] using hc) h.2⟩
theorem pO (N:Nat) (hC:∀ (c:Cl) (u:Value),FQ N c=true→RdC w St st β c u→RdC w St st' β' c u) (hL:∀ (l i off:Nat) (u:Value),l<N→AVR w St st β (.lp l i off) u→AVR w St st' β' (.lp l i off) u) :
  ∀ (xs:List AV) (us:List Value),QN N xs=true→AVRs w St st β xs us→AVRs w St st' β' xs us
 | [],us,_,h=>by simp only[AVRs] at h ⊢; exact h
 | x::xs,us,hc,h=>by
  simp only[AVRs] at h ⊢
  simp only[QN,ax] at hc
  obtain⟨y,ys,h1,h2,h3⟩:=h
  exact⟨y,ys,h1,jh N hC hL x y hc.1 h2,pO N hC hL xs ys hc.2 h3⟩
end
end avgen
section absorb
variable {w0:Bs} {St0 St:Nat→Nat→Prop} {β:Nat→Option Nat} {s:MS} {a:Act} {w:World}
def Az (N l0 i:Nat) (R:List (List Cl)) (row':List Cl) (ob:Ob) (st:List Ob):List Ob:=(st.take N).set l0 ⟨ob.ty,ob.sz,R.set i row',ob.wr,ob.live⟩
theorem Core.absTrim (h:Core w0 St0 St β s a w) {N l0 i:Nat} {keys:List Nat} {ob:Ob} {R:List (List Cl)} {row row':List Cl} (hl0:l0<N) (hob:ES s.st l0=some ob) (hxs:ob.xs=R.set i row) (hi:i<R.length) (hwr:ob.wr=true)
  (ho:BX s.st row row' [l0] fun used=>∀ l∈used,l=l0∨N≤l) (henv:(keys.all fun k=>Hg N (Cm s.env k))=true) (hst:(Az N l0 i R row' ob s.st).all (Aw N)=true) :
  Core w0 St0 St β ⟨s.n,keys.map fun k=>(k,Cm s.env k),Az N l0 i R row' ob s.st⟩ a w:=by
 obtain⟨hl,hlive⟩:=BV hob
 obtain⟨φ,hφ⟩:=h.own
 have hlN:l0<(s.st.take N).length:=by
  have:=(ay.1 hl).1
  rw[bn]; omega
 have hget:∀ (l:Nat) (o2:Ob),(Az N l0 i R row' ob s.st)[l]?=some o2→l<N∧((l=l0∧o2=⟨ob.ty,ob.sz,R.set i row',ob.wr,ob.live⟩)∨(l≠l0∧s.st[l]?=some o2)):=by
  intro l o2 h2
  unfold Az at h2
  rw[di] at h2
  by_cases e:l0=l
  ·subst e
   simp only[hlN,aW,ah] at h2
   exact⟨hl0,.inl ⟨rfl,h2.symm⟩⟩
  ·simp only[e,aI] at h2
   rw[bu] at h2
   split at h2
   ·rename_i hlt; exact⟨hlt,.inr ⟨fun e2=>e e2.symm,h2⟩⟩
   ·cases h2
 have hmk:∀ (l:Nat) (o2:Ob),l<N→s.st[l]?=some o2→∃ o3,(Az N l0 i R row' ob s.st)[l]?=some o3∧o3.live=o2.live∧o3.sz=o2.sz∧o3.ty=o2.ty∧o3.xs.length=o2.xs.length∧(o2.xs = []→o3.xs = []):=by
  intro l o2 hlt h2
  unfold Az
  rw[di]
  by_cases e:l0=l
  ·subst e
   rw[hl] at h2
   cases h2
   refine⟨⟨ob.ty,ob.sz,R.set i row',ob.wr,ob.live⟩,by simp only[hlN,aW],rfl,rfl,rfl,by simp[hxs],fun he=>?_⟩
   rw[hxs] at he
   have:R.length=0:=by simpa using congrArg List.length he
   omega
  ·exact⟨o2,by simp only[e,aI]; rw[bu,aX hlt]; exact h2,rfl,rfl,rfl,rfl,fun h=>h⟩
 have hr:∀ (l:Nat) (u:Value),l<N→BD w s.st β l u→BD w (Az N l0 i R row' ob s.st) β l u:=by
  intro l u hlt hu
  unfold BD at hu ⊢
  cases hq:s.st[l]? with
  | none=>simp[hq] at hu
  | some o2 =>
   obtain⟨o3,p1,p2,p3,p4,p5,p6⟩:=hmk l o2 hlt hq
   simp only[hq] at hu
   simp only[p1]
   refine⟨hu.1,fun hlv=>?_⟩
   have h2:=hu.2 (by rw[← p2]; exact hlv)
   cases hβ:β l with
   | none=>simp only[hβ] at h2 ⊢; exact⟨h2.1,p6 h2.2⟩
   | some b=>simp only[hβ] at h2 ⊢; simpa only[p3,p4,p5] using h2
 have hC:∀ (c:Cl) (u:Value),FQ N c=true→RdC w St s.st β c u→RdC w St (Az N l0 i R row' ob s.st) β c u:=by
  intro c u hc hu
  cases c with
  | ref l=>exact hr l u (by simpa [FQ] using hc) hu
  | v x=>exact hu
  | sl x=>exact hu
  | ow ty sz x=>simp[RdC,RdD] at hu
 have hBB:∀ (c:Cl) (u:Value),FQ N c=true→RdB w St s.st β c u→RdB w St (Az N l0 i R row' ob s.st) β c u:=by
  intro c u hc hu
  cases c with
  | ow ty sz x=>exact hu
  | v x=>exact hC (.v x) u hc hu
  | sl x=>exact hC (.sl x) u hc hu
  | ref l=>exact hC (.ref l) u hc hu
 have hA:=jh (w:=w) (St:=St) (st:=s.st) (st':=Az N l0 i R row' ob s.st) (β:=β) (β':=β) N hC (fun l i off u hlt hu=>by
  simp only[AVR] at hu ⊢
  cases hq:s.st[l]? with
  | none=>simp[hq] at hu
  | some o2 =>
   obtain⟨o3,p1,p2,p3,_⟩:=hmk l o2 hlt hq
   simp only[hq] at hu
   simp only[p1,p2,p3]
   exact hu)
 have hnr:∀ (l:Nat) (o2:Ob),(Az N l0 i R row' ob s.st)[l]?=some o2→∀ (k:Nat) (c:Cl),o2.xs.flatten[k]?=some c→FQ N c=true:=by
  intro l o2 h2 k c hk
  have hno:=aG.1 hst o2 (aZ h2)
  obtain⟨x,hx,hcx⟩:=aa5.1 (aZ hk)
  simp only[Aw,zH] at hno
  rcases hno with hno | hno
  ·have:=aG.1 (aG.1 hno x hx) c hcx
   cases c<;>simp_all [AY,FQ]
  ·exact aG.1 (aG.1 hno x hx) c hcx
 have hrow:(R.set i row)[i]?=some row:=by rw[di]; simp[hi]
 have hrow':(R.set i row')[i]?=some row':=by rw[di]; simp[hi]
 have hβcases:∀ b,β l0=some b→∃ (cs:Array Value),w.heap[b]?=some (.cells cs ob.ty (0,0))∧row.length=ob.sz∧row'.length=ob.sz∧(∀ x∈R.set i row',x.length=ob.sz) ∧
   ∃ (used:List Nat) (Φ:Nat→Nat→Prop),(∀ l∈used,l=l0∨N≤l)∧(∀ (j:Nat) (c:Cl),row'[j]?=some c→∃ y,cs[i*ob.sz+j]?=some y∧RdO w St c y (Φ j))∧(∀ k x,Φ k x→∃ l,l≠l0∧l∈used∧Fp s.st β φ l x∧∀ o2,s.st[l]?=some o2→o2.wr=true) ∧
    (∀ k k' x,Φ k x→Φ k' x→k=k')∧∀ (k:Nat) (c:Cl),(R.set i row').flatten[k]?=some c→(∃ j,j<ob.sz∧k=i*ob.sz+j∧row'[j]?=some c)∨((∀ j,j<ob.sz→k≠i*ob.sz+j)∧ob.xs.flatten[k]?=some c):=by
  intro b hb
  obtain⟨_,_,cs,g1,g2,g3⟩:=h.obs l0 ob b hl hlive hb
  have hrl:row.length=ob.sz:=g2 row (by rw[hxs]; exact aZ hrow)
  have hcr:∀ (j:Nat) (c:Cl),row[j]?=some c→∃ y,cs[i*ob.sz+j]?=some y∧RdB w St s.st β c y:=fun j c hj=>g3 _ c (GX g2 i j row c (by rw[hxs]; exact hrow) hj)
  have hvs:∃ vs:List Value,vs.length=row.length∧∀ (j:Nat),j<row.length→vs[j]?=cs[i*ob.sz+j]?:=by
   refine⟨(List.range row.length).map fun j=>(cs[i*ob.sz+j]?).getD Go.undef,by simp,fun j hj=>?_⟩
   obtain⟨y,hy,_⟩:=hcr j _ (aA hj)
   simp[hj,hy]
  obtain⟨vs,hv1,hv2⟩:=hvs
  have hnow:∀ (j:Nat) (c:Cl),row[j]?=some c→Fb c=false:=by
   have gen:∀ (xs ys:List Cl) (us:List Nat) (K:List Nat→Prop),BX s.st xs ys us K→∀ (j:Nat) (c:Cl),xs[j]?=some c→Fb c=false:=by
    intro xs
    induction xs with
    | nil=>intro ys us K _ j c hj; simp at hj
    | cons x xs ih =>
     intro ys us K ho j c hj
     cases ys with
     | nil=>simp[BX] at ho
     | cons y ys =>
      have pl:x=y∧AY y=true∧BX s.st xs ys us K→Fb c=false:=by
       rintro⟨rfl,hp,hrest⟩
       cases j with
       | zero=>simp only[aB,ah] at hj; subst hj; exact Ls hp
       | succ j=>exact ih ys us K hrest j c (by simpa using hj)
      cases y with
      | v z=>exact pl (by simpa only[BX] using ho)
      | sl z=>exact pl (by simpa only[BX] using ho)
      | ref z=>exact pl (by simpa only[BX] using ho)
      | ow ty sz zs =>
       simp only[BX] at ho
       split at ho
       ·rename_i l
        split at ho
        ·cases j with
         | zero=>simp only[aB,ah] at hj; subst hj; rfl
         | succ j=>exact ih ys _ K ho.2.2.2.2.2.2 j c (by simpa using hj)
        ·exact ho.elim
       ·cases j with
        | zero=>simp only[aB,ah] at hj; subst hj; rfl
        | succ j=>exact ih ys us K ho.2 j c (by simpa using hj)
       ·exact ho.elim
   exact gen row row' [l0] _ ho
  obtain⟨used,Φ,r1,r2,r3,r4,r5,r6⟩:=ji h hφ row row' vs [l0] _ hv1 (fun j c hj=>by
   obtain⟨y,hy,hr⟩:=hcr j c hj
   exact⟨y,by rw[hv2 j (ay.1 hj).1]; exact hy,hr.toC (hnow j c hj)⟩) ho
  have hset:∀ x∈R.set i row',x.length=ob.sz:=fun x hx=>by
   rcases aaF hx with h' | h'
   ·obtain⟨m,hm,rfl⟩:=aaW.1 h'
    by_cases e:m=i
    ·subst e
     have:(R.set m row')[m]?=some row':=hrow'
     obtain⟨m2,hm2,he2⟩:=aaW.1 hx
     by_cases e2:m2=m
     ·subst e2
      rw[List.getElem_set] at he2
      simp at he2
      rw[← he2,r3,hrl]
     ·rw[List.getElem_set] at he2
      have e3:¬ m=m2:=fun h=>e2 h.symm
      simp only[e3,aI] at he2
      rw[← he2]
      refine g2 _ ?_
      rw[hxs]
      refine aaW.2 ⟨m2,by simpa using hm2, ?_⟩
      rw[List.getElem_set]
      simp[e3]
    ·refine g2 _ ?_
     rw[hxs]
     refine aaW.2 ⟨m,by simpa using hm, ?_⟩
     rw[List.getElem_set]
     have e3:¬ i=m:=fun h=>e h.symm
     simp[e3]
   ·rw[h',r3,hrl]
  refine⟨cs,g1,hrl,by rw[r3,hrl],hset,used,Φ,r1,fun j c hj=>?_,fun k x hx=>?_,r6,fun k c hk=>?_⟩
  ·obtain⟨y,hy,hr⟩:=r4 j c hj
   have hjl:j<row.length:=by rw[← r3]; exact(ay.1 hj).1
   exact⟨y,by rw[← hv2 j hjl]; exact hy,hr⟩
  ·obtain⟨l,q1,q2,q3,q4⟩:=r5 k x hx
   exact⟨l,fun e=>q1 (by simp[e]),q2,q3,q4⟩
  ·obtain⟨i',j,x,q1,q2,q3,q4⟩:=pM hset hk
   by_cases e:i'=i
   ·subst e
    rw[hrow'] at q1
    cases q1
    exact .inl ⟨j,q4,q3,q2⟩
   ·refine .inr ⟨fun j' hj' e2=>e (AFB q4 hj' (q3▸e2)).1, ?_⟩
    subst q3
    refine GX g2 i' j x c ?_ q2
    rw[hxs,di]
    rw[di] at q1
    have e3:¬ i=i':=fun h=>e h.symm
    simp only[e3,aI] at q1 ⊢
    exact q1
 exact {
  defers:=h.defers
  size:=h.size
  env:=fun k=>by
   simp only[pF]
   split
   ·rename_i hk; exact hA _ _ (aG.1 henv k hk) (h.env k)
   ·simp only[AVR]
  below:=h.below,st0:=h.st0,stOld:=h.stOld,stIn:=h.stIn
  obs:=fun l o2 b h2 hlv hβ=>by
   obtain⟨hlt,⟨rfl,rfl⟩ | ⟨hne,h3⟩⟩:=hget l o2 h2
   ·obtain⟨q1,q2,_⟩:=h.obs l ob b hl hlive hβ
    obtain⟨cs,g1,g2,g3,g4,used,Φ,r1,r2,r3,r4,r5⟩:=hβcases b hβ
    refine⟨q1,q2,cs,g1,g4,fun k c hk=>?_⟩
    rcases r5 k c hk with ⟨j,hj,rfl,hc⟩ | ⟨_,hc⟩
    ·obtain⟨y,hy,hr⟩:=r2 j c hc
     exact⟨y,hy,hr.toB⟩
    ·obtain⟨_,_,cs',p1,p2,p3⟩:=h.obs l ob b hl hlive hβ
     rw[g1] at p1
     cases p1
     obtain⟨u,hu,hr⟩:=p3 k c hc
     exact⟨u,hu,hBB c u (hnr l _ h2 k c hk) hr⟩
   ·obtain⟨q1,q2,cs,g1,g2,g3⟩:=h.obs l o2 b h3 hlv hβ
    refine⟨q1,q2,cs,g1,g2,fun k c hk=>?_⟩
    obtain⟨u,hu,hr⟩:=g3 k c hk
    exact⟨u,hu,hBB c u (hnr l o2 h2 k c hk) hr⟩
  nil:=fun l o2 h2 hlv hβ=>by
   obtain⟨hlt,⟨rfl,rfl⟩ | ⟨hne,h3⟩⟩:=hget l o2 h2
   ·have:=h.nil l ob hl hlive hβ
    rw[hxs] at this
    have:R.length=0:=by simpa using congrArg List.length this
    omega
   ·exact h.nil l o2 h3 hlv hβ
  inj:=fun l l' o1 o2 b h1 h2 h3 h4 h5 h6=>by
   have key:∀ (l:Nat) (o1:Ob),(Az N l0 i R row' ob s.st)[l]?=some o1→o1.live=true→∃ o,s.st[l]?=some o∧o.live=true:=by
    intro l o1 h1 h3
    obtain⟨_,⟨rfl,rfl⟩ | ⟨_,q⟩⟩:=hget l o1 h1
    ·exact⟨ob,hl,hlive⟩
    ·exact⟨o1,q,h3⟩
   obtain⟨p1,q1,r1⟩:=key l o1 h1 h3
   obtain⟨p2,q2,r2⟩:=key l' o2 h2 h4
   exact h.inj l l' p1 p2 b q1 q2 r1 r2 h5 h6
  sep:=fun l o2 b o h2 hlv hβ hbo=>by
   obtain⟨hlt,⟨rfl,rfl⟩ | ⟨hne,h3⟩⟩:=hget l o2 h2
   ·have:=h.sep l ob b o hl hlive hβ hbo
    rw[hwr] at this
    cases this.1
   ·exact h.sep l o2 b o h3 hlv hβ hbo
  own:=by
   cases hβ0:β l0 with
   | none =>
    refine h.own.move id (fun x hx=>⟨⟨hx.1,hx.2.1,hx.2.2.1,hx.2.2.2.1,fun l o2 h2 hlv=>?_⟩,rfl⟩) (fun _ _ h=>h) (fun _ _ _=>rfl) (fun l o2 b k c h2 hlv hβ hk hc=>?_) (fun _ _ _ _ _ _ _ _ e=>e)
    ·obtain⟨_,⟨rfl,rfl⟩ | ⟨_,q⟩⟩:=hget l o2 h2
     ·rw[hβ0]; simp
     ·exact hx.2.2.2.2 l o2 q hlv
    ·obtain⟨_,⟨rfl,rfl⟩ | ⟨_,q⟩⟩:=hget l o2 h2
     ·rw[hβ0] at hβ; cases hβ
     ·exact⟨o2,b,q,hlv,hβ,hk,rfl⟩
   | some b0 =>
    obtain⟨cs,g1,g2,g3,g4,used,Φ,r1,r2,r3,r4,r5⟩:=hβcases b0 hβ0
    have hΦN:∀ k x,Φ k x→∃ l,N≤l∧Fp s.st β φ l x∧∀ o2,s.st[l]?=some o2→o2.wr=true:=fun k x hx=>by
     obtain⟨l,q1,q2,q3,q4⟩:=r3 k x hx
     rcases r1 l q2 with e | e
     ·exact absurd e q1
     ·exact⟨l,e,q3,q4⟩
    refine⟨fun l k x=>(l=l0∧∃ j,j<ob.sz∧k=i*ob.sz+j∧Φ j x)∨(l<N∧(l=l0→∀ j,j<ob.sz→k≠i*ob.sz+j)∧φ l k x), ?_, ?_, ?_⟩
    ·intro l o2 b k c h2 hlv hβ hk hc
     obtain⟨hlt,⟨rfl,rfl⟩ | ⟨hne,h3⟩⟩:=hget l o2 h2
     ·rw[hβ0] at hβ
      cases hβ
      rcases r5 k c hk with ⟨j,hj,rfl,hcj⟩ | ⟨hnj,hck⟩
      ·obtain⟨y,hy,hr⟩:=r2 j c hcj
       exact⟨y,by simp[World.cell?,g1,hy],RdO.mono (fun _ _ h=>h) (fun _ _ _=>rfl) c y _ _ (fun x hx=>.inl ⟨rfl,j,hj,rfl,hx⟩) (fun _ _=>rfl) hr⟩
      ·obtain⟨u,hu,hr⟩:=hφ.1 l ob b0 k c hl hlive hβ0 hck hc
       exact⟨u,hu,RdO.mono (fun _ _ h=>h) (fun _ _ _=>rfl) c u _ _ (fun x hx=>.inr ⟨hlt,fun _=>hnj,hx⟩) (fun _ _=>rfl) hr⟩
     ·obtain⟨u,hu,hr⟩:=hφ.1 l o2 b k c h3 hlv hβ hk hc
      exact⟨u,hu,RdO.mono (fun _ _ h=>h) (fun _ _ _=>rfl) c u _ _ (fun x hx=>.inr ⟨hlt,fun e=>absurd e hne,hx⟩) (fun _ _=>rfl) hr⟩
    ·rintro l k x (⟨rfl,j,hj,rfl,hx⟩ | ⟨hlt,hnj,hx⟩)
     ·obtain⟨l2,q1,q2,q3⟩:=hΦN j x hx
      obtain⟨t1,t2,t3⟩:=TU h hφ q2 q3
      obtain⟨o3,p1,p2,_⟩:=hmk l ob hl0 hl
      refine⟨⟨o3,b0,p1,by rw[p2]; exact hlive,hβ0⟩,t1,fun h=>h,t2,t3,fun l' o2 h2 hlv hb=>?_⟩
      obtain⟨hlt',hcase⟩:=hget l' o2 h2
      have:Fp s.st β φ l' x:=by
       rcases hcase with ⟨rfl,rfl⟩ | ⟨_,q⟩
       ·exact⟨ob,hl,hlive,.inl hb⟩
       ·exact⟨o2,q,hlv,.inl hb⟩
      have:=Hy h hφ q2 this
      omega
     ·obtain⟨⟨o2,b,p1,p2,p3⟩,q1,q2,q3,q4,q5⟩:=hφ.2.1 l k x hx
      obtain⟨o3,s1,s2,_⟩:=hmk l o2 hlt p1
      refine⟨⟨o3,b,s1,by rw[s2]; exact p2,p3⟩,q1,q2,q3,q4,fun l' o4 h4 hlv=>?_⟩
      obtain⟨_,⟨rfl,rfl⟩ | ⟨_,q⟩⟩:=hget l' o4 h4
      ·exact q5 l' ob hl hlive
      ·exact q5 l' o4 q hlv
    ·rintro l l' k k' x (⟨rfl,j,hj,rfl,hx⟩ | ⟨hlt,hnj,hx⟩) (⟨rfl,j',hj',rfl,hx'⟩ | ⟨hlt',hnj',hx'⟩)
     ·rw[r4 j j' x hx hx']; exact⟨rfl,rfl⟩
     ·obtain⟨l2,q1,q2,_⟩:=hΦN j x hx
      obtain⟨⟨o2,b,p1,p2,p3⟩,_⟩:=hφ.2.1 l' k' x hx'
      have:=Hy h hφ q2 ⟨o2,p1,p2,.inr ⟨k',hx'⟩⟩
      omega
     ·obtain⟨l2,q1,q2,_⟩:=hΦN j' x hx'
      obtain⟨⟨o2,b,p1,p2,p3⟩,_⟩:=hφ.2.1 l k x hx
      have:=Hy h hφ q2 ⟨o2,p1,p2,.inr ⟨k,hx⟩⟩
      omega
     ·exact hφ.2.2 l l' k k' x hx hx' }
end absorb
def zi (N l0:Nat) (keys:List Nat) (s t:MS):Prop:=∃ (i:Nat) (R:List (List Cl)) (row row':List Cl) (ob:Ob),(l0<N∧ES s.st l0=some ob∧ob.xs=R.set i row∧i<R.length∧ob.wr=true)∧BX s.st row row' [l0] (fun used=>∀ l∈used,l=l0∨N≤l) ∧
 ((keys.all fun k=>Hg N (Cm s.env k))=true∧(Az N l0 i R row' ob s.st).all (Aw N)=true)∧(⟨s.n,keys.map fun k=>(k,Cm s.env k),Az N l0 i R row' ob s.st⟩:MS)=t
theorem LoopA.mk {s:MS} {body:MS→(MS→Prop)→Prop} (N l0:Nat) (keys:List Nat) {A:Type} (f:A→MS) (p:A→Prop) (μ:A→Nat) (x0:A) (h0:N9 N keys s∧trim N keys s=f x0∧p x0)
  (h:∀ x,p x→body (f x) fun s'=>∃ y,True∧((N9 N keys s'∧trim N keys s'=f y)∨zi N l0 keys s' (f y))∧p y∧μ y<μ x):LoopK s body:=
 ⟨fun _=>True,fun s t=>(N9 N keys s∧trim N keys s=t)∨zi N l0 keys s t,A,f,p,μ,fun s t _ h=>by
  rcases h with ⟨h1,h2⟩ | ⟨i,R,row,row',ob,⟨g1,g2,g3,g4,g5⟩,g6,⟨g7,g8⟩,g9⟩
  ·exact⟨by rw[← h2]; rfl,fun w0 St0 St β a w hc=>⟨St,β,by rw[← h2]; exact hc.trim h1⟩⟩
  ·exact⟨by rw[← g9],fun w0 St0 St β a w hc=>⟨St,β,by rw[← g9]; exact hc.absTrim g1 g2 g3 g4 g5 g6 g7 g8⟩⟩,⟨x0,trivial,.inl ⟨h0.1,h0.2.1⟩,h0.2.2⟩,h⟩
theorem LoopK.mk {s:MS} {body:MS→(MS→Prop)→Prop} (N:Nat) (keys:List Nat) {A:Type} (f:A→MS) (p:A→Prop) (μ:A→Nat) (x0:A) (h0:N9 N keys s∧trim N keys s=f x0∧p x0)
  (h:∀ x,p x→body (f x) fun s'=>∃ y,N9 N keys s'∧trim N keys s'=f y∧p y∧μ y<μ x):LoopK s body:=
 ⟨N9 N keys,fun s t=>trim N keys s=t,A,f,p,μ,fun s t h1 h2=>⟨by rw[← h2]; rfl,fun w0 St0 St β a w h=>⟨St,β,by rw[← h2]; exact h.trim h1⟩⟩,⟨x0,h0⟩,h⟩
theorem LoopR.mk {s:MS} {body:MS→(MS→Prop)→Prop} (keys:List Nat) {A:Type} (f:A→MS) (p:A→Prop) (μ:A→Nat) (x0:A) (sel0:List (Nat×Bool)) (h0:Qx sel0 keys s∧rel sel0 keys s=f x0) (hp:p x0)
  (h:∀ x,p x→body (f x) fun s'=>∃ y,True∧(∃ sel,Qx sel keys s'∧rel sel keys s'=f y)∧p y∧μ y<μ x):LoopK s body:=
 ⟨fun _=>True,fun s t=>∃ sel,Qx sel keys s∧rel sel keys s=t,A,f,p,μ,fun s t _ ⟨sel,h1,h2⟩=>⟨by rw[← h2]; rfl,fun w0 St0 St β a w h=>⟨St,Tm sel β,by rw[← h2]; exact h.rel h1⟩⟩,⟨x0,trivial,⟨sel0,h0⟩,hp⟩,h⟩
theorem LoopB.mk {s:MS} {body:MS→(MS→Prop)→Prop} (N l0:Nat) (keys:List Nat) {A:Type} (f:A→MS) (p:A→Prop) (μ:A→Nat) (x0:A) (sel0:List (Nat×Bool)) (h0:Qx sel0 keys s∧rel sel0 keys s=f x0) (hp:p x0)
  (h:∀ x,p x→body (f x) fun s'=>∃ y,True∧(∃ sel,Qx sel keys s'∧(rel sel keys s'=f y∨zi N l0 keys (rel sel keys s') (f y)))∧p y∧μ y<μ x):LoopK s body:=
 ⟨fun _=>True,fun s t=>∃ sel,Qx sel keys s∧(rel sel keys s=t∨zi N l0 keys (rel sel keys s) t),A,f,p,μ,fun s t _ ⟨sel,h1,h2⟩=>by
  rcases h2 with h2 | ⟨i,R,row,row',ob,⟨g1,g2,g3,g4,g5⟩,g6,⟨g7,g8⟩,g9⟩
  ·exact⟨by rw[← h2]; rfl,fun w0 St0 St β a w h=>⟨St,Tm sel β,by rw[← h2]; exact h.rel h1⟩⟩
  ·exact⟨by rw[← g9]; rfl,fun w0 St0 St β a w hc=>⟨St,Tm sel β,by rw[← g9]; exact(hc.rel h1).absTrim g1 g2 g3 g4 g5 g6 g7 g8⟩⟩,⟨x0,trivial,⟨sel0,h0.1,.inl h0.2⟩,hp⟩,h⟩
theorem AEE {sel:List (Nat×Bool)} {x:List Cl} (h:x.all NG=true):x.map (Ql sel)=x:=by
 conv=>rhs; rw[← List.map_id x]
 refine aaM fun c hc=>?_
 have:=aG.1 h c hc
 cases c<;>simp_all [NG,Ql]
theorem AEF {sel:List (Nat×Bool)} {x:List Cl} (h:x.all NG=true):x.all (xP sel)=true:=aG.2 fun c hc=>by
 have:=aG.1 h c hc
 cases c<;>simp_all [NG,xP]
theorem Iw {α:Type} {f:α→List Cl} (hf:∀ x,(f x).all NG=true) (sel:List (Nat×Bool)) (out:List α) (r row':List Cl) :
  (out.map f ++ [r]).map (fun x=>x.map (Ql sel))=(out.map f ++ [row']).set out.length (r.map (Ql sel)):=by
 rw[Uz,aa8 _ _ (by simp)]
 congr 1
 ·conv=>rhs; rw[← List.map_id (out.map f)]
  refine aaM fun x hx=>?_
  obtain⟨y,_,rfl⟩:=RX.1 hx
  exact AEE (hf y)
 ·simp
theorem Bc {α:Type} {f:α→List Cl} (out:List α) (x:α):(out.map f ++ [f x]).set out.length (f x)=(out ++ [x]).map f:=by
 rw[aa8 _ _ (by simp)]
 simp
theorem Iy {α:Type} {f:α→List Cl} (hf:∀ x,(f x).all NG=true) (sel:List (Nat×Bool)) (out:List α) {r:List Cl} (hr:r.all (xP sel)=true):((out.map f ++ [r]).all fun x=>x.all (xP sel))=true:=by
 rw[aaY]
 simp only[bK,Oo,aU,hr]
 refine aG.2 fun x hx=>?_
 obtain⟨y,_,rfl⟩:=RX.1 hx
 exact AEF (hf y)
theorem AO {α:Type} {f:α→List Cl} {l:List α} (h:∀ x,CQ (f x)=true):Gj (l.map f)=true:=by
 unfold Gj
 rw[List.all_map]
 exact aG.2 fun x _=>h x
end Go.Vm
