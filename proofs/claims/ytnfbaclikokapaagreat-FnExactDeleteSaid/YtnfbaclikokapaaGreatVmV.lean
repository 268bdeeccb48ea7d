/- A part. -/
import Derived.Test.YtnfbaclikokapaaGreatVmUb
set_option linter.unusedSimpArgs false
set_option linter.unusedVariables false
namespace Go.Vm
open Go.RowKit
def AC3 (P:Program) (y:Code) (Q:Ex→MS→Prop):Ex→MS→Prop:=AGO (vp P y) Q
def cndC (P:Program) (x y:Code) (s:MS) (Q:Ex→MS→Prop) (b:Bool):Prop:=cndM (vp P x) (vp P y) s Q b
def AGV (P:Program) (x:Code) (Q:Ex→MS→Prop) (s:MS) (K:MS→Prop):Prop:=AGP (vp P x) Q s K
section
variable {P:Program} {s:MS} {Q:Ex→MS→Prop} {x y:Code} {K:MS→Prop}
@[go_sem] theorem AHQ {σ:List Nat} {e1 e2:Nat} {l:List Oper}:Gt σ e1 e2 l=jR σ e1 e2 l σ:=rfl
@[go_sem] theorem AGW {σ:List Nat} {e1 e2:Nat} {l:List Oper}:jR σ e1 e2 l [] = []:=rfl
@[go_sem] theorem AFX {σ:List Nat} {e1 e2 i:Nat} {l:List Oper} {is:List Nat}:jR σ e1 e2 l (i::is)=wO σ e1 e2 i l[i]? (jR σ e1 e2 l is):=rfl
@[go_sem] theorem AEo {σ:List Nat} {e1 e2 i:Nat} {d:Option Nat} {o:Op} {ty:TypeId} {ps:String} {af:Array Edge} {g:Option (Nat×Bool)} {r:List Oper} :
  wO σ e1 e2 i (some ⟨d,o,ty,ps,af,g⟩) r=⟨d,o,ty,ps,(oO σ (ABD e1 e2 i af.toList)).toArray,rnG σ g⟩::r:=rfl
@[go_sem] theorem AGX {σ:List Nat}:oO σ [] = []:=rfl
@[go_sem] theorem AFY {σ:List Nat} {i:Nat} {g:Ground} {es:List Edge}:oO σ (⟨i,g⟩::es)=⟨KD σ i,g⟩::oO σ es:=rfl
@[go_sem] theorem AGY {σ:List Nat}:rnG σ none=none:=rfl
@[go_sem] theorem AGZ {σ:List Nat} {j:Nat} {b:Bool}:rnG σ (some (j,b))=some (KD σ j,b):=rfl
@[go_sem] theorem AGa {i:Nat}:KD [] i=0:=rfl
@[go_sem] theorem AFZ {x i:Nat} {xs:List Nat}:KD (x::xs) i=if x=i then 0 else KD xs i+1:=by
 simp only[KD]
 cases h:Nat.beq x i with
 | true=>rw[bz (Nat.eq_of_beq_eq_true h)]
 | false=>rw[aV (abw h)]
@[go_sem] theorem AHR {e1 e2 i:Nat} {l:List Edge}:ABD e1 e2 i l=if i=e2 then⟨e1,.data⟩::l else l:=by
 simp only[ABD]
 cases h:Nat.beq i e2 with
 | true=>rw[bz (Nat.eq_of_beq_eq_true h)]
 | false=>rw[aV (abw h)]
@[go_sem] theorem AHS:vp P .skip s Q=Q .normal s:=rfl
@[go_sem] theorem AH1 {id:Nat} {ops:Array Oper}:vp P (.region id ops false) s Q=vpR P ops (Q .normal) s:=rfl
@[go_sem] theorem AHT {id:Nat} {ops:Array Oper}:vp P (.region id ops true) s Q=DrawK P ops s (Q .normal):=rfl
@[go_sem] theorem AH2:vp P (.seq x y) s Q=vp P x s (AC3 P y Q):=rfl
@[go_sem] theorem AHU {c:Operand}:vp P (.cond c x y) s Q=wM (EC s c) (cndC P x y s Q):=rfl
@[go_sem] theorem AGb {id:Nat}:vp P (.block id x) s Q=vp P x s (y9 id Q):=rfl
@[go_sem] theorem AHV:vp P (.loop x) s Q=LoopK s (AGV P x Q):=rfl
@[go_sem] theorem AHW {id:Nat}:vp P (.exit id) s Q=Q (.exit id) s:=rfl
@[go_sem] theorem AGc:vp P (.scope x) s Q=vp P x s Q:=rfl
@[go_sem] theorem AH3:vp P .ret s Q=Q .ret s:=rfl
@[go_sem] theorem ADn:AC3 P y Q .normal s=vp P y s Q:=rfl
@[go_sem] theorem AFa {i:Nat}:AC3 P y Q (.exit i) s=Q (.exit i) s:=rfl
@[go_sem] theorem AGd:AC3 P y Q .ret s=Q .ret s:=rfl
@[go_sem] theorem AFb:cndC P x y s Q true=vp P x s Q:=y_
@[go_sem] theorem AEp:cndC P x y s Q false=vp P y s Q:=t_
theorem cndC.mk {b:Bool} (h1:b=true→vp P x s Q) (h2:b=false→vp P y s Q):cndC P x y s Q b:=cndM.mk h1 h2
@[go_sem] theorem ADo {id:Nat}:y9 id Q .normal s=Q .normal s:=rfl
@[go_sem] theorem AFc {id i:Nat}:y9 id Q (.exit i) s=if i=id then Q .normal s else Q (.exit i) s:=rfl
@[go_sem] theorem AGe {id:Nat}:y9 id Q .ret s=Q .ret s:=rfl
@[go_sem] theorem AHX:AGV P x Q s K=vp P x s (ABO K Q):=rfl
@[go_sem] theorem ADp:ABO K Q .normal s=K s:=rfl
@[go_sem] theorem AFd {i:Nat}:ABO K Q (.exit i) s=Q (.exit i) s:=rfl
@[go_sem] theorem AGf:ABO K Q .ret s=Q .ret s:=rfl
@[go_sem] theorem AHY {ops:Array Oper}:vpO P ops K [] s=K s:=rfl
@[go_sem] theorem AGg {ops:Array Oper} {o:Oper} {rest:List Oper}:vpO P ops K (o::rest) s=Q_ (jP ops s.env o.guard) (gO P o (vpO P ops K rest) s):=rfl
@[go_sem] theorem AHZ {ops:Array Oper}:vpD P ops K [] s=K s:=rfl
@[go_sem] theorem AGh {ops:Array Oper} {o:Oper} {rest:List Oper}:vpD P ops K (o::rest) s=Q_ (jP ops s.env o.guard) (gD P o (vpD P ops K rest) s):=rfl
@[go_sem] theorem AHa {d:Option Nat} {v:AV} {st':List Ob}:ABF s d K v st'=K (MS.put ⟨s.n,s.env,st'⟩ d v):=rfl
@[go_sem] theorem AGi {d:Option Nat} {v:AV}:oI s d K v=K (s.put d v):=rfl
@[go_sem] theorem AHb {d:Option Nat} {st1:List Ob} {rs:List Res}:ABG s d K st1 rs=K (MS.put ⟨s.n,s.env,(Ii st1 rs).2⟩ d (retA (Ii st1 rs).1)):=rfl
@[go_sem] theorem AFe {f:FuncId} {d:Option Nat} {args:List AV} {st1:List Ob}:tu P f s d K args st1=CallK P f args (ABG s d K st1):=rfl
@[go_sem] theorem ADq {vars:List ResultVar} {rs:List Res}:AC2 P vars rs .normal s=Post P vars rs s:=rfl
theorem EndH.mk {vars:List ResultVar} {rs:List Res} {t:MS} (h:Head s t) (hp:Post P vars rs t):EndH P vars rs .ret s:=⟨t,h,hp⟩
@[go_sem] theorem AGj {vars:List ResultVar} {rs:List Res}:AC2 P vars rs .ret s=Post P vars rs s:=rfl
def ABX (x:Option (List AV)) (m:Nat) (KK:AV→MS→Prop) (t:MS):Prop:=match x with
 | some xs=>KK (retA xs) ⟨m,zD t.env,t.st⟩
 | none=>False
@[go_sem] theorem AEq {vars:List ResultVar} {m:Nat} {KK:AV→MS→Prop} {t:MS}:NH P vars m KK .ret t=ABX (KI P t vars) m KK t:=by unfold NH ABX; rfl
@[go_sem] theorem AB6 {vars:List ResultVar} {m:Nat} {KK:AV→MS→Prop} {t:MS}:NH P vars m KK .normal t=ABX (KI P t vars) m KK t:=by unfold NH ABX; rfl
@[go_sem] theorem AFf {xs:List AV} {m:Nat} {KK:AV→MS→Prop} {t:MS}:ABX (some xs) m KK t=KK (retA xs) ⟨m,zD t.env,t.st⟩:=rfl
@[go_sem] theorem AHc {d:Option Nat} {K:MS→Prop} {x:AV} {t:MS}:AGT d K x t=K (t.put d x):=rfl
@[go_sem] theorem AHd {st:List Ob} {env:List (Nat×AV)} {r x:AV} {t:MS}:AGU st env r x t=(t.st=st∧t.env=env∧x=r):=rfl
attribute [go_sem] jX shE zD wX
theorem CallK.mk {f:FuncId} {args:List AV} {K:List Res→Prop} {B:Prop} (rs:List Res) (h:Ctr P f args rs) (hk:Zl rs→K rs):Jy (CallK P f args K) B:=.inl ⟨rs,h,hk⟩
theorem BorK.mk {f:FuncId} {x:Option (List AV)} {K:List Res→Prop} {A B:Prop} {args:List AV} (rs:List Res) (hx:x=some args) (hc:rs.all Pi=true) (h:Ctr P f args rs) (hk:Zl rs→K rs):Jy A (Jy (BorK P f s x K) B):=.inr (.inl ⟨args,rs,hx,hc,h,hk⟩)
theorem MutK.mk {f:FuncId} {A B C:Prop} {args rest:List AV} {d:Option Nat} {zs cl:List Cl} {M:List Cl→List AV→Prop} (g:Bool) (h:MCtr P f g cl rest M) (hx:args=mkA g zs::rest) (ho:AU s.st zs cl [] (fun _=>True)) (h1:rest.all yj=true)
  (hg:g=true∨zs.length=1) (hk:∀ cl' rs,M cl' rs→(rs.all yh=true∧We cl cl')∧K (MS.put ⟨s.n,s.env,IJ s.st zs cl'⟩ d (retA rs))):Jy A (Jy B (Jy (MutK P f s args d K) C)):=.inr (.inr (.inl ⟨rest,g,zs,cl,M,hx,hg,ho,h1,h,hk⟩))
theorem PtrK.mk {f:FuncId} {A B C D:Prop} {args rest rest' rs:List AV} {d:Option Nat} {l:Nat} {ob:Ob} {zs cl cl':List Cl} {st1 st2:List Ob} (h:PCtr P f ob.ty cl rest' cl' rs) (hx:args = .lp l 0 0::rest) (hob:CO s.st l=some ob) (hwr:ob.wr=true) (hxs:ob.xs = [zs])
  (hf:fzL s.st zs=some (cl,st1)) (hfs:O6 st1 rest=some (rest',st2)) (hob2:CO st2 l=some ob) (hk:K (MS.put ⟨s.n,s.env,st2.set l ⟨ob.ty,ob.sz,[cl'],true,true⟩⟩ d (retA rs))):Jy A (Jy B (Jy C (Jy (PtrK P f s args d K) D))):=
 .inr (.inr (.inr (.inl ⟨l,rest,rest',ob,zs,cl,cl',st1,st2,rs,hx,hob,hwr,hxs,hf,hfs,hob2,h,hk⟩)))
theorem PtrM.mk {f:FuncId} {A B C D E:Prop} {as:MS→List AV} {d:Option Nat} (t:MS) {l:Nat} {rest rest' rs:List AV} {ob:Ob} {cl cl':List Cl} {st2:List Ob} (hh:Head s t) (h:QCtr P f ob.ty cl rest' cl' rs) (hx:as t = .lp l 0 0::rest) (hob:CO t.st l=some ob) (hwr:ob.wr=true) (hxs:ob.xs = [cl]) (hcl:cl.all oK=true)
  (hfs:O6 t.st rest=some (rest',st2)) (hob2:CO st2 l=some ob) (t':MS) (hh':Head (MS.put ⟨t.n,t.env,st2.set l ⟨ob.ty,ob.sz,[cl'],true,true⟩⟩ d (retA rs)) t') (hk:K t'):Jy A (Jy B (Jy C (Jy D (Jy (PtrM P f s as d K) E)))):=
 .inr (.inr (.inr (.inr (.inl ⟨t,l,rest,rest',ob,cl,cl',st2,rs,hh,hx,hob,hwr,hxs,hcl,hfs,hob2,h,t',hh',hk⟩))))
@[go_sem] theorem AHe {x:Option (Nat×Nat)} {ops:Array Oper} {i:Nat} {H:List (Nat×List Ob)} {pd:List PE}:vpE P x ops K [] i H pd s=K s:=rfl
@[go_sem] theorem AGk {x:Option (Nat×Nat)} {ops:Array Oper} {o:Oper} {rest:List Oper} {i:Nat} {H:List (Nat×List Ob)} {pd:List PE}:vpE P x ops K (o::rest) i H pd s=Q_ (jP ops s.env o.guard) (gE P x o s H pd i (vpE P x ops K rest (i+1))):=rfl
section
variable {x:Option (Nat×Nat)} {o:Oper} {H:List (Nat×List Ob)} {pd:List PE} {i:Nat} {V:List (Nat×List Ob)→List PE→MS→Prop}
@[go_sem] theorem AHf:gE P x o s H pd i V true=ABM P x o s H pd i V (Vx o.op):=JX
@[go_sem] theorem AEr:ABM P x o s H pd i V false=DrK P s o.op (rdP P o s H pd i V):=Jv
@[go_sem] theorem AFg:ABM P x o s H pd i V true=CondK (VA x i o H) (ABL P s o.op (ACz P o s H pd i V)) False:=JX
@[go_sem] theorem AHg {y:AV} {st':List Ob}:ACz P o s H pd i V y st'=(U_ P s.n o st' pd∧V ((i+1,st')::H) (Rx o pd) (MS.put ⟨s.n,s.env,st'⟩ o.dst y)):=rfl
@[go_sem] theorem AH4 {r:AV}:rdP P o s H pd i V r=(U9 P s.n s.env o r H H∧V H (⟨i,o.op,s.env,r⟩::pd) (s.put o.dst r)):=rfl
end
@[go_sem] theorem AHh {KK:AV→List Ob→Prop} {st1:List Ob} {rs:List Res}:ACy KK st1 rs=KK (retA (Ii st1 rs).1) (Ii st1 rs).2:=rfl
@[go_sem] theorem AFh {f:FuncId} {KK:AV→List Ob→Prop} {args:List AV} {st1:List Ob}:ABK P f KK args st1=CallE P f args (ACy KK st1):=rfl
theorem CallE.mk {f:FuncId} {args:List AV} {KK:List Res→Prop} {B:Prop} (rs:List Res) (h:Ctr P f args rs) (hk:KK rs):Jy (CallE P f args KK) B:=.inl ⟨rs,h,hk⟩
theorem BorE.mk {f:FuncId} {x:Option (List AV)} {KK:List Res→Prop} {A:Prop} {args:List AV} (rs:List Res) (hx:x=some args) (hc:rs.all Pi=true) (h:Ctr P f args rs) (hk:KK rs) {C:Prop}:Jy A (Jy (BorE P f x KK) C):=.inr (.inl ⟨args,rs,hx,hc,h,hk⟩)
theorem InlE.mk {f:FuncId} {st:List Ob} {args:List AV} {KK:AV→List Ob→Prop} {A B:Prop} (y:AV) (st':List Ob) (h:InlS P f st args y st') (hk:KK y st'):Jy A (Jy B (InlE P f st args KK)):=.inr (.inr ⟨y,st',h,hk⟩)
theorem DrK.call {o:Op} {c:Call} {f:FuncId} {K:AV→Prop} (ho:o = .call c) (hc:c.callee = .value (.func f)) {args:List AV} {rs:List Res} (hf:O6 s.st (c.args.toList.map (EC s))=some (args,s.st)) (h:Ctr P f args rs) (hk:K (retA (U5 rs))):DrK P s o K:=by
 subst ho
 refine⟨_, ?_,hk⟩
 simp only[Bj,hc]
 exact .inl ⟨args,rs,.inl hf,h,rfl⟩
end
theorem DrK.op {P:Program} {s:MS} {o:Op} {K:AV→Prop} {r:AV} (h:Bj P s o r) (hk:K r):DrK P s o K:=⟨r,h,hk⟩
attribute [go_sem] II jP ACq ABA ACt ABH Pn Uj same Hr EC U0 BZ MS.put AAx X8 OO nY Ju Rw Ro uG tJ ABc tK AGz List.any_cons List.any_nil dP He TU cellsA CO NF ADj Q7 fzC nS fzL fzA O6 Vw O5 Ae IV
@[go_sem] theorem AEs {n:Nat}:Region.binds .any ⟨n,.data⟩=true:=rfl
@[go_sem] theorem ADr {n:Nat}:Region.binds .any ⟨n,.chain⟩=true:=rfl
@[go_sem] theorem ADs {n:Nat}:Region.binds .any ⟨n,.guard⟩=true:=rfl
@[go_sem] theorem ADt {n:Nat}:Region.binds .any ⟨n,.phase⟩=true:=rfl
@[go_sem] theorem AGl {b:Bool}:CondK b True True=True:=by cases b<;>simp[CondK]
@[go_sem] theorem ADu {i:Nat} {o:Oper} {H:List (Nat×List Ob)}:VA none i o H=chainB o H:=rfl
@[go_sem] theorem ADv {i j p:Nat} {o:Oper} {H:List (Nat×List Ob)}:VA (some (j,p)) i o H=if i=j then jT p H else chainB o H:=rfl
attribute [go_sem] BO U8 U9 U_ Rx chainB jT Vx ABL Bj List.any_toArray List.any_cons List.any_nil abr bQ JX Jv ah and_self
attribute [go_sem] ACu tV tX tY tZ
attribute [go_sem] jM Ii U5 retA KI Post Pv Nj AU F7 Ic wZ IX unpin jI yl ACl Q8 IJ Ic PY Dc Gs ACZ AEb AEc aUn
attribute [go_sem] abu bP aI aK bU X5 aB aaX List.getElem?_nil aa4 List.drop_succ_cons abt abj XA dh List.set_cons_zero List.set_cons_succ List.modify_cons List.toList_toArray bF List.drop_nil List.take_nil
attribute [go_sem] Zj abB aN and_self true_and yY eq_self bD aT decide_true abH aC ne_eq not_false_eq_true not_true_eq_false bY
attribute [go_sem] aQ aO ai ag aS aH cO bQ Bool.or_true abr
@[go_sem] theorem AHi {x:Value}:JJ (.c (.v x))=true:=rfl
@[go_sem] theorem AGm {xs:List (List Cl)}:JJ (.c (.sl xs))=true:=rfl
@[go_sem] theorem AFi {l:Nat}:JJ (.c (.ref l))=true:=rfl
@[go_sem] theorem AFj:JJ (.agg [])=true:=rfl
@[go_sem] theorem AGn {x:Value} {r:List Cl}:JJ (.agg (.v x::r))=JJ (.agg r):=rfl
@[go_sem] theorem AFk {xs:List (List Cl)} {r:List Cl}:JJ (.agg (.sl xs::r))=JJ (.agg r):=rfl
@[go_sem] theorem AEt {l:Nat} {r:List Cl}:JJ (.agg (.ref l::r))=JJ (.agg r):=rfl
@[go_sem] theorem ADw {n:Nat}:Jj n []=true:=rfl
@[go_sem] theorem AC4 {n:Nat} {r:List Cl} {ys:List (List Cl)}:Jj n (r::ys)=(rowOk n r&&Jj n ys):=rfl
@[go_sem] theorem AGo {n:Nat} {r:List Cl}:rowOk n r=(r.length==n&&r.all fun c=>!E8 c):=rfl
@[go_sem] theorem AH5 {x:Value}:E8 (.v x)=false:=rfl
@[go_sem] theorem AHj {x:List (List Cl)}:E8 (.sl x)=false:=rfl
@[go_sem] theorem AGp {l:Nat}:E8 (.ref l)=false:=rfl
@[go_sem] theorem AGq {ty sz:Nat} {xs:List (List Cl)}:JJ (.c (.ow ty sz xs))=false:=rfl
@[go_sem] theorem AH6 {cl:List Cl}:mkA true cl = .agg cl:=rfl
@[go_sem] theorem AH7 {c:Cl} {r:List Cl}:mkA false (c::r) = .c c:=rfl
@[go_sem] theorem ADx {P:Program} {vars:List ResultVar} {b:Nat} {ty:TypeId} {cl':List Cl} {rs:List AV} {s:MS}:AEn P vars b ty cl' rs .normal s=wW P vars b ty cl' rs s:=rfl
@[go_sem] theorem AGr {P:Program} {vars:List ResultVar} {b:Nat} {ty:TypeId} {cl':List Cl} {rs:List AV} {s:MS}:AEn P vars b ty cl' rs .ret s=wW P vars b ty cl' rs s:=rfl
@[go_sem] theorem ADy {P:Program} {vars:List ResultVar} {g:Bool} {us:List Value} {M:List Cl→List AV→Prop} {s:MS}:AEm P vars g us M .normal s=wV P vars g us M s:=rfl
@[go_sem] theorem AGs {P:Program} {vars:List ResultVar} {g:Bool} {us:List Value} {M:List Cl→List AV→Prop} {s:MS}:AEm P vars g us M .ret s=wV P vars g us M s:=rfl
@[go_sem] theorem AH8:(true==true)=true:=rfl
@[go_sem] theorem AH9:(true==false)=false:=rfl
@[go_sem] theorem AH_:(false==true)=false:=rfl
@[go_sem] theorem AIA:(false==false)=true:=rfl
theorem ABY (b:Bool):(b==true)=b:=by cases b<;>rfl
theorem zF (b:Bool):(b==false) = !b:=by cases b<;>rfl
attribute [go_sem] ABY zF
@[go_sem] theorem AGt (k:IntKind) (n:Nat):TT (.c (.v (.int k (n:Int))))=some n:=by simp[TT]
@[go_sem] theorem AFl (k:IntKind):TT (.c (.v (.int k 0)))=some 0:=by simp[TT]
theorem wrap_i64 {n:Int} (h : -9223372036854775808≤n) (h2:n≤9223372036854775807):IntKind.i64.wrap n=n:=
 JW (by simp[Lit.wf,IntKind.min,IntKind.max,IntKind.signed,IntKind.bits]; omega)
theorem AA {α β:Type} (f:α→β) {l:List α} {k:Nat} (h:k<l.length):(l.map f)[k]?=some (f l[k]):=by simp[h]
theorem uC {c:Cl} (h:AO c=true):er c=c:=by cases c<;>simp_all [AO,er]
theorem Px:∀ {cs:List Cl},CB cs=true→J_ cs=cs
 | [],_=>rfl
 | c::cs,h=>by
  simp only[CB,bK,ak] at h
  rw[J_,uC h.1,Px (cs:=cs) h.2]
theorem Ho:∀ {xs:List (List Cl)},F5 xs=true→Pg xs=xs
 | [],_=>rfl
 | x::xs,h=>by
  simp only[F5,bK,ak] at h
  rw[Pg,Px h.1,Ho (xs:=xs) h.2]
theorem EW {xs:List (List Cl)} (h:F5 xs=true):Df xs=true:=
 aF.2 fun x hx=>aF.2 fun c hc=>by
  have:=aF.1 (aF.1 h x hx) c hc
  cases c<;>simp_all [AO,Nh]
theorem Qg {α:Type} {f:α→List Cl} {l:List α} (h:∀ x,(f x).all Nh=true):Df (l.map f)=true:=by
 unfold Df
 rw[List.all_map]
 exact aF.2 fun x _=>h x
theorem Ctr.val {P:Program} {f:FuncId} {args:List AV} {ty sz:Nat} {xs:List (List Cl)} {wr:Bool} (h:Ctr P f args [.own ty sz xs wr]) (hp:F5 xs=true):Ctr P f args [.val (.c (.sl xs))]:=by
 have:=h.frz
 simp only[XA,dh,jF,Ho hp] at this
 exact this
theorem Ctr.aggVal {P:Program} {f:FuncId} {args:List AV} {cl ys:List Cl} (h:Ctr P f args [.agg cl]) (he:J_ cl=ys):Ctr P f args [.val (.agg ys)]:=by
 subst he
 exact h.frz
theorem Py {α:Type} {f g:α→List Cl} (h:∀ x,J_ (f x)=g x) (l:List α):Pg (l.map f)=l.map g:=by
 rw[jE]
 exact aaM fun x _=>h x
theorem Vz {xs:List (List Cl)} {sz:Nat} (hl:∀ x∈xs,x.length=sz):∀ {k:Nat} {c:Cl},xs.flatten[k]?=some c→∃ (i j:Nat) (x:List Cl),xs[i]?=some x∧x[j]?=some c∧k=i*sz+j∧j<sz:=by
 induction xs with
 | nil=>intro k c h; simp at h
 | cons x xs ih =>
  intro k c h
  have hx:x.length=sz:=hl x (by simp)
  simp only[bT] at h
  rcases bI k x.length with h' | h'
  ·rw[aZ h'] at h
   exact⟨0,k,x,by simp,h,by omega,by omega⟩
  ·rw[aX h'] at h
   obtain⟨i,j,y,q1,q2,q3,q4⟩:=ih (fun y hy=>hl y (by simp[hy])) h
   exact⟨i+1,j,y,by simpa using q1,q2,by rw[iW]; omega,q4⟩
theorem ABZ {i i' j j' sz:Nat} (hj:j<sz) (hj':j'<sz) (h:i*sz+j=i'*sz+j'):i=i'∧j=j':=by
 have h1:(i*sz+j)/sz=i:=by rw[Nat.mul_comm,Nat.mul_add_div (by omega),Nat.div_eq_of_lt hj]; rfl
 have h2:(i'*sz+j')/sz=i':=by rw[Nat.mul_comm,Nat.mul_add_div (by omega),Nat.div_eq_of_lt hj']; rfl
 have:i=i':=by rw[← h1,h,h2]
 subst this
 exact⟨rfl,by omega⟩
section avgen
variable {w:World} {St:Nat→Nat→Prop} {st st':List Ob} {β β':Nat→Option Nat}
mutual
theorem jY (N:Nat) (hC:∀ (c:Cl) (u:Value),FT N c=true→RdC w St st β c u→RdC w St st' β' c u) (hL:∀ (l i off:Nat) (u:Value),l<N→AVR w St st β (.lp l i off) u→AVR w St st' β' (.lp l i off) u) :
  ∀ (x:AV) (u:Value),Hm N x=true→AVR w St st β x u→AVR w St st' β' x u
 | .c x,u,hc,h=>by simp only[AVR] at h ⊢; exact hC x u (by simpa [Hm] using hc) h
 | .agg xs,u,hc,h=>by
  simp only[AVR] at h ⊢
  simp only[Hm] at hc
  obtain⟨us,h1,h2,h3⟩:=h
  refine⟨us,h1,h2,fun k c hk=>?_⟩
  obtain⟨y,hy,hr⟩:=h3 k c hk
  exact⟨y,hy,hC c y (aF.1 hc c (aY hk)) hr⟩
 | .lp l i off,u,hc,h=>hL l i off u (by simpa [Hm] using hc) h
 | .ip xs,u,_,h=>by simp only[AVR] at h ⊢; exact h
 | .tup xs,u,hc,h=>by
  simp only[AVR] at h ⊢
  obtain⟨us,h1,h2⟩:=h
  exact⟨us,h1,ou N hC hL xs us (by simpa [Hm] using hc) h2⟩
 | .undef,u,_,h=>by simp only[AVR] at h ⊢; exact h
 | .un,u,_,h=>by simp only[AVR]
 | .pin x u0,u,hc,h=>by
  simp only[AVR] at h ⊢
  exact⟨h.1,jY N hC hL x u (by simpa [Hm] using hc) h.2⟩
 | .clo f xs,u,_,h=>by simp only[AVR] at h ⊢; exact h
theorem ou (N:Nat) (hC:∀ (c:Cl) (u:Value),FT N c=true→RdC w St st β c u→RdC w St st' β' c u) (hL:∀ (l i off:Nat) (u:Value),l<N→AVR w St st β (.lp l i off) u→AVR w St st' β' (.lp l i off) u) :
  ∀ (xs:List AV) (us:List Value),Qd N xs=true→AVRs w St st β xs us→AVRs w St st' β' xs us
 | [],us,_,h=>by simp only[AVRs] at h ⊢; exact h
 | x::xs,us,hc,h=>by
  simp only[AVRs] at h ⊢
  simp only[Qd,ak] at hc
  obtain⟨y,ys,h1,h2,h3⟩:=h
  exact⟨y,ys,h1,jY N hC hL x y hc.1 h2,ou N hC hL xs ys hc.2 h3⟩
end
end avgen
section absorb
variable {w0:Bs} {St0 St:Nat→Nat→Prop} {β:Nat→Option Nat} {s:MS} {a:Act} {w:World}
def A8 (N l0 i:Nat) (R:List (List Cl)) (row':List Cl) (ob:Ob) (st:List Ob):List Ob:=(st.take N).set l0 ⟨ob.ty,ob.sz,R.set i row',ob.wr,ob.live⟩
theorem Core.absTrim (h:Core w0 St0 St β s a w) {N l0 i:Nat} {keys:List Nat} {ob:Ob} {R:List (List Cl)} {row row':List Cl} (hl0:l0<N) (hob:CO s.st l0=some ob) (hxs:ob.xs=R.set i row) (hi:i<R.length) (hwr:ob.wr=true)
  (ho:AU s.st row row' [l0] fun used=>∀ l∈used,l=l0∨N≤l) (henv:(keys.all fun k=>Hm N (BZ s.env k))=true) (hst:(A8 N l0 i R row' ob s.st).all (Az N)=true) :
  Core w0 St0 St β ⟨s.n,keys.map fun k=>(k,BZ s.env k),A8 N l0 i R row' ob s.st⟩ a w:=by
 obtain⟨hl,hlive⟩:=Aw hob
 obtain⟨φ,hφ⟩:=h.own
 have hlN:l0<(s.st.take N).length:=by
  have:=(az.1 hl).1
  rw[bC]; omega
 have hget:∀ (l:Nat) (o2:Ob),(A8 N l0 i R row' ob s.st)[l]?=some o2→l<N∧((l=l0∧o2=⟨ob.ty,ob.sz,R.set i row',ob.wr,ob.live⟩)∨(l≠l0∧s.st[l]?=some o2)):=by
  intro l o2 h2
  unfold A8 at h2
  rw[bZ] at h2
  by_cases e:l0=l
  ·subst e
   simp only[hlN,bD,ah] at h2
   exact⟨hl0,.inl ⟨rfl,h2.symm⟩⟩
  ·simp only[e,aT] at h2
   rw[yS] at h2
   split at h2
   ·rename_i hlt; exact⟨hlt,.inr ⟨fun e2=>e e2.symm,h2⟩⟩
   ·cases h2
 have hmk:∀ (l:Nat) (o2:Ob),l<N→s.st[l]?=some o2→∃ o3,(A8 N l0 i R row' ob s.st)[l]?=some o3∧o3.live=o2.live∧o3.sz=o2.sz∧o3.ty=o2.ty∧o3.xs.length=o2.xs.length∧(o2.xs = []→o3.xs = []):=by
  intro l o2 hlt h2
  unfold A8
  rw[bZ]
  by_cases e:l0=l
  ·subst e
   rw[hl] at h2
   cases h2
   refine⟨⟨ob.ty,ob.sz,R.set i row',ob.wr,ob.live⟩,by simp only[hlN,bD],rfl,rfl,rfl,by simp[hxs],fun he=>?_⟩
   rw[hxs] at he
   have:R.length=0:=by simpa using congrArg List.length he
   omega
  ·exact⟨o2,by simp only[e,aT]; rw[yS,bz hlt]; exact h2,rfl,rfl,rfl,rfl,fun h=>h⟩
 have hr:∀ (l:Nat) (u:Value),l<N→A_ w s.st β l u→A_ w (A8 N l0 i R row' ob s.st) β l u:=by
  intro l u hlt hu
  unfold A_ at hu ⊢
  cases hq:s.st[l]? with
  | none=>simp[hq] at hu
  | some o2 =>
   obtain⟨o3,p1,p2,p3,p4,p5,p6⟩:=hmk l o2 hlt hq
   simp only[hq] at hu
   simp only[p1]
   refine⟨hu.1,fun hlv=>?_⟩
   have h2:=hu.2 (by rw[← p2]; exact hlv)
   cases hβ:β l with
   | none=>simp only[hβ] at h2 ⊢; exact⟨h2.1,p6 h2.2⟩
   | some b=>simp only[hβ] at h2 ⊢; simpa only[p3,p4,p5] using h2
 have hC:∀ (c:Cl) (u:Value),FT N c=true→RdC w St s.st β c u→RdC w St (A8 N l0 i R row' ob s.st) β c u:=by
  intro c u hc hu
  cases c with
  | ref l=>exact hr l u (by simpa [FT] using hc) hu
  | v x=>exact hu
  | sl x=>exact hu
  | ow ty sz x=>simp[RdC,RdD] at hu
 have hBB:∀ (c:Cl) (u:Value),FT N c=true→RdB w St s.st β c u→RdB w St (A8 N l0 i R row' ob s.st) β c u:=by
  intro c u hc hu
  cases c with
  | ow ty sz x=>exact hu
  | v x=>exact hC (.v x) u hc hu
  | sl x=>exact hC (.sl x) u hc hu
  | ref l=>exact hC (.ref l) u hc hu
 have hA:=jY (w:=w) (St:=St) (st:=s.st) (st':=A8 N l0 i R row' ob s.st) (β:=β) (β':=β) N hC (fun l i off u hlt hu=>by
  simp only[AVR] at hu ⊢
  cases hq:s.st[l]? with
  | none=>simp[hq] at hu
  | some o2 =>
   obtain⟨o3,p1,p2,p3,_⟩:=hmk l o2 hlt hq
   simp only[hq] at hu
   simp only[p1,p2,p3]
   exact hu)
 have hnr:∀ (l:Nat) (o2:Ob),(A8 N l0 i R row' ob s.st)[l]?=some o2→∀ (k:Nat) (c:Cl),o2.xs.flatten[k]?=some c→FT N c=true:=by
  intro l o2 h2 k c hk
  have hno:=aF.1 hst o2 (aY h2)
  obtain⟨x,hx,hcx⟩:=abd.1 (aY hk)
  simp only[Az,sV] at hno
  rcases hno with hno | hno
  ·have:=aF.1 (aF.1 hno x hx) c hcx
   cases c<;>simp_all [AO,FT]
  ·exact aF.1 (aF.1 hno x hx) c hcx
 have hrow:(R.set i row)[i]?=some row:=by rw[bZ]; simp[hi]
 have hrow':(R.set i row')[i]?=some row':=by rw[bZ]; simp[hi]
 have hβcases:∀ b,β l0=some b→∃ (cs:Array Value),w.heap[b]?=some (.cells cs ob.ty (0,0))∧row.length=ob.sz∧row'.length=ob.sz∧(∀ x∈R.set i row',x.length=ob.sz) ∧
   ∃ (used:List Nat) (Φ:Nat→Nat→Prop),(∀ l∈used,l=l0∨N≤l)∧(∀ (j:Nat) (c:Cl),row'[j]?=some c→∃ y,cs[i*ob.sz+j]?=some y∧RdO w St c y (Φ j))∧(∀ k x,Φ k x→∃ l,l≠l0∧l∈used∧Fp s.st β φ l x∧∀ o2,s.st[l]?=some o2→o2.wr=true) ∧
    (∀ k k' x,Φ k x→Φ k' x→k=k')∧∀ (k:Nat) (c:Cl),(R.set i row').flatten[k]?=some c→(∃ j,j<ob.sz∧k=i*ob.sz+j∧row'[j]?=some c)∨((∀ j,j<ob.sz→k≠i*ob.sz+j)∧ob.xs.flatten[k]?=some c):=by
  intro b hb
  obtain⟨_,_,cs,g1,g2,g3⟩:=h.obs l0 ob b hl hlive hb
  have hrl:row.length=ob.sz:=g2 row (by rw[hxs]; exact aY hrow)
  have hcr:∀ (j:Nat) (c:Cl),row[j]?=some c→∃ y,cs[i*ob.sz+j]?=some y∧RdB w St s.st β c y:=fun j c hj=>g3 _ c (EL g2 i j row c (by rw[hxs]; exact hrow) hj)
  have hvs:∃ vs:List Value,vs.length=row.length∧∀ (j:Nat),j<row.length→vs[j]?=cs[i*ob.sz+j]?:=by
   refine⟨(List.range row.length).map fun j=>(cs[i*ob.sz+j]?).getD Go.undef,by simp,fun j hj=>?_⟩
   obtain⟨y,hy,_⟩:=hcr j _ (aA hj)
   simp[hj,hy]
  obtain⟨vs,hv1,hv2⟩:=hvs
  have hnow:∀ (j:Nat) (c:Cl),row[j]?=some c→E8 c=false:=by
   have gen:∀ (xs ys:List Cl) (us:List Nat) (K:List Nat→Prop),AU s.st xs ys us K→∀ (j:Nat) (c:Cl),xs[j]?=some c→E8 c=false:=by
    intro xs
    induction xs with
    | nil=>intro ys us K _ j c hj; simp at hj
    | cons x xs ih =>
     intro ys us K ho j c hj
     cases ys with
     | nil=>simp[AU] at ho
     | cons y ys =>
      have pl:x=y∧AO y=true∧AU s.st xs ys us K→E8 c=false:=by
       rintro⟨rfl,hp,hrest⟩
       cases j with
       | zero=>simp only[aB,ah] at hj; subst hj; exact F6 hp
       | succ j=>exact ih ys us K hrest j c (by simpa using hj)
      cases y with
      | v z=>exact pl (by simpa only[AU] using ho)
      | sl z=>exact pl (by simpa only[AU] using ho)
      | ref z=>exact pl (by simpa only[AU] using ho)
      | ow ty sz zs =>
       simp only[AU] at ho
       split at ho
       ·rename_i l
        split at ho
        ·cases j with
         | zero=>simp only[aB,ah] at hj; subst hj; rfl
         | succ j=>exact ih ys _ K ho.2.2.2.2.2.2 j c (by simpa using hj)
        ·exact ho.elim
       ·cases j with
        | zero=>simp only[aB,ah] at hj; subst hj; rfl
        | succ j=>exact ih ys us K ho.2 j c (by simpa using hj)
       ·exact ho.elim
   exact gen row row' [l0] _ ho
  obtain⟨used,Φ,r1,r2,r3,r4,r5,r6⟩:=XH h hφ row row' vs [l0] _ hv1 (fun j c hj=>by
   obtain⟨y,hy,hr⟩:=hcr j c hj
   exact⟨y,by rw[hv2 j (az.1 hj).1]; exact hy,hr.toC (hnow j c hj)⟩) ho
  have hset:∀ x∈R.set i row',x.length=ob.sz:=fun x hx=>by
   rcases aaH hx with h' | h'
   ·obtain⟨m,hm,rfl⟩:=aaz.1 h'
    by_cases e:m=i
    ·subst e
     have:(R.set m row')[m]?=some row':=hrow'
     obtain⟨m2,hm2,he2⟩:=aaz.1 hx
     by_cases e2:m2=m
     ·subst e2
      rw[abb] at he2
      simp at he2
      rw[← he2,r3,hrl]
     ·rw[abb] at he2
      have e3:¬ m=m2:=fun h=>e2 h.symm
      simp only[e3,aT] at he2
      rw[← he2]
      refine g2 _ ?_
      rw[hxs]
      refine aaz.2 ⟨m2,by simpa using hm2, ?_⟩
      rw[abb]
      simp[e3]
    ·refine g2 _ ?_
     rw[hxs]
     refine aaz.2 ⟨m,by simpa using hm, ?_⟩
     rw[abb]
     have e3:¬ i=m:=fun h=>e h.symm
     simp[e3]
   ·rw[h',r3,hrl]
  refine⟨cs,g1,hrl,by rw[r3,hrl],hset,used,Φ,r1,fun j c hj=>?_,fun k x hx=>?_,r6,fun k c hk=>?_⟩
  ·obtain⟨y,hy,hr⟩:=r4 j c hj
   have hjl:j<row.length:=by rw[← r3]; exact(az.1 hj).1
   exact⟨y,by rw[← hv2 j hjl]; exact hy,hr⟩
  ·obtain⟨l,q1,q2,q3,q4⟩:=r5 k x hx
   exact⟨l,fun e=>q1 (by simp[e]),q2,q3,q4⟩
  ·obtain⟨i',j,x,q1,q2,q3,q4⟩:=Vz hset hk
   by_cases e:i'=i
   ·subst e
    rw[hrow'] at q1
    cases q1
    exact .inl ⟨j,q4,q3,q2⟩
   ·refine .inr ⟨fun j' hj' e2=>e (ABZ q4 hj' (q3▸e2)).1, ?_⟩
    subst q3
    refine EL g2 i' j x c ?_ q2
    rw[hxs,bZ]
    rw[bZ] at q1
    have e3:¬ i=i':=fun h=>e h.symm
    simp only[e3,aT] at q1 ⊢
    exact q1
 exact {
  defers:=h.defers
  size:=h.size
  lim:=h.lim
  env:=fun k=>by
   simp only[oU]
   split
   ·rename_i hk; exact hA _ _ (aF.1 henv k hk) (h.env k)
   ·simp only[AVR]
  below:=h.below,st0:=h.st0,stOld:=h.stOld,stIn:=h.stIn
  obs:=fun l o2 b h2 hlv hβ=>by
   obtain⟨hlt,⟨rfl,rfl⟩ | ⟨hne,h3⟩⟩:=hget l o2 h2
   ·obtain⟨q1,q2,_⟩:=h.obs l ob b hl hlive hβ
    obtain⟨cs,g1,g2,g3,g4,used,Φ,r1,r2,r3,r4,r5⟩:=hβcases b hβ
    refine⟨q1,q2,cs,g1,g4,fun k c hk=>?_⟩
    rcases r5 k c hk with ⟨j,hj,rfl,hc⟩ | ⟨_,hc⟩
    ·obtain⟨y,hy,hr⟩:=r2 j c hc
     exact⟨y,hy,hr.toB⟩
    ·obtain⟨_,_,cs',p1,p2,p3⟩:=h.obs l ob b hl hlive hβ
     rw[g1] at p1
     cases p1
     obtain⟨u,hu,hr⟩:=p3 k c hc
     exact⟨u,hu,hBB c u (hnr l _ h2 k c hk) hr⟩
   ·obtain⟨q1,q2,cs,g1,g2,g3⟩:=h.obs l o2 b h3 hlv hβ
    refine⟨q1,q2,cs,g1,g2,fun k c hk=>?_⟩
    obtain⟨u,hu,hr⟩:=g3 k c hk
    exact⟨u,hu,hBB c u (hnr l o2 h2 k c hk) hr⟩
  nil:=fun l o2 h2 hlv hβ=>by
   obtain⟨hlt,⟨rfl,rfl⟩ | ⟨hne,h3⟩⟩:=hget l o2 h2
   ·have:=h.nil l ob hl hlive hβ
    rw[hxs] at this
    have:R.length=0:=by simpa using congrArg List.length this
    omega
   ·exact h.nil l o2 h3 hlv hβ
  inj:=fun l l' o1 o2 b h1 h2 h3 h4 h5 h6=>by
   have key:∀ (l:Nat) (o1:Ob),(A8 N l0 i R row' ob s.st)[l]?=some o1→o1.live=true→∃ o,s.st[l]?=some o∧o.live=true:=by
    intro l o1 h1 h3
    obtain⟨_,⟨rfl,rfl⟩ | ⟨_,q⟩⟩:=hget l o1 h1
    ·exact⟨ob,hl,hlive⟩
    ·exact⟨o1,q,h3⟩
   obtain⟨p1,q1,r1⟩:=key l o1 h1 h3
   obtain⟨p2,q2,r2⟩:=key l' o2 h2 h4
   exact h.inj l l' p1 p2 b q1 q2 r1 r2 h5 h6
  sep:=fun l o2 b o h2 hlv hβ hbo=>by
   obtain⟨hlt,⟨rfl,rfl⟩ | ⟨hne,h3⟩⟩:=hget l o2 h2
   ·have:=h.sep l ob b o hl hlive hβ hbo
    rw[hwr] at this
    cases this.1
   ·exact h.sep l o2 b o h3 hlv hβ hbo
  own:=by
   cases hβ0:β l0 with
   | none =>
    refine h.own.move id (fun x hx=>⟨⟨hx.1,hx.2.1,hx.2.2.1,hx.2.2.2.1,fun l o2 h2 hlv=>?_⟩,rfl⟩) (fun _ _ h=>h) (fun _ _ _=>rfl) (fun l o2 b k c h2 hlv hβ hk hc=>?_) (fun _ _ _ _ _ _ _ _ e=>e)
    ·obtain⟨_,⟨rfl,rfl⟩ | ⟨_,q⟩⟩:=hget l o2 h2
     ·rw[hβ0]; simp
     ·exact hx.2.2.2.2 l o2 q hlv
    ·obtain⟨_,⟨rfl,rfl⟩ | ⟨_,q⟩⟩:=hget l o2 h2
     ·rw[hβ0] at hβ; cases hβ
     ·exact⟨o2,b,q,hlv,hβ,hk,rfl⟩
   | some b0 =>
    obtain⟨cs,g1,g2,g3,g4,used,Φ,r1,r2,r3,r4,r5⟩:=hβcases b0 hβ0
    have hΦN:∀ k x,Φ k x→∃ l,N≤l∧Fp s.st β φ l x∧∀ o2,s.st[l]?=some o2→o2.wr=true:=fun k x hx=>by
     obtain⟨l,q1,q2,q3,q4⟩:=r3 k x hx
     rcases r1 l q2 with e | e
     ·exact absurd e q1
     ·exact⟨l,e,q3,q4⟩
    refine⟨fun l k x=>(l=l0∧∃ j,j<ob.sz∧k=i*ob.sz+j∧Φ j x)∨(l<N∧(l=l0→∀ j,j<ob.sz→k≠i*ob.sz+j)∧φ l k x), ?_, ?_, ?_⟩
    ·intro l o2 b k c h2 hlv hβ hk hc
     obtain⟨hlt,⟨rfl,rfl⟩ | ⟨hne,h3⟩⟩:=hget l o2 h2
     ·rw[hβ0] at hβ
      cases hβ
      rcases r5 k c hk with ⟨j,hj,rfl,hcj⟩ | ⟨hnj,hck⟩
      ·obtain⟨y,hy,hr⟩:=r2 j c hcj
       exact⟨y,by simp[World.cell?,g1,hy],RdO.mono (fun _ _ h=>h) (fun _ _ _=>rfl) c y _ _ (fun x hx=>.inl ⟨rfl,j,hj,rfl,hx⟩) (fun _ _=>rfl) hr⟩
      ·obtain⟨u,hu,hr⟩:=hφ.1 l ob b0 k c hl hlive hβ0 hck hc
       exact⟨u,hu,RdO.mono (fun _ _ h=>h) (fun _ _ _=>rfl) c u _ _ (fun x hx=>.inr ⟨hlt,fun _=>hnj,hx⟩) (fun _ _=>rfl) hr⟩
     ·obtain⟨u,hu,hr⟩:=hφ.1 l o2 b k c h3 hlv hβ hk hc
      exact⟨u,hu,RdO.mono (fun _ _ h=>h) (fun _ _ _=>rfl) c u _ _ (fun x hx=>.inr ⟨hlt,fun e=>absurd e hne,hx⟩) (fun _ _=>rfl) hr⟩
    ·rintro l k x (⟨rfl,j,hj,rfl,hx⟩ | ⟨hlt,hnj,hx⟩)
     ·obtain⟨l2,q1,q2,q3⟩:=hΦN j x hx
      obtain⟨t1,t2,t3⟩:=Qb h hφ q2 q3
      obtain⟨o3,p1,p2,_⟩:=hmk l ob hl0 hl
      refine⟨⟨o3,b0,p1,by rw[p2]; exact hlive,hβ0⟩,t1,fun h=>h,t2,t3,fun l' o2 h2 hlv hb=>?_⟩
      obtain⟨hlt',hcase⟩:=hget l' o2 h2
      have:Fp s.st β φ l' x:=by
       rcases hcase with ⟨rfl,rfl⟩ | ⟨_,q⟩
       ·exact⟨ob,hl,hlive,.inl hb⟩
       ·exact⟨o2,q,hlv,.inl hb⟩
      have:=GR h hφ q2 this
      omega
     ·obtain⟨⟨o2,b,p1,p2,p3⟩,q1,q2,q3,q4,q5⟩:=hφ.2.1 l k x hx
      obtain⟨o3,s1,s2,_⟩:=hmk l o2 hlt p1
      refine⟨⟨o3,b,s1,by rw[s2]; exact p2,p3⟩,q1,q2,q3,q4,fun l' o4 h4 hlv=>?_⟩
      obtain⟨_,⟨rfl,rfl⟩ | ⟨_,q⟩⟩:=hget l' o4 h4
      ·exact q5 l' ob hl hlive
      ·exact q5 l' o4 q hlv
    ·rintro l l' k k' x (⟨rfl,j,hj,rfl,hx⟩ | ⟨hlt,hnj,hx⟩) (⟨rfl,j',hj',rfl,hx'⟩ | ⟨hlt',hnj',hx'⟩)
     ·rw[r4 j j' x hx hx']; exact⟨rfl,rfl⟩
     ·obtain⟨l2,q1,q2,_⟩:=hΦN j x hx
      obtain⟨⟨o2,b,p1,p2,p3⟩,_⟩:=hφ.2.1 l' k' x hx'
      have:=GR h hφ q2 ⟨o2,p1,p2,.inr ⟨k',hx'⟩⟩
      omega
     ·obtain⟨l2,q1,q2,_⟩:=hΦN j' x hx'
      obtain⟨⟨o2,b,p1,p2,p3⟩,_⟩:=hφ.2.1 l k x hx
      have:=GR h hφ q2 ⟨o2,p1,p2,.inr ⟨k,hx⟩⟩
      omega
     ·exact hφ.2.2 l l' k k' x hx hx' }
end absorb
def zG (N l0:Nat) (keys:List Nat) (s t:MS):Prop:=∃ (i:Nat) (R:List (List Cl)) (row row':List Cl) (ob:Ob),(l0<N∧CO s.st l0=some ob∧ob.xs=R.set i row∧i<R.length∧ob.wr=true)∧AU s.st row row' [l0] (fun used=>∀ l∈used,l=l0∨N≤l) ∧
 ((keys.all fun k=>Hm N (BZ s.env k))=true∧(A8 N l0 i R row' ob s.st).all (Az N)=true)∧(⟨s.n,keys.map fun k=>(k,BZ s.env k),A8 N l0 i R row' ob s.st⟩:MS)=t
theorem LoopA.mk {s:MS} {body:MS→(MS→Prop)→Prop} (N l0:Nat) (keys:List Nat) {A:Type} (f:A→MS) (p:A→Prop) (μ:A→Nat) (x0:A) (h0:OU N keys s∧trim N keys s=f x0∧p x0)
  (h:∀ x,p x→body (f x) fun s'=>∃ y,True∧((OU N keys s'∧trim N keys s'=f y)∨zG N l0 keys s' (f y))∧p y∧μ y<μ x):LoopK s body:=
 ⟨fun _=>True,fun s t=>(OU N keys s∧trim N keys s=t)∨zG N l0 keys s t,A,f,p,μ,fun s t _ h=>by
  rcases h with ⟨h1,h2⟩ | ⟨i,R,row,row',ob,⟨g1,g2,g3,g4,g5⟩,g6,⟨g7,g8⟩,g9⟩
  ·exact⟨by rw[← h2]; rfl,fun w0 St0 St β a w hc=>⟨St,β,by rw[← h2]; exact hc.trim h1⟩⟩
  ·exact⟨by rw[← g9],fun w0 St0 St β a w hc=>⟨St,β,by rw[← g9]; exact hc.absTrim g1 g2 g3 g4 g5 g6 g7 g8⟩⟩,⟨x0,trivial,.inl ⟨h0.1,h0.2.1⟩,h0.2.2⟩,h⟩
theorem LoopK.mk {s:MS} {body:MS→(MS→Prop)→Prop} (N:Nat) (keys:List Nat) {A:Type} (f:A→MS) (p:A→Prop) (μ:A→Nat) (x0:A) (h0:OU N keys s∧trim N keys s=f x0∧p x0)
  (h:∀ x,p x→body (f x) fun s'=>∃ y,OU N keys s'∧trim N keys s'=f y∧p y∧μ y<μ x):LoopK s body:=
 ⟨OU N keys,fun s t=>trim N keys s=t,A,f,p,μ,fun s t h1 h2=>⟨by rw[← h2]; rfl,fun w0 St0 St β a w h=>⟨St,β,by rw[← h2]; exact h.trim h1⟩⟩,⟨x0,h0⟩,h⟩
theorem LoopR.mk {s:MS} {body:MS→(MS→Prop)→Prop} (keys:List Nat) {A:Type} (f:A→MS) (p:A→Prop) (μ:A→Nat) (x0:A) (sel0:List (Nat×Bool)) (h0:RF sel0 keys s∧rel sel0 keys s=f x0) (hp:p x0)
  (h:∀ x,p x→body (f x) fun s'=>∃ y,True∧(∃ sel,RF sel keys s'∧rel sel keys s'=f y)∧p y∧μ y<μ x):LoopK s body:=
 ⟨fun _=>True,fun s t=>∃ sel,RF sel keys s∧rel sel keys s=t,A,f,p,μ,fun s t _ ⟨sel,h1,h2⟩=>⟨by rw[← h2]; rfl,fun w0 St0 St β a w h=>⟨St,Tq sel β,by rw[← h2]; exact h.rel h1⟩⟩,⟨x0,trivial,⟨sel0,h0⟩,hp⟩,h⟩
theorem LoopB.mk {s:MS} {body:MS→(MS→Prop)→Prop} (N l0:Nat) (keys:List Nat) {A:Type} (f:A→MS) (p:A→Prop) (μ:A→Nat) (x0:A) (sel0:List (Nat×Bool)) (h0:RF sel0 keys s∧rel sel0 keys s=f x0) (hp:p x0)
  (h:∀ x,p x→body (f x) fun s'=>∃ y,True∧(∃ sel,RF sel keys s'∧(rel sel keys s'=f y∨zG N l0 keys (rel sel keys s') (f y)))∧p y∧μ y<μ x):LoopK s body:=
 ⟨fun _=>True,fun s t=>∃ sel,RF sel keys s∧(rel sel keys s=t∨zG N l0 keys (rel sel keys s) t),A,f,p,μ,fun s t _ ⟨sel,h1,h2⟩=>by
  rcases h2 with h2 | ⟨i,R,row,row',ob,⟨g1,g2,g3,g4,g5⟩,g6,⟨g7,g8⟩,g9⟩
  ·exact⟨by rw[← h2]; rfl,fun w0 St0 St β a w h=>⟨St,Tq sel β,by rw[← h2]; exact h.rel h1⟩⟩
  ·exact⟨by rw[← g9]; rfl,fun w0 St0 St β a w hc=>⟨St,Tq sel β,by rw[← g9]; exact(hc.rel h1).absTrim g1 g2 g3 g4 g5 g6 g7 g8⟩⟩,⟨x0,trivial,⟨sel0,h0.1,.inl h0.2⟩,hp⟩,h⟩
theorem ADz {sel:List (Nat×Bool)} {x:List Cl} (h:x.all Nh=true):x.map (Qy sel)=x:=by
 conv=>rhs; rw[← List.map_id x]
 refine aaM fun c hc=>?_
 have:=aF.1 h c hc
 cases c<;>simp_all [Nh,Qy]
theorem AD0 {sel:List (Nat×Bool)} {x:List Cl} (h:x.all Nh=true):x.all (wP sel)=true:=aF.2 fun c hc=>by
 have:=aF.1 h c hc
 cases c<;>simp_all [Nh,wP]
theorem I5 {α:Type} {f:α→List Cl} (hf:∀ x,(f x).all Nh=true) (sel:List (Nat×Bool)) (out:List α) (r row':List Cl) :
  (out.map f ++ [r]).map (fun x=>x.map (Qy sel))=(out.map f ++ [row']).set out.length (r.map (Qy sel)):=by
 rw[Vp,aa5 _ _ (by simp)]
 congr 1
 ·conv=>rhs; rw[← List.map_id (out.map f)]
  refine aaM fun x hx=>?_
  obtain⟨y,_,rfl⟩:=WY.1 hx
  exact ADz (hf y)
 ·simp
theorem BJ {α:Type} {f:α→List Cl} (out:List α) (x:α):(out.map f ++ [f x]).set out.length (f x)=(out ++ [x]).map f:=by
 rw[aa5 _ _ (by simp)]
 simp
theorem I7 {α:Type} {f:α→List Cl} (hf:∀ x,(f x).all Nh=true) (sel:List (Nat×Bool)) (out:List α) {r:List Cl} (hr:r.all (wP sel)=true):((out.map f ++ [r]).all fun x=>x.all (wP sel))=true:=by
 rw[Zi]
 simp only[bK,dm,aS,ak,hr,yY]
 refine aF.2 fun x hx=>?_
 obtain⟨y,_,rfl⟩:=WY.1 hx
 exact AD0 (hf y)
theorem AQ {α:Type} {f:α→List Cl} {l:List α} (h:∀ x,CB (f x)=true):F5 (l.map f)=true:=by
 unfold F5
 rw[List.all_map]
 exact aF.2 fun x _=>h x
end Go.Vm
