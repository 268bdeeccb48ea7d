/- A part. -/
import Derived.Test.YtdagmocgcanknaaGreatZs
import Derived.Test.YtdagmocgcanknaaGreatZq
import Derived.Test.YtdagmocgcanknaaGreatZn
set_option linter.unusedSimpArgs false
set_option linter.unusedVariables false
set_option maxHeartbeats 8000000
set_option maxRecDepth 10000
open Go.Proofs.Tryz
namespace Go.Proofs.YtdagmocgcanknaaGreat
open Go.Vm
theorem Yh (w:DWorld) (hf:AU w):Ctr prog 65 [.agg w.c] [.val (.c (.v (.bool (X6 w))))]:=by
 refine CM call65 func65 ntmps65 results65 fun hw=>?_;have hld:=AA5 hf;unfold X6;simp only[go_sem];refine AAe 1 (A:=Nat) (fun x=>[(3,.c (.v (.int .i64 (x))))]) (fun _=>[⟨44,14,[w.c],true,true⟩]) (FW w.deeds (deed1 w)) (fun x=>w.deeds.length-x) 0 ⟨⟨rfl,rfl⟩,rfl,D9⟩ ?_;intro j hj;refine AOd (fun h=>?_) fun h=>?_
 .have hj':j<w.deeds.length:=by simpa using h
  simp only[go_sem,AA _ hj',hj'];try refine AAP ?_
  try simp only[go_sem,AA _ hj',hj']
  first | refine CY (U9 w.deeds[j]) ?_ | refine CW (U9 w.deeds[j]) fun _=>?_
  rcases q1:Fv w.deeds[j] with _ | _
  .simp only[go_sem,q1,Ba (p:=deed1 w) hj' (by simp only[deed1,q1,ac])]
  rcases q2:decide (w.deeds[j].inv>=w.time) with _ | _;rotate_left
  .simp only[go_sem,q1,q2,Ba (p:=deed1 w) hj' (by simp only[deed1,q1,q2]; rfl)]
  rcases q3:decide (w.deeds[j].lin>=w.time) with _ | _;rotate_left
  .simp only[go_sem,q1,q2,q3,Ba (p:=deed1 w) hj' (by simp only[deed1,q1,q2,q3]; rfl)]
  rcases q4:decide (w.deeds[j].ret>=w.time) with _ | _;rotate_left
  .simp only[go_sem,q1,q2,q3,q4,Ba (p:=deed1 w) hj' (by simp only[deed1,q1,q2,q3,q4]; rfl)]
  exact AL7
 have hj':j=w.deeds.length:=APM;subst hj';simp only[go_sem,DX hj]
noncomputable def V8 (w:DWorld):Bool:=headB w&&(J4 w.d&&(!decide (w.d.ver>1000000)&&(((w.p.length:Int)==5)&&(PH w.p w.e&&(((w.tasks.length:Int)==5)&&(X6 w&&(lQ w&&(w.d.l.all (Wj w)&&(SY w&&qK w)))))))))
theorem dw (w:DWorld) (hf:AU w):Ctr prog 19 [.agg w.c] [.val (.c (.v (.bool (V8 w))))]:=by
 refine CM call19 func19 ntmps19 results19 fun hw=>?_;have hlt:=Wi hf;unfold V8 headB;simp only[go_sem,aW,aJ,aA];try refine AAP ?_
 try simp only[go_sem]
 first | refine CY (WV w.c0) ?_ | refine CW (WV w.c0) fun _=>?_
 rcases h1:OG w.c0 with _ | _
 .simp only[go_sem,h1,ac,ah,ay]
 simp only[go_sem,h1,ah];try refine AAP ?_
 try simp only[go_sem]
 first | refine AAt _ (AP w.time 0 1000000) ?_ | refine AAO _ (AP w.time 0 1000000) fun _=>?_
 rcases h2:Ae w.time 0 1000000 with _ | _
 .simp only[go_sem,h2,ac,ah,ay]
 simp only[go_sem,h2,ah];try refine AAP ?_
 try simp only[go_sem]
 first | refine AAt _ (AP w.t 1 1000000) ?_ | refine AAO _ (AP w.t 1 1000000) fun _=>?_
 rcases h3:Ae w.t 1 1000000 with _ | _
 .simp only[go_sem,h3,ac,ah,ay]
 simp only[go_sem,h3,ah];try refine AAP ?_
 try simp only[go_sem]
 first | refine AAt _ (AP w.e 0 1000000) ?_ | refine AAO _ (AP w.e 0 1000000) fun _=>?_
 rcases h4:Ae w.e 0 1000000 with _ | _
 .simp only[go_sem,h4,ac,ah,ay]
 simp only[go_sem,h4,ah];try refine AAP ?_
 try simp only[go_sem]
 first | refine CY (SV w.d (lenD hf)) ?_ | refine CW (SV w.d (lenD hf)) fun _=>?_
 rcases h5:J4 w.d with _ | _
 .simp only[go_sem,h5,ac,ah,ay]
 simp only[go_sem,h5,ah];rcases h6:decide (w.d.ver>1000000) with _ | _;rotate_left
 .exact AOO
 rcases h12:((w.p.length:Int)==5) with _ | _
 .have g:((w.p.length:Int) != 5)=true:=by simp only[bne,h12,aH]
  simp only[go_sem,h6,g,aH,ac,ah];try refine AAP ?_
  try simp only[go_sem,h6,g]
 have g12:((w.p.length:Int) != 5)=false:=by simp only[bne,h12,aD]
 simp only[go_sem,h6,g12,aH,ah];try refine AAP ?_
 try simp only[go_sem,h6,g12]
 first | refine AAt _ (WY w.p w.e (AF4 hf)) ?_ | refine AAO _ (WY w.p w.e (AF4 hf)) fun _=>?_
 rcases h13:PH w.p w.e with _ | _
 .simp only[go_sem,h13,ac]
 rcases h11:((w.tasks.length:Int)==5) with _ | _
 .have g:((w.tasks.length:Int) != 5)=true:=by simp only[bne,h11,aH]
  simp only[go_sem,h13,g,ac,ah];try refine AAP ?_
  try simp only[go_sem,h13,g]
 have g11:((w.tasks.length:Int) != 5)=false:=by simp only[bne,h11,aD]
 simp only[go_sem,h13,g11,ah];try refine AAP ?_
 try simp only[go_sem,h13,g11]
 try refine AAP ?_
 try simp only[go_sem]
 first | refine CY (Yh w hf) ?_ | refine CW (Yh w hf) fun _=>?_
 rcases h7:X6 w with _ | _
 .simp only[go_sem,h7,ac,ah,ay]
 simp only[go_sem,h7,ah];try refine AAP ?_
 try simp only[go_sem]
 first | refine CY (h_ w hf) ?_ | refine CW (h_ w hf) fun _=>?_
 rcases h8:lQ w with _ | _
 .simp only[go_sem,h8,ac,ah,ay]
 simp only[go_sem,h8,ah];try refine AAP ?_
 try simp only[go_sem]
 first | refine CY (lS w hf) ?_ | refine CW (lS w hf) fun _=>?_
 rcases h9:w.d.l.all (Wj w) with _ | _
 .simp only[go_sem,h9,ac,ah,ay]
 simp only[go_sem,h9,ah];try refine AAP ?_
 try simp only[go_sem]
 first | refine CY (Y2 w hf) ?_ | refine CW (Y2 w hf) fun _=>?_
 rcases h10:SY w with _ | _
 .simp only[go_sem,h10,ac,ah,ay]
 simp only[go_sem,h10,ah];have hl5:w.tasks.length=w.p.length:=by exact ANz
 unfold qK;refine AAe 1 (A:=Nat) (fun x=>[(3,.c (.v (.int .i64 (x))))]) (fun _=>[⟨44,14,[w.c],true,true⟩]) (wO w.tasks fun k t=>P5 w k t (w.p[k]?.getD 0)) (fun x=>w.tasks.length-x) 0 ⟨⟨rfl,rfl⟩,rfl,qJ⟩ ?_;intro k hk;refine AOd (fun h=>?_) fun h=>?_
 .have hk':k<w.tasks.length:=by simpa using h
  have hp:k<w.p.length:=AOl;have e1:(w.p[k]?.getD 0)=w.p[k]:=by rw[am hp]; rfl
  simp only[go_sem,AA _ hk',hk'];try refine AAP ?_
  try simp only[go_sem,AA _ hk',hk']
  first | refine CY (TA w k hf hk' hp) ?_ | refine CW (TA w k hf hk' hp) fun _=>?_
  rcases h14:P5 w k w.tasks[k] w.p[k] with _ | _
  .simp only[go_sem,h14,Je (p:=fun k t=>P5 w k t (w.p[k]?.getD 0)) hk' (by rw[e1]; exact h14)]
  .exact AMZ
 have hk':k=w.tasks.length:=by have:=hk.1; simp at h; omega
 subst hk';rw[Tq hk];exact AJC
theorem AFs (w:DWorld) (r:DRef) {x:DRow} (hx:x∈Dc w r):0<=x.id/\x.id<=1000000000:=by
 unfold Dc at hx;split at hx
 .simp at hx
 .rename_i b hb;rcases h:C_ w.c0.cols b.g with _ | l
  .rw[h] at hx; simp at hx
  .rw[h] at hx;have:=(IU (SC h)).2.2 x hx;exact⟨this.1,this.2.1⟩
theorem kS {α:Type} {l:List α} {p q:α->Bool} (h:∀ x∈l,p x=q x):l.all p=l.all q:=by rw[Bool.eq_iff_iff,aC,aC];exact⟨fun h2 x hx=>by rw[<- h x hx]; exact h2 x hx,fun h2 x hx=>by rw[h x hx]; exact h2 x hx⟩
theorem AHd {w:DWorld} (hd:J4 w.d=true):w.d.l.all (Wj w)=gm w:=by
 refine kS fun r hr=>?_;obtain⟨h1,h2,h3⟩:=ACR hd hr;unfold Wj SX lM;rcases ht:there w r with _ | _
 .simp only[ac]
 rcases k1:r.kind==1 with _ | _
 .have k2:=iL h1 k1;rw[k2];simp only[ah,ac,aH,ax,aL,aO];refine kS fun x hx=>?_;have hi:=AFs w r hx;exact(ACS h1 h2 h3 x.id AOl).symm
 .have k2:(r.kind==2)=false:=by
   have:r.kind=1:=by simpa using k1
   rw[this]; rfl
  rw[k2];rcases hm:r.many==w.c0.slots with _ | _<;>simp[bne,hm]
theorem AFt {w:DWorld} (hd:J4 w.d=true):lQ w=(lN w&&(gp w&&Wh w)):=by
 have h:Si w.b (Qx w)=(w.b.all (Py w)&&Si w.b (Qn w)):=by
  rw[Bool.eq_iff_iff,ar,Tt,Tt,aC];constructor
  .intro h;refine⟨fun x hx=>?_,fun k hk=>?_⟩
   .obtain⟨i,hi,rfl⟩:=abt.1 hx;have:=h i hi;simp only[Qx,ar] at this;exact this.1
   .have:=h k hk;simp only[Qx,ar,wP hd] at this;exact this.2
  .rintro⟨h1,h2⟩ k hk;simp only[Qx,ar,wP hd];exact⟨h1 _ (an hk),h2 k hk⟩
 unfold lQ lN Wh;rw[h];ac_rfl
theorem vF (w:DWorld):V8 w=Dl w:=by
 unfold V8 Dl;rcases hd:J4 w.d with _ | _
 .simp only[ac]
 rw[AHd hd,AFt hd];ac_rfl
theorem jE (w:DWorld) (hf:AU w):Ctr prog 19 [.agg w.c] [.val (.c (.v (.bool (Dl w))))]:=by rw[<- vF];exact dw w hf
def V9 (w:DWorld):Bool:=decide (w.time<1000000)&&(decide (w.t<1000000)&&(decide (w.e<1000000)&&decide (w.d.ver<1000000)))
def o_ (w:DWorld):Bool:=w.time==1000000||(w.t==1000000||(w.e==1000000||w.d.ver==1000000))
theorem Yi (w:DWorld):Ctr prog 199 [.agg w.c] [.val (.c (.v (.bool (o_ w))))]:=by
 refine CM call199 func199 ntmps199 results199 fun hw=>?_
 rcases h1:w.time==1000000 with _ | _<;>rcases h2:w.t==1000000 with _ | _<;>rcases h3:w.e==1000000 with _ | _ <;>
  simp only[go_sem,h1,h2,h3,o_,P7,be]
theorem ACA {w:DWorld} (h:Dl w=true):o_ w = !V9 w:=by
 unfold Dl headB at h;simp only[ar,aa8,aaA,Ae,aQ] at h;obtain⟨⟨_,⟨_,h1⟩,⟨_,h2⟩,⟨_,h3⟩⟩,_,h4,_⟩:=h
 have key:∀ x:Int,x<=1000000->(x==1000000) = !decide (x<1000000):=fun x hx=>by
  by_cases e:x=1000000
  .subst e; rfl
  .have e1:(x==1000000)=false:=by simpa using e
   have e2:decide (x<1000000)=true:=AOn;rw[e1,e2]; rfl
 unfold o_ V9;rw[key _ h1,key _ h2,key _ h3,key _ AOl];simp only[Bool.not_and]
def Zg:DResult:=⟨[],0,false,⟨0,0,ByteArray.empty⟩⟩
def EQ:DTask:=⟨0,0,0,[],0,J5,0,0,[],0,0,0,0,0,false,[]⟩
def Ph (w:DWorld) (t:DTask):DTask:=⟨t.op,t.pc,(w.deeds.length:Int),t.r,t.id,t.q,t.ts,t.ver,t.l,t.i,t.j,t.s,t.at0,t.own,t.won,t.got⟩
def Xo (w:DWorld) (k:Int) (t:DTask) (d:DDeed):DDeed:=⟨t.op,k,d.r,d.id,d.q,d.res,d.code,d.stamp,w.time,-1,-1⟩
def BK (w:DWorld) (code:Int) (d:DDeed):DDeed:=⟨d.op,d.task,d.r,d.id,d.q,d.res,code,d.stamp,d.inv,w.time,d.ret⟩
def ACB (w:DWorld) (d:DDeed):DDeed:=⟨d.op,d.task,d.r,d.id,d.q,d.res,d.code,d.stamp,d.inv,d.lin,w.time⟩
def endW (w:DWorld) (k h:Nat):DWorld:=⟨w.c0,w.time,w.t,w.e,w.d,w.b,w.m,w.x,w.p.set k (-1),w.tasks.set k EQ,w.deeds.modify h (ACB w)⟩
def He (w:DWorld):DWorld:=⟨w.c0,IntKind.i64.wrap (w.time+1),w.t,w.e,w.d,w.b,w.m,w.x,w.p,w.tasks,w.deeds⟩
def O_ (w:DWorld) (k:Nat) (t:DTask) (d:DDeed) (code:Int):DWorld:=
 if code=0 then⟨w.c0,IntKind.i64.wrap (w.time+1),w.t,w.e,w.d,w.b,w.m,w.x,w.p,w.tasks.set k (Ph w t),w.deeds ++ [⟨t.op,k,d.r,d.id,d.q,d.res,d.code,d.stamp,w.time,-1,-1⟩]⟩
 else⟨w.c0,IntKind.i64.wrap (w.time+1),w.t,w.e,w.d,w.b,w.m,w.x,w.p.set k (-1),w.tasks,w.deeds ++ [⟨t.op,k,d.r,d.id,d.q,d.res,code,d.stamp,w.time,w.time,w.time⟩]⟩
def wdR (w:DWorld) (a b c d e f g h:Cl):List Cl:=[a,.v (.int .i64 w.c0.slots),.v (.int .i64 w.c0.bufs),.v (.int .i64 w.time),.v (.int .i64 w.t),.v (.int .i64 w.e),.v (.int .i64 w.d.ver),b,c,d,e,f,g,h]
@[go_sem] theorem AKw (w:DWorld) (a b c d e f g h:Cl):wdR w a b c d e f g h = [a,.v (.int .i64 w.c0.slots),.v (.int .i64 w.c0.bufs),.v (.int .i64 w.time),.v (.int .i64 w.t),.v (.int .i64 w.e),.v (.int .i64 w.d.ver),b,c,d,e,f,g,h]:=rfl
theorem AFu (w:DWorld) {st:List Ob} {l:Nat} {x1 x2 x3 x4 x5 x6 x7 x8:Cl} (h:st[l]?=some ⟨44,14,[wdR w x1 x2 x3 x4 x5 x6 x7 x8],true,true⟩):InlS prog 21 st [.lp l 0 0] (.c (.v (.bool (V9 w)))) st:=by
 refine AB5 (fn:=f21) call21 func21 rfl mixed ntmps21 results21 (by kernel_rfl) rfl fun m env=>?_;have hob:DF st l=some ⟨44,14,[wdR w x1 x2 x3 x4 x5 x6 x7 x8],true,true⟩:=by simp[DF,h]
 simp only[go_sem] at hob
 rcases h1:decide (w.time<1000000) with _ | _<;>rcases h2:decide (w.t<1000000) with _ | _<;>rcases h3:decide (w.e<1000000) with _ | _ <;>
  simp only[go_sem,hob,h1,h2,h3,V9,ah,ac]
def opAt (w:DWorld) (k:Int):Int:=match w.tasks[k.toNat]? with
 | some t=>t.op
 | none=>1
theorem Zh {k a b:Int} (h:Ae k a b=true) (ha:0<=a):∃ n:Nat,k=n/\(n:Int)<=b:=by simp[Ae] at h;exact⟨k.toNat,AOl,AOl⟩
theorem JG {w:DWorld} (h:Dl w=true):w.tasks.length=5/\w.p.length=5:=by unfold Dl at h;simp only[ar,qX] at h;omega
theorem Rz {α:Type} {f:α->Prop}:fitS f []:=⟨AOm,fun x hx=>by simp at hx⟩
theorem kT:BF ⟨0,0,0,⟨0,0,ByteArray.empty⟩,[]⟩:=by rw[Bc]; exact⟨by simp[G7,DPred.v],Rz⟩
theorem nrZ {a1 a2 a3 a4 a5 a6 a7 a8 a9 b1 b2 b3 b4 b5 b6 b7 b8 b9:Int} {t1 t2:ByteArray} {c1:Bool} {n1 n2 n3 n4:Value}:DR [[Cl.v (.int .i64 a1),Cl.v (.int .i64 a2),.v n1,Cl.v (.int .i64 a3),Cl.v (.int .i64 a5),Cl.v (.int .i64 a6),Cl.v (.int .i64 a7),Cl.v (.int .i64 a8),Cl.v (.int .i64 a9),Cl.v (.int .i64 b1),Cl.v (.string t1),.v n2,Cl.v (.int .i64 b2),.v n3,.v n4,Cl.v (.int .i64 b3),Cl.v (.bool c1),Cl.v (.int .i64 b4),Cl.v (.int .i64 b5),Cl.v (.string t2),Cl.v (.int .i64 b6),Cl.v (.int .i64 b7),Cl.v (.int .i64 b8),Cl.v (.int .i64 b9),Cl.v (.int .i64 a4)]]=true:=rfl
def R_ {α:Type} (p:α->Bool) (l:List α):Int:=match l.findIdx? p with
 | some i=>(i:Int)
 | none=>-1
theorem kU {α:Type} {p:α->Bool} {l:List α} {k:Nat} (hk:k<l.length) (h:FW l (fun x=>!p x) k) (hp:p l[k]=true):R_ p l=k:=by have:l.findIdx? p=some k:=List.findIdx?_eq_some_iff_getElem.2 ⟨hk,hp,fun j hj=>by simpa using h.2 j AOl hj⟩;simp[R_,this]
theorem kV {α:Type} {p:α->Bool} {l:List α} (h:FW l (fun x=>!p x) l.length):R_ p l = -1:=by
 have:l.findIdx? p=none:=List.findIdx?_eq_none_iff.2 fun x hx=>by obtain⟨i,hi,rfl⟩:=aaE hx;simpa using h.2 i hi hi
 simp[R_,this]
theorem kW {α:Type} (p:α->Bool) (l:List α):R_ p l = -1\/∃ (k:Nat) (h:k<l.length),R_ p l=k/\p l[k]=true:=by
 unfold R_;split
 .rename_i i hi;obtain⟨h1,h2,_⟩:=List.findIdx?_eq_some_iff_getElem.1 hi;exact .inr ⟨i,h1,rfl,h2⟩
 .exact .inl rfl
theorem Ew {α:Type} (f:α->α) {l:List α} {i:Nat} (h:i<l.length):l.modify i f=l.set i (f l[i]):=by
 apply abl;intro j;rw[List.getElem?_modify,wu];by_cases e:i=j
 .subst e; simp[h]
 .simp[e]
def setT (w:DWorld) (n:Nat) (t:DTask):DWorld:=⟨w.c0,w.time,w.t,w.e,w.d,w.b,w.m,w.x,w.p,w.tasks.set n t,w.deeds⟩
def GI (t:DTask) (pc:Int):DTask:=⟨t.op,pc,t.h,t.r,t.id,t.q,t.ts,t.ver,t.l,t.i,t.j,t.s,t.at0,t.own,t.won,t.got⟩
def Xp (w:DWorld) (n:Nat) (t:DTask):DWorld:=⟨w.c0,w.time,w.t,w.e,w.d,w.b,w.m,w.x,w.p.set n w.e,w.tasks.set n (GI t 1),w.deeds⟩
def codeW (w:DWorld) (n:Nat) (t:DTask) (code:Int):DWorld:=⟨w.c0,w.time,w.t,w.e,w.d,w.b,w.m,w.x,w.p,w.tasks.set n (GI t 9),w.deeds.modify t.h.toNat (BK w code)⟩
def Bv (w:DWorld) (k:Int):DTask:=w.tasks.getD k.toNat EQ
structure AtWork (w:DWorld) (n:Nat) (t:DTask) (op:Int):Prop where
 lt:n<w.tasks.length
 lp:n<w.p.length
 at_:w.tasks[n]=t
 hh:t.h.toNat<w.deeds.length
 h0:t.h=(t.h.toNat:Int)
 th:t.l.all (there w)=true
 own:ownB w t=true
 sw:swB w t (w.deeds[t.h.toNat]'hh)=true
 op_:t.op=op
 ok:Ie t n=true
 ld:w.deeds.length<=1048576
 lm:w.m.length<=1048576
 lb:w.b.length<=1048576
 lr:w.d.l.length<=1048576
 ht:w.tasks.length=5
theorem AO {st:List Ob} {l ty sz:Nat} {xs ys:List (List Cl)} {wr live:Bool} (h:DF st l=some ⟨ty,sz,xs,wr,live⟩) (hn:DR xs=true) (e:Qq xs=ys):BorX st (.ref l) (.sl ys):=.inl (by simp[Xf,h,hn,e])
theorem Nw {st:List Ob} {w:DWorld} {a b c d e f g h:Cl} (h1:BorX st a (.sl (w.c0.cols.map intC))) (h2:BorX st b (.sl (w.d.l.map DRef.c))) (h3:BorX st c (.sl (w.b.map DBuf.c))) (h4:BorX st d (.sl (w.m.map intC))) (h5:BorX st e (.sl (w.x.map DDead.c)))
  (h6:BorX st f (.sl (w.p.map intC))) (h7:BorX st g (.sl (w.tasks.map DTask.c))) (h8:BorX st h (.sl (w.deeds.map DDeed.c))):BorL st (wdR w a b c d e f g h) w.c:=
 ⟨h1,.inl rfl,.inl rfl,.inl rfl,.inl rfl,.inl rfl,.inl rfl,h2,h3,h4,h5,h6,h7,h8,trivial⟩
theorem Jp {st:List Ob} (r:DRef):BorL st r.c r.c:=⟨.inl rfl,.inl rfl,.inl rfl,.inl rfl,.inl rfl,trivial⟩
def AGf (t:DTask) (hv pc:Int) (a b c d e:Nat):List Cl:=[.v (.int .i64 t.op),.v (.int .i64 pc),.v (.int .i64 hv),.ref a,.v (.int .i64 t.id),.v (.int .i64 t.q.kind),.v (.int .i64 t.q.p.kind),.v (.int .i64 t.q.p.col),.v (.int .i64 t.q.p.op),.v (.int .i64 t.q.p.v.ty),.v (.int .i64 t.q.p.v.n),.v (.string t.q.p.v.s),.ref b,.v (.int .i64 t.q.col),.ref c,.v (.int .i64 t.ts),.v (.int .i64 t.ver),.ref d,.v (.int .i64 t.i),.v (.int .i64 t.j),.v (.int .i64 t.s),.v (.int .i64 t.at0),.v (.int .i64 t.own),.v (.bool t.won),.ref e]
theorem MW {st:List Ob} {t:DTask} {hv:Int} {a b c d e y1 y2 y3 y4 y5 z1 z2 z3 z4 z5:Nat} {xs:List (List Cl)} {u1 u2 u3 u4 u5 v1 v2 v3 v4 v5:Bool} (h1:DF st a=some ⟨y1,z1,t.r.map DVal.c,u1,v1⟩) (h2:DF st b=some ⟨y2,z2,t.q.p.l.map DPred.o,u2,v2⟩) (h3:DF st c=some ⟨y3,z3,t.q.out.map intC,u3,v3⟩)
  (h4:DF st d=some ⟨y4,z4,xs,u4,v4⟩) (h5:DF st e=some ⟨y5,z5,t.got.map DRow.o,u5,v5⟩) (eh:t.h=hv) (hxs:xs=t.l.map DRef.c):BorR st (AGf t hv t.pc a b c d e) (DTask.c t):=by
 subst eh
 subst hxs
 have g:∀ (x:Value),o8 st (.v x) (.v x):=fun x=>.inr ⟨rfl,rfl⟩
 have g1:o8 st (.ref a) (.sl (t.r.map DVal.c)):=.inl ⟨a,_,rfl,h1,Ce _,by rw[XR]⟩
 have g2:o8 st (.ref b) (.sl (t.q.p.l.map DPred.c)):=.inl ⟨b,_,rfl,h2,BZ _,by rw[tJ]⟩
 have g3:o8 st (.ref c) (.sl (t.q.out.map intC)):=.inl ⟨c,_,rfl,h3,AQ _,by rw[Ad]⟩
 have g4:o8 st (.ref d) (.sl (t.l.map DRef.c)):=.inl ⟨d,_,rfl,h4,BC _,by rw[BV]⟩
 have g5:o8 st (.ref e) (.sl (t.got.map DRow.c)):=.inl ⟨e,_,rfl,h5,Aj _,by rw[D8]⟩
 simp only[go_sem,BorR,AGf]
 exact⟨g _,g _,g _,g1,g _,g _,g _,g _,g _,g _,g _,g _,g2,g _,g3,g _,g _,g4,g _,g _,g _,g _,g _,g _,g5⟩


end Go.Proofs.YtdagmocgcanknaaGreat
namespace Go.Vm
def chS (s0 s1 s2:MS):Nat->MS
 | 0=>s0
 | 1=>s1
 | _=>s2
theorem Head.self_ (s:MS):Head s s:=⟨rfl,fun _ _ _ _ _ _ h=>⟨_,_,h⟩⟩
theorem LoopK.twice {s0 s1 s2:MS} {body:MS->(MS->Prop)->Prop} (h0:body s0 fun s'=>∃ y:Nat,True/\s'=chS s0 s1 s2 y/\y<=2/\2-y<2-0) (h1:body s1 fun s'=>∃ y:Nat,True/\s'=chS s0 s1 s2 y/\y<=2/\2-y<2-1)
  (h2:body s2 fun s'=>∃ y:Nat,True/\s'=chS s0 s1 s2 y/\y<=2/\2-y<2-2):LoopK s0 body:=
 ⟨fun _=>True,fun s t=>s=t,Nat,chS s0 s1 s2,fun x=>x<=2,fun x=>2-x,fun s t _ e=>e▸Head.self_ s,⟨0,trivial,rfl,aq _⟩,fun x hx=>by
  rcases x with _ | _ | _ | x
  .exact h0
  .exact h1
  .exact h2
  .omega⟩
theorem LoopK.once {s0 s1:MS} {body:MS->(MS->Prop)->Prop} (h0:body s0 fun s'=>∃ y:Nat,True/\s'=chS s0 s1 s1 y/\y<=1/\1-y<1-0) (h1:body s1 fun s'=>∃ y:Nat,True/\s'=chS s0 s1 s1 y/\y<=1/\1-y<1-1):LoopK s0 body:=
 ⟨fun _=>True,fun s t=>s=t,Nat,chS s0 s1 s1,fun x=>x<=1,fun x=>1-x,fun s t _ e=>e▸Head.self_ s,⟨0,trivial,rfl,aq _⟩,fun x hx=>by
  rcases x with _ | _ | x
  .exact h0
  .exact h1
  .omega⟩
end Go.Vm
namespace Go.Proofs.YtdagmocgcanknaaGreat
open Go.Vm
def kX (a:Ob) (w:DWorld):List Ob:=[a,⟨44,14,[w.o],true,true⟩]
theorem y7 {a:Ob} (ha:Aq 2 a=true) (w:DWorld):(kX a w).all (Aq 2)=true:=by simp only[kX,aI,aM,ha,ah];rfl
def d_:Ob:=⟨44,14,[[.v (.slice none 0 0),.v (.int .i64 0),.v (.int .i64 0),.v (.int .i64 0),.v (.int .i64 0),.v (.int .i64 0),.v (.int .i64 0),.v (.slice none 0 0),.v (.slice none 0 0),.v (.slice none 0 0),.v (.slice none 0 0),.v (.slice none 0 0),.v (.slice none 0 0),.v (.slice none 0 0)]],true,true⟩
